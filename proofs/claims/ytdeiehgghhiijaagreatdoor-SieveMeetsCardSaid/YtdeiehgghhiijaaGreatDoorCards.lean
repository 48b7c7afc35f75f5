/-
  DERIVED. GIVEN WITH THE SEED: THE CARDS: each row of YtdeiehgghhiijaaGreatDoorRows.lean that lists a variable, with what it lists TIED to the program's text (the seventh form; the later family's looks); each row that meets fmt, with fmt's text TOLD by the authors' own Lean function (tested against real Go, not proved from fmt's source: count such statements apart). THE CARD IS WHAT COUNTS. Prove the row's statement (the work); the ties are given (YtdeiehgghhiijaaGreatDoorTie.lean); close each card by the builder's one call (the guide's Derived/Test/ToyasCard.lean, 'card_holds'). Laid BY PROGRAM, IN A SANDBOX (cutbox-door.mjs). By AI agents, Wed Nov 11 2026. No macro, syntax, notation, axiom, sorry.
-/
import Derived.Test.YtdeiehgghhiijaaGreatDoorRows
import GoSem.ClaimSeven
namespace Go.Proofs.YtdeiehgghhiijaaGreatDoor
namespace Rows

/-- THE TIED CARD OF 'varvelaw41.SieveMeets'. -/
def sieveMeetsCard : Claim7 := { stood := { row := sieveMeetsRow, standIns := [], harness := (true, "316078e95152a23d84f32b9e0a33e51ecc6560da3af19668bf146916566b2acd"), looks := true }, kinds := [], alts := [], laidByText := true, laidKinds := [.data, .data, .data], laidTests := true, laidLooks := .later }
def SieveMeetsCardSaid : Prop := Claim7.holds Tryz.pinned (.plain (OpenSpec.ofChange sieveMeetsSpec)) sieveMeetsCard

/-- THE SECOND FORM's CARD OF 'varvelaw41.SieveMeets'. -/
def sieveMeetsUptoCard : Claim7 := { stood := { row := sieveMeetsUptoRow, standIns := [], harness := (true, "316078e95152a23d84f32b9e0a33e51ecc6560da3af19668bf146916566b2acd"), looks := true }, kinds := [], alts := [], laidByText := true, laidKinds := [.data, .data, .data], laidTests := true, laidLooks := .later }
def SieveMeetsUptoCardSaid : Prop := Claim7.holds Tryz.pinned (.plain (OpenSpec.upto sieveMeetsSpec)) sieveMeetsUptoCard
end Rows
end Go.Proofs.YtdeiehgghhiijaaGreatDoor
