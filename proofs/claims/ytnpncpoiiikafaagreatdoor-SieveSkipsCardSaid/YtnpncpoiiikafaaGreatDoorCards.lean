/-
  DERIVED. GIVEN WITH THE SEED: THE CARDS: each row of YtnpncpoiiikafaaGreatDoorRows.lean that lists a variable, with what it lists TIED to the program's text (the seventh form; the later family's looks); each row that meets fmt, with fmt's text TOLD by the authors' own Lean function (tested against real Go, not proved from fmt's source: count such statements apart). THE CARD IS WHAT COUNTS. Prove the row's statement (the work); the ties are given (YtnpncpoiiikafaaGreatDoorTie.lean); close each card by the builder's one call (the guide's Derived/Test/ToyasCard.lean, 'card_holds'). Laid BY PROGRAM, IN A SANDBOX (cutbox-door.mjs). By AI agents, Wed Nov 11 2026. No macro, syntax, notation, axiom, sorry.
-/
import Derived.Test.YtnpncpoiiikafaaGreatDoorRows
import GoSem.ClaimSeven
namespace Go.Proofs.YtnpncpoiiikafaaGreatDoor
namespace Rows

/-- THE TIED CARD OF 'varvelaw41.SieveSkips'. -/
def sieveSkipsCard : Claim7 := { stood := { row := sieveSkipsRow, standIns := [], harness := (true, "bdf30e96e7e5860bf88ee257f5aa8332f4f13de482b9f7927d83d01881a5f6f5"), looks := true }, kinds := [], alts := [], laidByText := true, laidKinds := [.data, .data, .data], laidTests := true, laidLooks := .later }
def SieveSkipsCardSaid : Prop := Claim7.holds Tryz.pinned (.plain (OpenSpec.ofChange sieveSkipsSpec)) sieveSkipsCard

/-- THE SECOND FORM's CARD OF 'varvelaw41.SieveSkips'. -/
def sieveSkipsUptoCard : Claim7 := { stood := { row := sieveSkipsUptoRow, standIns := [], harness := (true, "bdf30e96e7e5860bf88ee257f5aa8332f4f13de482b9f7927d83d01881a5f6f5"), looks := true }, kinds := [], alts := [], laidByText := true, laidKinds := [.data, .data, .data], laidTests := true, laidLooks := .later }
def SieveSkipsUptoCardSaid : Prop := Claim7.holds Tryz.pinned (.plain (OpenSpec.upto sieveSkipsSpec)) sieveSkipsUptoCard
end Rows
end Go.Proofs.YtnpncpoiiikafaaGreatDoor
