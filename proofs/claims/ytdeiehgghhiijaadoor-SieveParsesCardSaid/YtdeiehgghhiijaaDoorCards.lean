/-
  DERIVED. GIVEN WITH THE SEED: THE CARDS: each row of YtdeiehgghhiijaaDoorRows.lean that lists a variable, with what it lists TIED to the program's text (the seventh form; the later family's looks); each row that meets fmt, with fmt's text TOLD by the authors' own Lean function (tested against real Go, not proved from fmt's source: count such statements apart). THE CARD IS WHAT COUNTS. Prove the row's statement (the work); the ties are given (YtdeiehgghhiijaaDoorTie.lean); close each card by the builder's one call (the guide's Derived/Test/ToyasCard.lean, 'card_holds'). Laid BY PROGRAM, IN A SANDBOX (cutbox-door.mjs). By AI agents, Wed Nov 11 2026. No macro, syntax, notation, axiom, sorry.
-/
import Derived.Test.YtdeiehgghhiijaaDoorRows
import GoSem.ClaimSeven
namespace Go.Proofs.YtdeiehgghhiijaaDoor
namespace Rows

/-- THE TIED CARD OF 'varvelaw41.SieveParses'. -/
def sieveParsesCard : Claim7 := { stood := { row := sieveParsesRow, standIns := [], harness := (true, "0a7b1c62b320fac1aa1a98952cc8316ac74d22baa5cd2e4ed252c68311facf59"), looks := true }, kinds := [], alts := [], laidByText := true, laidKinds := [.data, .data, .data], laidTests := true, laidLooks := .later }
def SieveParsesCardSaid : Prop := Claim7.holds Tryd.pinned (.plain (OpenSpec.ofChange sieveParsesSpec)) sieveParsesCard

/-- THE TIED CARD OF 'varvelaw41.SieveNobody'. -/
def sieveNobodyCard : Claim7 := { stood := { row := sieveNobodyRow, standIns := [], harness := (true, "0a7b1c62b320fac1aa1a98952cc8316ac74d22baa5cd2e4ed252c68311facf59"), looks := true }, kinds := [], alts := [], laidByText := true, laidKinds := [.data, .data, .data], laidTests := true, laidLooks := .later }
def SieveNobodyCardSaid : Prop := Claim7.holds Tryd.pinned (.plain (OpenSpec.ofChange sieveNobodySpec)) sieveNobodyCard

/-- THE TIED CARD OF 'varvelaw41.SieveBack'. -/
def sieveBackCard : Claim7 := { stood := { row := sieveBackRow, standIns := [], harness := (true, "0a7b1c62b320fac1aa1a98952cc8316ac74d22baa5cd2e4ed252c68311facf59"), looks := true }, kinds := [], alts := [], laidByText := true, laidKinds := [.data, .data, .data], laidTests := true, laidLooks := .later }
def SieveBackCardSaid : Prop := Claim7.holds Tryd.pinned (.plain (OpenSpec.ofChange sieveBackSpec)) sieveBackCard

/-- THE TIED CARD OF 'varvelaw41.SieveNot'. -/
def sieveNotCard : Claim7 := { stood := { row := sieveNotRow, standIns := [], harness := (true, "0a7b1c62b320fac1aa1a98952cc8316ac74d22baa5cd2e4ed252c68311facf59"), looks := true }, kinds := [], alts := [], laidByText := true, laidKinds := [.data, .data, .data], laidTests := true, laidLooks := .later }
def SieveNotCardSaid : Prop := Claim7.holds Tryd.pinned (.plain (OpenSpec.ofChange sieveNotSpec)) sieveNotCard

/-- THE SECOND FORM's CARD OF 'varvelaw41.SieveParses'. -/
def sieveParsesUptoCard : Claim7 := { stood := { row := sieveParsesUptoRow, standIns := [], harness := (true, "0a7b1c62b320fac1aa1a98952cc8316ac74d22baa5cd2e4ed252c68311facf59"), looks := true }, kinds := [], alts := [], laidByText := true, laidKinds := [.data, .data, .data], laidTests := true, laidLooks := .later }
def SieveParsesUptoCardSaid : Prop := Claim7.holds Tryd.pinned (.plain (OpenSpec.upto sieveParsesSpec)) sieveParsesUptoCard

/-- THE SECOND FORM's CARD OF 'varvelaw41.SieveNobody'. -/
def sieveNobodyUptoCard : Claim7 := { stood := { row := sieveNobodyUptoRow, standIns := [], harness := (true, "0a7b1c62b320fac1aa1a98952cc8316ac74d22baa5cd2e4ed252c68311facf59"), looks := true }, kinds := [], alts := [], laidByText := true, laidKinds := [.data, .data, .data], laidTests := true, laidLooks := .later }
def SieveNobodyUptoCardSaid : Prop := Claim7.holds Tryd.pinned (.plain (OpenSpec.upto sieveNobodySpec)) sieveNobodyUptoCard

/-- THE SECOND FORM's CARD OF 'varvelaw41.SieveBack'. -/
def sieveBackUptoCard : Claim7 := { stood := { row := sieveBackUptoRow, standIns := [], harness := (true, "0a7b1c62b320fac1aa1a98952cc8316ac74d22baa5cd2e4ed252c68311facf59"), looks := true }, kinds := [], alts := [], laidByText := true, laidKinds := [.data, .data, .data], laidTests := true, laidLooks := .later }
def SieveBackUptoCardSaid : Prop := Claim7.holds Tryd.pinned (.plain (OpenSpec.upto sieveBackSpec)) sieveBackUptoCard

/-- THE SECOND FORM's CARD OF 'varvelaw41.SieveNot'. -/
def sieveNotUptoCard : Claim7 := { stood := { row := sieveNotUptoRow, standIns := [], harness := (true, "0a7b1c62b320fac1aa1a98952cc8316ac74d22baa5cd2e4ed252c68311facf59"), looks := true }, kinds := [], alts := [], laidByText := true, laidKinds := [.data, .data, .data], laidTests := true, laidLooks := .later }
def SieveNotUptoCardSaid : Prop := Claim7.holds Tryd.pinned (.plain (OpenSpec.upto sieveNotSpec)) sieveNotUptoCard
end Rows
end Go.Proofs.YtdeiehgghhiijaaDoor
