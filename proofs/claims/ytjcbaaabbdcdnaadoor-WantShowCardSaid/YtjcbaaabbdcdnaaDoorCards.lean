/-
  DERIVED. GIVEN WITH THE SEED: THE CARDS: each row of YtjcbaaabbdcdnaaDoorRows.lean that lists a variable, with what it lists TIED to the program's text (the seventh form; the later family's looks); each row that meets fmt, with fmt's text TOLD by the authors' own Lean function (tested against real Go, not proved from fmt's source: count such statements apart). THE CARD IS WHAT COUNTS. Prove the row's statement (the work); the ties are given (YtjcbaaabbdcdnaaDoorTie.lean); close each card by the builder's one call (the guide's Derived/Test/ToyasCard.lean, 'card_holds'). Laid BY PROGRAM, IN A SANDBOX (cutbox-door.mjs). By AI agents, Wed Nov 11 2026. No macro, syntax, notation, axiom, sorry.
-/
import Derived.Test.YtjcbaaabbdcdnaaDoorRows
import GoSem.ClaimSeven
namespace Go.Proofs.YtjcbaaabbdcdnaaDoor
namespace Rows

/-- THE TIED CARD OF 'varvelaw32.WantParses'. -/
def wantParsesCard : Claim7 := { stood := { row := wantParsesRow, standIns := [], harness := (true, "369004db23789ec3373571dcdf0f8a82c8dc624f0aebd0f95c5b430348ce21e0"), looks := false }, kinds := [], alts := [], laidByText := true, laidKinds := [.data, .data, .data], laidTests := true, laidLooks := .later }
def WantParsesCardSaid : Prop := Claim7.holds Tryd.pinned (.plain (OpenSpec.ofChange wantParsesSpec)) wantParsesCard

/-- THE TIED CARD OF 'varvelaw32.WantShows'. -/
def wantShowsCard : Claim7 := { stood := { row := wantShowsRow, standIns := [], harness := (true, "369004db23789ec3373571dcdf0f8a82c8dc624f0aebd0f95c5b430348ce21e0"), looks := false }, kinds := [], alts := [], laidByText := true, laidKinds := [.data, .data, .data], laidTests := true, laidLooks := .later }
def WantShowsCardSaid : Prop := Claim7.holds Tryd.pinned (.plain (OpenSpec.ofChange wantShowsSpec)) wantShowsCard

/-- THE TIED CARD OF 'varvelaw32.WantBack'. -/
def wantBackCard : Claim7 := { stood := { row := wantBackRow, standIns := [], harness := (true, "369004db23789ec3373571dcdf0f8a82c8dc624f0aebd0f95c5b430348ce21e0"), looks := false }, kinds := [], alts := [], laidByText := true, laidKinds := [.data, .data, .data], laidTests := true, laidLooks := .later }
def WantBackCardSaid : Prop := Claim7.holds Tryd.pinned (.plain (OpenSpec.ofChange wantBackSpec)) wantBackCard

/-- THE TIED CARD OF 'varvelaw32.WantShow'. -/
def wantShowCard : Claim7 := { stood := { row := wantShowRow, standIns := [], harness := (true, "369004db23789ec3373571dcdf0f8a82c8dc624f0aebd0f95c5b430348ce21e0"), looks := false }, kinds := [], alts := [], laidByText := true, laidKinds := [.data, .data, .data], laidTests := true, laidLooks := .later }
def WantShowCardSaid : Prop := Claim7.holds Tryd.pinned (.plain (OpenSpec.ofChange wantShowSpec)) wantShowCard

/-- THE SECOND FORM's CARD OF 'varvelaw32.WantParses'. -/
def wantParsesUptoCard : Claim7 := { stood := { row := wantParsesUptoRow, standIns := [], harness := (true, "369004db23789ec3373571dcdf0f8a82c8dc624f0aebd0f95c5b430348ce21e0"), looks := false }, kinds := [], alts := [], laidByText := true, laidKinds := [.data, .data, .data], laidTests := true, laidLooks := .later }
def WantParsesUptoCardSaid : Prop := Claim7.holds Tryd.pinned (.plain (OpenSpec.upto wantParsesSpec)) wantParsesUptoCard

/-- THE SECOND FORM's CARD OF 'varvelaw32.WantShows'. -/
def wantShowsUptoCard : Claim7 := { stood := { row := wantShowsUptoRow, standIns := [], harness := (true, "369004db23789ec3373571dcdf0f8a82c8dc624f0aebd0f95c5b430348ce21e0"), looks := false }, kinds := [], alts := [], laidByText := true, laidKinds := [.data, .data, .data], laidTests := true, laidLooks := .later }
def WantShowsUptoCardSaid : Prop := Claim7.holds Tryd.pinned (.plain (OpenSpec.upto wantShowsSpec)) wantShowsUptoCard

/-- THE SECOND FORM's CARD OF 'varvelaw32.WantBack'. -/
def wantBackUptoCard : Claim7 := { stood := { row := wantBackUptoRow, standIns := [], harness := (true, "369004db23789ec3373571dcdf0f8a82c8dc624f0aebd0f95c5b430348ce21e0"), looks := false }, kinds := [], alts := [], laidByText := true, laidKinds := [.data, .data, .data], laidTests := true, laidLooks := .later }
def WantBackUptoCardSaid : Prop := Claim7.holds Tryd.pinned (.plain (OpenSpec.upto wantBackSpec)) wantBackUptoCard

/-- THE SECOND FORM's CARD OF 'varvelaw32.WantShow'. -/
def wantShowUptoCard : Claim7 := { stood := { row := wantShowUptoRow, standIns := [], harness := (true, "369004db23789ec3373571dcdf0f8a82c8dc624f0aebd0f95c5b430348ce21e0"), looks := false }, kinds := [], alts := [], laidByText := true, laidKinds := [.data, .data, .data], laidTests := true, laidLooks := .later }
def WantShowUptoCardSaid : Prop := Claim7.holds Tryd.pinned (.plain (OpenSpec.upto wantShowSpec)) wantShowUptoCard
end Rows
end Go.Proofs.YtjcbaaabbdcdnaaDoor
