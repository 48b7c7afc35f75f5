/-
  No cell of these rows narrows 'for every input' (looked for: loops, veiled, ifaces, maps, wideKeys, modest, calm, conditions, laid).
  DERIVED. THE GIVEN ROWS OF THIS SEAT. 4 by the template 'for every input the law returns true; each argument reads behind the call as it read before'; 0 by the template 'total and deterministic' (their statements: YtpnccehaomikbaaTotals.lean).
  GIVEN WITH THE SEED: the statements are not yours to turn. If you find one false, say at which input.
  Laid BY PROGRAM, IN A SANDBOX (cutbox-rows.mjs): the forced cells as the released guide's own fill.sh prints them over the translation 37fa2c74dd8bed98… (all of the seat's roots in one cut). By AI agents, Wed Nov 11 2026. No macro, syntax, notation, axiom, sorry.
-/
import Derived.Test.YtpnccehaomikbaaChecked
import GoSem.Claim
import GoSem.ClaimJoined
import GoSem.ClaimMapViews
import Derived.JoinedTies
import Derived.KernelRfl
namespace Go.Proofs.Ytpnccehaomikbaa
/- THE CELL 'sum', in the pinned program and in every row, IS THE sha256 OF THE DUMP (.gsa) THAT YtpnccehaomikbaaProg.lean LOADS. Nothing in Lean hashes anything: it is a label: what it is worth is what the hold of that sum in a sandbox is worth. -/
noncomputable def Try.pinned : Pinned := { name := "ytpnccehaomikbaa", sum := "37fa2c74dd8bed98c45d268fbd1b1c197b2fd5f09f277724ab8d3b6a379247db", checked := Try.checked }
namespace Rows
def none {H : Type} : Left H := { results := [], args := [] }

/-- 'varvelaw08.LensFinds': WHATEVER THE INPUT: true; the input reads as it did. -/
def lensFindsSpec : ChangeSpec := { name := "lensFinds", fn := fun _ => fun
  | [d1, d2] => { results := [.lit (.bool true)], args := [d1, d2] }
  | _ => none }
def lensFindsRow : OpenClaim := { program := "ytpnccehaomikbaa", sum := "37fa2c74dd8bed98c45d268fbd1b1c197b2fd5f09f277724ab8d3b6a379247db", func := "varve/varvelaw08.LensFinds", spec := "lensFinds", unfollowed := true, recurses := true, apart := false }
def LensFindsSaid : Prop := lensFindsRow.holds Try.pinned (OpenSpec.ofChange lensFindsSpec)

/-- ITS FALSE NEIGHBOUR: 'it returns false'. Refute it at one input. -/
def lensFindsWrong : ChangeSpec := { name := "lensFinds", fn := fun _ => fun
  | [d1, d2] => { results := [.lit (.bool false)], args := [d1, d2] }
  | _ => none }
def LensFindsWrongFalsely : Prop := lensFindsRow.holds Try.pinned (OpenSpec.ofChange lensFindsWrong)

/-- 'varvelaw08.LensLooks': WHATEVER THE INPUT: true; the input reads as it did. -/
def lensLooksSpec : ChangeSpec := { name := "lensLooks", fn := fun _ => fun
  | [d1, d2] => { results := [.lit (.bool true)], args := [d1, d2] }
  | _ => none }
def lensLooksRow : OpenClaim := { program := "ytpnccehaomikbaa", sum := "37fa2c74dd8bed98c45d268fbd1b1c197b2fd5f09f277724ab8d3b6a379247db", func := "varve/varvelaw08.LensLooks", spec := "lensLooks", unfollowed := true, recurses := true, apart := false }
def LensLooksSaid : Prop := lensLooksRow.holds Try.pinned (OpenSpec.ofChange lensLooksSpec)

/-- ITS FALSE NEIGHBOUR: 'it returns false'. Refute it at one input. -/
def lensLooksWrong : ChangeSpec := { name := "lensLooks", fn := fun _ => fun
  | [d1, d2] => { results := [.lit (.bool false)], args := [d1, d2] }
  | _ => none }
def LensLooksWrongFalsely : Prop := lensLooksRow.holds Try.pinned (OpenSpec.ofChange lensLooksWrong)

/-- 'varvelaw08.LensBest': WHATEVER THE INPUT: true; the input reads as it did. -/
def lensBestSpec : ChangeSpec := { name := "lensBest", fn := fun _ => fun
  | [d1, d2, d3] => { results := [.lit (.bool true)], args := [d1, d2, d3] }
  | _ => none }
def lensBestRow : OpenClaim := { program := "ytpnccehaomikbaa", sum := "37fa2c74dd8bed98c45d268fbd1b1c197b2fd5f09f277724ab8d3b6a379247db", func := "varve/varvelaw08.LensBest", spec := "lensBest", unfollowed := true, recurses := true, apart := false }
def LensBestSaid : Prop := lensBestRow.holds Try.pinned (OpenSpec.ofChange lensBestSpec)

/-- ITS FALSE NEIGHBOUR: 'it returns false'. Refute it at one input. -/
def lensBestWrong : ChangeSpec := { name := "lensBest", fn := fun _ => fun
  | [d1, d2, d3] => { results := [.lit (.bool false)], args := [d1, d2, d3] }
  | _ => none }
def LensBestWrongFalsely : Prop := lensBestRow.holds Try.pinned (OpenSpec.ofChange lensBestWrong)

/-- 'varvelaw08.LensFull': WHATEVER THE INPUT: true; the input reads as it did. -/
def lensFullSpec : ChangeSpec := { name := "lensFull", fn := fun _ => fun
  | [d1, d2] => { results := [.lit (.bool true)], args := [d1, d2] }
  | _ => none }
def lensFullRow : OpenClaim := { program := "ytpnccehaomikbaa", sum := "37fa2c74dd8bed98c45d268fbd1b1c197b2fd5f09f277724ab8d3b6a379247db", func := "varve/varvelaw08.LensFull", spec := "lensFull", unfollowed := true, recurses := true, apart := false }
def LensFullSaid : Prop := lensFullRow.holds Try.pinned (OpenSpec.ofChange lensFullSpec)

/-- ITS FALSE NEIGHBOUR: 'it returns false'. Refute it at one input. -/
def lensFullWrong : ChangeSpec := { name := "lensFull", fn := fun _ => fun
  | [d1, d2] => { results := [.lit (.bool false)], args := [d1, d2] }
  | _ => none }
def LensFullWrongFalsely : Prop := lensFullRow.holds Try.pinned (OpenSpec.ofChange lensFullWrong)

/- THE SECOND FORM. 'bulk': how many values and letters a reading holds, each counted each time it is reached (what is shared counts as often as it is met; a slice's spare places count too). A statement '..UptoSaid' is the law's where the arguments, and the package variables that the reading takes, are together of bulk at most 1048576: NARROWER than '..Said'. Prove '..Said' where nothing that the law and all that it calls make is longer than what came in: it says more and counts as full. Else prove '..UptoSaid'. A law counts once. -/
mutual
def uptoBulk {H : Type} : DataW H → Nat
  | .lit (.string bytes) => bytes.length + 1
  | .lit _ => 1
  | .nil => 1
  | .ptr d => uptoBulk d + 1
  | .slice elems spare => uptoBulkAll elems + uptoBulkAll spare + 1
  | .agg parts => uptoBulkAll parts + 1
  | .iface _ d => uptoBulk d + 1
  | .map entries => uptoBulkEntries entries + 1
  | .held _ => 1
def uptoBulkAll {H : Type} : List (DataW H) → Nat
  | [] => 0
  | d :: r => uptoBulk d + uptoBulkAll r
def uptoBulkEntries {H : Type} : List (Lit × DataW H) → Nat
  | [] => 0
  | x :: r => uptoBulkEntry x + uptoBulkEntries r
def uptoBulkEntry {H : Type} : Lit × DataW H → Nat
  | (.string bytes, d) => bytes.length + uptoBulk d + 1
  | (_, d) => uptoBulk d + 1
 end
def uptoSmall : (H : Type) → List (DataW H) → Bool := fun _ ds => decide (uptoBulkAll ds ≤ 1048576)
def OpenSpec.upto (s : _root_.Go.ChangeSpec) : _root_.Go.OpenSpec := { _root_.Go.OpenSpec.ofChange s with cond := some uptoSmall }

/-- 'varvelaw08.LensFinds', WHERE WHAT IT READS IS OF BULK AT MOST 1048576: true; the input reads as it did. -/
def lensFindsUptoRow : OpenClaim := { program := "ytpnccehaomikbaa", sum := "37fa2c74dd8bed98c45d268fbd1b1c197b2fd5f09f277724ab8d3b6a379247db", func := "varve/varvelaw08.LensFinds", spec := "lensFinds", unfollowed := true, recurses := true, apart := false, narrowed := true }
def LensFindsUptoSaid : Prop := lensFindsUptoRow.holds Try.pinned (OpenSpec.upto lensFindsSpec)

/-- 'varvelaw08.LensLooks', WHERE WHAT IT READS IS OF BULK AT MOST 1048576: true; the input reads as it did. -/
def lensLooksUptoRow : OpenClaim := { program := "ytpnccehaomikbaa", sum := "37fa2c74dd8bed98c45d268fbd1b1c197b2fd5f09f277724ab8d3b6a379247db", func := "varve/varvelaw08.LensLooks", spec := "lensLooks", unfollowed := true, recurses := true, apart := false, narrowed := true }
def LensLooksUptoSaid : Prop := lensLooksUptoRow.holds Try.pinned (OpenSpec.upto lensLooksSpec)

/-- 'varvelaw08.LensBest', WHERE WHAT IT READS IS OF BULK AT MOST 1048576: true; the input reads as it did. -/
def lensBestUptoRow : OpenClaim := { program := "ytpnccehaomikbaa", sum := "37fa2c74dd8bed98c45d268fbd1b1c197b2fd5f09f277724ab8d3b6a379247db", func := "varve/varvelaw08.LensBest", spec := "lensBest", unfollowed := true, recurses := true, apart := false, narrowed := true }
def LensBestUptoSaid : Prop := lensBestUptoRow.holds Try.pinned (OpenSpec.upto lensBestSpec)

/-- 'varvelaw08.LensFull', WHERE WHAT IT READS IS OF BULK AT MOST 1048576: true; the input reads as it did. -/
def lensFullUptoRow : OpenClaim := { program := "ytpnccehaomikbaa", sum := "37fa2c74dd8bed98c45d268fbd1b1c197b2fd5f09f277724ab8d3b6a379247db", func := "varve/varvelaw08.LensFull", spec := "lensFull", unfollowed := true, recurses := true, apart := false, narrowed := true }
def LensFullUptoSaid : Prop := lensFullUptoRow.holds Try.pinned (OpenSpec.upto lensFullSpec)

end Rows
end Go.Proofs.Ytpnccehaomikbaa
