/-
  No cell of these rows narrows 'for every input' (looked for: loops, veiled, ifaces, maps, wideKeys, modest, calm, conditions, laid).
  DERIVED. THE GIVEN ROWS OF THIS SEAT. 9 by the template 'for every input the law returns true; each argument reads behind the call as it read before'; 0 by the template 'total and deterministic' (their statements: YtedoeplhjmkllaaTotals.lean).
  GIVEN WITH THE SEED: the statements are not yours to turn. If you find one false, say at which input.
  Laid BY PROGRAM, IN A SANDBOX (cutbox-rows.mjs): the forced cells as the released guide's own fill.sh prints them over the translation b9f1d87d8abb4c97… (all of the seat's roots in one cut). By AI agents, Wed Nov 11 2026. No macro, syntax, notation, axiom, sorry.
-/
import Derived.Test.YtedoeplhjmkllaaChecked
import GoSem.Claim
import GoSem.ClaimJoined
import GoSem.ClaimMapViews
import Derived.JoinedTies
import Derived.KernelRfl
namespace Go.Proofs.Ytedoeplhjmkllaa
/- THE CELL 'sum', in the pinned program and in every row, IS THE sha256 OF THE DUMP (.gsa) THAT YtedoeplhjmkllaaProg.lean LOADS. Nothing in Lean hashes anything: it is a label: what it is worth is what the hold of that sum in a sandbox is worth. -/
noncomputable def Try.pinned : Pinned := { name := "ytedoeplhjmkllaa", sum := "b9f1d87d8abb4c977cf148fc1319d2759c49a474e914361231be0ff4245a4f41", checked := Try.checked }
namespace Rows
def none {H : Type} : Left H := { results := [], args := [] }

/-- 'varvelaw09.CanonPacks': WHATEVER THE INPUT: true; the input reads as it did. -/
def canonPacksSpec : ChangeSpec := { name := "canonPacks", fn := fun _ => fun
  | [d1, d2] => { results := [.lit (.bool true)], args := [d1, d2] }
  | _ => none }
def canonPacksRow : OpenClaim := { program := "ytedoeplhjmkllaa", sum := "b9f1d87d8abb4c977cf148fc1319d2759c49a474e914361231be0ff4245a4f41", func := "varve/varvelaw09.CanonPacks", spec := "canonPacks", unfollowed := true, recurses := true, apart := false }
def CanonPacksSaid : Prop := canonPacksRow.holds Try.pinned (OpenSpec.ofChange canonPacksSpec)

/-- ITS FALSE NEIGHBOUR: 'it returns false'. Refute it at one input. -/
def canonPacksWrong : ChangeSpec := { name := "canonPacks", fn := fun _ => fun
  | [d1, d2] => { results := [.lit (.bool false)], args := [d1, d2] }
  | _ => none }
def CanonPacksWrongFalsely : Prop := canonPacksRow.holds Try.pinned (OpenSpec.ofChange canonPacksWrong)

/-- 'varvelaw09.CanonUnpacks': WHATEVER THE INPUT: true; the input reads as it did. -/
def canonUnpacksSpec : ChangeSpec := { name := "canonUnpacks", fn := fun _ => fun
  | [d1, d2, d3] => { results := [.lit (.bool true)], args := [d1, d2, d3] }
  | _ => none }
def canonUnpacksRow : OpenClaim := { program := "ytedoeplhjmkllaa", sum := "b9f1d87d8abb4c977cf148fc1319d2759c49a474e914361231be0ff4245a4f41", func := "varve/varvelaw09.CanonUnpacks", spec := "canonUnpacks", unfollowed := true, recurses := true, apart := false }
def CanonUnpacksSaid : Prop := canonUnpacksRow.holds Try.pinned (OpenSpec.ofChange canonUnpacksSpec)

/-- ITS FALSE NEIGHBOUR: 'it returns false'. Refute it at one input. -/
def canonUnpacksWrong : ChangeSpec := { name := "canonUnpacks", fn := fun _ => fun
  | [d1, d2, d3] => { results := [.lit (.bool false)], args := [d1, d2, d3] }
  | _ => none }
def CanonUnpacksWrongFalsely : Prop := canonUnpacksRow.holds Try.pinned (OpenSpec.ofChange canonUnpacksWrong)

/-- 'varvelaw09.CanonNobody': WHATEVER THE INPUT: true; the input reads as it did. -/
def canonNobodySpec : ChangeSpec := { name := "canonNobody", fn := fun _ => fun
  | [d1, d2] => { results := [.lit (.bool true)], args := [d1, d2] }
  | _ => none }
def canonNobodyRow : OpenClaim := { program := "ytedoeplhjmkllaa", sum := "b9f1d87d8abb4c977cf148fc1319d2759c49a474e914361231be0ff4245a4f41", func := "varve/varvelaw09.CanonNobody", spec := "canonNobody", unfollowed := true, recurses := true, apart := false }
def CanonNobodySaid : Prop := canonNobodyRow.holds Try.pinned (OpenSpec.ofChange canonNobodySpec)

/-- ITS FALSE NEIGHBOUR: 'it returns false'. Refute it at one input. -/
def canonNobodyWrong : ChangeSpec := { name := "canonNobody", fn := fun _ => fun
  | [d1, d2] => { results := [.lit (.bool false)], args := [d1, d2] }
  | _ => none }
def CanonNobodyWrongFalsely : Prop := canonNobodyRow.holds Try.pinned (OpenSpec.ofChange canonNobodyWrong)

/-- 'varvelaw09.CanonApart': WHATEVER THE INPUT: true; the input reads as it did. -/
def canonApartSpec : ChangeSpec := { name := "canonApart", fn := fun _ => fun
  | [d] => { results := [.lit (.bool true)], args := [d] }
  | _ => none }
def canonApartRow : OpenClaim := { program := "ytedoeplhjmkllaa", sum := "b9f1d87d8abb4c977cf148fc1319d2759c49a474e914361231be0ff4245a4f41", func := "varve/varvelaw09.CanonApart", spec := "canonApart", unfollowed := true, recurses := true, apart := false }
def CanonApartSaid : Prop := canonApartRow.holds Try.pinned (OpenSpec.ofChange canonApartSpec)

/-- ITS FALSE NEIGHBOUR: 'it returns false'. Refute it at one input. -/
def canonApartWrong : ChangeSpec := { name := "canonApart", fn := fun _ => fun
  | [d] => { results := [.lit (.bool false)], args := [d] }
  | _ => none }
def CanonApartWrongFalsely : Prop := canonApartRow.holds Try.pinned (OpenSpec.ofChange canonApartWrong)

/-- 'varvelaw09.CanonBack': WHATEVER THE INPUT: true; the input reads as it did. -/
def canonBackSpec : ChangeSpec := { name := "canonBack", fn := fun _ => fun
  | [d1, d2, d3] => { results := [.lit (.bool true)], args := [d1, d2, d3] }
  | _ => none }
def canonBackRow : OpenClaim := { program := "ytedoeplhjmkllaa", sum := "b9f1d87d8abb4c977cf148fc1319d2759c49a474e914361231be0ff4245a4f41", func := "varve/varvelaw09.CanonBack", spec := "canonBack", unfollowed := true, recurses := true, apart := false }
def CanonBackSaid : Prop := canonBackRow.holds Try.pinned (OpenSpec.ofChange canonBackSpec)

/-- ITS FALSE NEIGHBOUR: 'it returns false'. Refute it at one input. -/
def canonBackWrong : ChangeSpec := { name := "canonBack", fn := fun _ => fun
  | [d1, d2, d3] => { results := [.lit (.bool false)], args := [d1, d2, d3] }
  | _ => none }
def CanonBackWrongFalsely : Prop := canonBackRow.holds Try.pinned (OpenSpec.ofChange canonBackWrong)

/-- 'varvelaw09.CanonWhole': WHATEVER THE INPUT: true; the input reads as it did. -/
def canonWholeSpec : ChangeSpec := { name := "canonWhole", fn := fun _ => fun
  | [d1, d2] => { results := [.lit (.bool true)], args := [d1, d2] }
  | _ => none }
def canonWholeRow : OpenClaim := { program := "ytedoeplhjmkllaa", sum := "b9f1d87d8abb4c977cf148fc1319d2759c49a474e914361231be0ff4245a4f41", func := "varve/varvelaw09.CanonWhole", spec := "canonWhole", unfollowed := true, recurses := true, apart := false }
def CanonWholeSaid : Prop := canonWholeRow.holds Try.pinned (OpenSpec.ofChange canonWholeSpec)

/-- ITS FALSE NEIGHBOUR: 'it returns false'. Refute it at one input. -/
def canonWholeWrong : ChangeSpec := { name := "canonWhole", fn := fun _ => fun
  | [d1, d2] => { results := [.lit (.bool false)], args := [d1, d2] }
  | _ => none }
def CanonWholeWrongFalsely : Prop := canonWholeRow.holds Try.pinned (OpenSpec.ofChange canonWholeWrong)

/-- 'varvelaw10.TabPacks': WHATEVER THE INPUT: true; the input reads as it did. -/
def tabPacksSpec : ChangeSpec := { name := "tabPacks", fn := fun _ => fun
  | [d1, d2] => { results := [.lit (.bool true)], args := [d1, d2] }
  | _ => none }
def tabPacksRow : OpenClaim := { program := "ytedoeplhjmkllaa", sum := "b9f1d87d8abb4c977cf148fc1319d2759c49a474e914361231be0ff4245a4f41", func := "varve/varvelaw10.TabPacks", spec := "tabPacks", unfollowed := true, recurses := true, apart := false }
def TabPacksSaid : Prop := tabPacksRow.holds Try.pinned (OpenSpec.ofChange tabPacksSpec)

/-- ITS FALSE NEIGHBOUR: 'it returns false'. Refute it at one input. -/
def tabPacksWrong : ChangeSpec := { name := "tabPacks", fn := fun _ => fun
  | [d1, d2] => { results := [.lit (.bool false)], args := [d1, d2] }
  | _ => none }
def TabPacksWrongFalsely : Prop := tabPacksRow.holds Try.pinned (OpenSpec.ofChange tabPacksWrong)

/-- 'varvelaw10.TabBack': WHATEVER THE INPUT: true; the input reads as it did. -/
def tabBackSpec : ChangeSpec := { name := "tabBack", fn := fun _ => fun
  | [d1, d2] => { results := [.lit (.bool true)], args := [d1, d2] }
  | _ => none }
def tabBackRow : OpenClaim := { program := "ytedoeplhjmkllaa", sum := "b9f1d87d8abb4c977cf148fc1319d2759c49a474e914361231be0ff4245a4f41", func := "varve/varvelaw10.TabBack", spec := "tabBack", unfollowed := true, recurses := true, apart := false }
def TabBackSaid : Prop := tabBackRow.holds Try.pinned (OpenSpec.ofChange tabBackSpec)

/-- ITS FALSE NEIGHBOUR: 'it returns false'. Refute it at one input. -/
def tabBackWrong : ChangeSpec := { name := "tabBack", fn := fun _ => fun
  | [d1, d2] => { results := [.lit (.bool false)], args := [d1, d2] }
  | _ => none }
def TabBackWrongFalsely : Prop := tabBackRow.holds Try.pinned (OpenSpec.ofChange tabBackWrong)

/-- 'varvelaw10.TabForms': WHATEVER THE INPUT: true; the input reads as it did. -/
def tabFormsSpec : ChangeSpec := { name := "tabForms", fn := fun _ => fun
  | [d1, d2] => { results := [.lit (.bool true)], args := [d1, d2] }
  | _ => none }
def tabFormsRow : OpenClaim := { program := "ytedoeplhjmkllaa", sum := "b9f1d87d8abb4c977cf148fc1319d2759c49a474e914361231be0ff4245a4f41", func := "varve/varvelaw10.TabForms", spec := "tabForms", unfollowed := true, recurses := true, apart := false }
def TabFormsSaid : Prop := tabFormsRow.holds Try.pinned (OpenSpec.ofChange tabFormsSpec)

/-- ITS FALSE NEIGHBOUR: 'it returns false'. Refute it at one input. -/
def tabFormsWrong : ChangeSpec := { name := "tabForms", fn := fun _ => fun
  | [d1, d2] => { results := [.lit (.bool false)], args := [d1, d2] }
  | _ => none }
def TabFormsWrongFalsely : Prop := tabFormsRow.holds Try.pinned (OpenSpec.ofChange tabFormsWrong)

/- THE SECOND FORM. 'bulk': how many values and letters a reading holds, each counted each time it is reached (what is shared counts as often as it is met; a slice's spare places count too). A statement '..UptoSaid' is the law's where the arguments, and the package variables that the reading takes, are together of bulk at most 1048576: NARROWER than '..Said'. Prove '..Said' where nothing that the law and all that it calls make is longer than what came in: it says more and counts as full. Else prove '..UptoSaid'. A law counts once. -/
mutual
def uptoBulk {H : Type} : DataW H → Nat
  | .lit (.string bytes) => bytes.length + 1
  | .lit _ => 1
  | .nil => 1
  | .ptr d => uptoBulk d + 1
  | .slice elems spare => uptoBulkAll elems + uptoBulkAll spare + 1
  | .agg parts => uptoBulkAll parts + 1
  | .iface _ d => uptoBulk d + 1
  | .map entries => uptoBulkEntries entries + 1
  | .held _ => 1
def uptoBulkAll {H : Type} : List (DataW H) → Nat
  | [] => 0
  | d :: r => uptoBulk d + uptoBulkAll r
def uptoBulkEntries {H : Type} : List (Lit × DataW H) → Nat
  | [] => 0
  | x :: r => uptoBulkEntry x + uptoBulkEntries r
def uptoBulkEntry {H : Type} : Lit × DataW H → Nat
  | (.string bytes, d) => bytes.length + uptoBulk d + 1
  | (_, d) => uptoBulk d + 1
 end
def uptoSmall : (H : Type) → List (DataW H) → Bool := fun _ ds => decide (uptoBulkAll ds ≤ 1048576)
def OpenSpec.upto (s : _root_.Go.ChangeSpec) : _root_.Go.OpenSpec := { _root_.Go.OpenSpec.ofChange s with cond := some uptoSmall }

/-- 'varvelaw09.CanonPacks', WHERE WHAT IT READS IS OF BULK AT MOST 1048576: true; the input reads as it did. -/
def canonPacksUptoRow : OpenClaim := { program := "ytedoeplhjmkllaa", sum := "b9f1d87d8abb4c977cf148fc1319d2759c49a474e914361231be0ff4245a4f41", func := "varve/varvelaw09.CanonPacks", spec := "canonPacks", unfollowed := true, recurses := true, apart := false, narrowed := true }
def CanonPacksUptoSaid : Prop := canonPacksUptoRow.holds Try.pinned (OpenSpec.upto canonPacksSpec)

/-- 'varvelaw09.CanonUnpacks', WHERE WHAT IT READS IS OF BULK AT MOST 1048576: true; the input reads as it did. -/
def canonUnpacksUptoRow : OpenClaim := { program := "ytedoeplhjmkllaa", sum := "b9f1d87d8abb4c977cf148fc1319d2759c49a474e914361231be0ff4245a4f41", func := "varve/varvelaw09.CanonUnpacks", spec := "canonUnpacks", unfollowed := true, recurses := true, apart := false, narrowed := true }
def CanonUnpacksUptoSaid : Prop := canonUnpacksUptoRow.holds Try.pinned (OpenSpec.upto canonUnpacksSpec)

/-- 'varvelaw09.CanonNobody', WHERE WHAT IT READS IS OF BULK AT MOST 1048576: true; the input reads as it did. -/
def canonNobodyUptoRow : OpenClaim := { program := "ytedoeplhjmkllaa", sum := "b9f1d87d8abb4c977cf148fc1319d2759c49a474e914361231be0ff4245a4f41", func := "varve/varvelaw09.CanonNobody", spec := "canonNobody", unfollowed := true, recurses := true, apart := false, narrowed := true }
def CanonNobodyUptoSaid : Prop := canonNobodyUptoRow.holds Try.pinned (OpenSpec.upto canonNobodySpec)

/-- 'varvelaw09.CanonApart', WHERE WHAT IT READS IS OF BULK AT MOST 1048576: true; the input reads as it did. -/
def canonApartUptoRow : OpenClaim := { program := "ytedoeplhjmkllaa", sum := "b9f1d87d8abb4c977cf148fc1319d2759c49a474e914361231be0ff4245a4f41", func := "varve/varvelaw09.CanonApart", spec := "canonApart", unfollowed := true, recurses := true, apart := false, narrowed := true }
def CanonApartUptoSaid : Prop := canonApartUptoRow.holds Try.pinned (OpenSpec.upto canonApartSpec)

/-- 'varvelaw09.CanonBack', WHERE WHAT IT READS IS OF BULK AT MOST 1048576: true; the input reads as it did. -/
def canonBackUptoRow : OpenClaim := { program := "ytedoeplhjmkllaa", sum := "b9f1d87d8abb4c977cf148fc1319d2759c49a474e914361231be0ff4245a4f41", func := "varve/varvelaw09.CanonBack", spec := "canonBack", unfollowed := true, recurses := true, apart := false, narrowed := true }
def CanonBackUptoSaid : Prop := canonBackUptoRow.holds Try.pinned (OpenSpec.upto canonBackSpec)

/-- 'varvelaw09.CanonWhole', WHERE WHAT IT READS IS OF BULK AT MOST 1048576: true; the input reads as it did. -/
def canonWholeUptoRow : OpenClaim := { program := "ytedoeplhjmkllaa", sum := "b9f1d87d8abb4c977cf148fc1319d2759c49a474e914361231be0ff4245a4f41", func := "varve/varvelaw09.CanonWhole", spec := "canonWhole", unfollowed := true, recurses := true, apart := false, narrowed := true }
def CanonWholeUptoSaid : Prop := canonWholeUptoRow.holds Try.pinned (OpenSpec.upto canonWholeSpec)

/-- 'varvelaw10.TabPacks', WHERE WHAT IT READS IS OF BULK AT MOST 1048576: true; the input reads as it did. -/
def tabPacksUptoRow : OpenClaim := { program := "ytedoeplhjmkllaa", sum := "b9f1d87d8abb4c977cf148fc1319d2759c49a474e914361231be0ff4245a4f41", func := "varve/varvelaw10.TabPacks", spec := "tabPacks", unfollowed := true, recurses := true, apart := false, narrowed := true }
def TabPacksUptoSaid : Prop := tabPacksUptoRow.holds Try.pinned (OpenSpec.upto tabPacksSpec)

/-- 'varvelaw10.TabBack', WHERE WHAT IT READS IS OF BULK AT MOST 1048576: true; the input reads as it did. -/
def tabBackUptoRow : OpenClaim := { program := "ytedoeplhjmkllaa", sum := "b9f1d87d8abb4c977cf148fc1319d2759c49a474e914361231be0ff4245a4f41", func := "varve/varvelaw10.TabBack", spec := "tabBack", unfollowed := true, recurses := true, apart := false, narrowed := true }
def TabBackUptoSaid : Prop := tabBackUptoRow.holds Try.pinned (OpenSpec.upto tabBackSpec)

/-- 'varvelaw10.TabForms', WHERE WHAT IT READS IS OF BULK AT MOST 1048576: true; the input reads as it did. -/
def tabFormsUptoRow : OpenClaim := { program := "ytedoeplhjmkllaa", sum := "b9f1d87d8abb4c977cf148fc1319d2759c49a474e914361231be0ff4245a4f41", func := "varve/varvelaw10.TabForms", spec := "tabForms", unfollowed := true, recurses := true, apart := false, narrowed := true }
def TabFormsUptoSaid : Prop := tabFormsUptoRow.holds Try.pinned (OpenSpec.upto tabFormsSpec)

end Rows
end Go.Proofs.Ytedoeplhjmkllaa
