/-
  No cell of these rows narrows 'for every input' (looked for: loops, veiled, ifaces, maps, wideKeys, modest, calm, conditions, laid).
  DERIVED. THE GIVEN ROWS OF THIS SEAT. 9 by the template 'for every input the law returns true; each argument reads behind the call as it read before'; 0 by the template 'total and deterministic' (their statements: YtnghmcadhjneeaaTotals.lean).
  GIVEN WITH THE SEED: the statements are not yours to turn. If you find one false, say at which input.
  Laid BY PROGRAM, IN A SANDBOX (cutbox-rows.mjs): the forced cells as the released guide's own fill.sh prints them over the translation 24ed38129dc62557… (all of the seat's roots in one cut). By AI agents, Wed Nov 11 2026. No macro, syntax, notation, axiom, sorry.
-/
import Derived.Test.YtnghmcadhjneeaaChecked
import GoSem.Claim
import GoSem.ClaimJoined
import GoSem.ClaimMapViews
import Derived.JoinedTies
import Derived.KernelRfl
namespace Go.Proofs.Ytnghmcadhjneeaa
/- THE CELL 'sum', in the pinned program and in every row, IS THE sha256 OF THE DUMP (.gsa) THAT YtnghmcadhjneeaaProg.lean LOADS. Nothing in Lean hashes anything: it is a label: what it is worth is what the hold of that sum in a sandbox is worth. -/
noncomputable def Try.pinned : Pinned := { name := "ytnghmcadhjneeaa", sum := "24ed38129dc62557a88f0736c91426dfde3b5985d757474274431c277efe45a6", checked := Try.checked }
namespace Rows
def none {H : Type} : Left H := { results := [], args := [] }

/-- 'varvelaw15.RecordRows': WHATEVER THE INPUT: true; the input reads as it did. -/
def recordRowsSpec : ChangeSpec := { name := "recordRows", fn := fun _ => fun
  | [d1, d2] => { results := [.lit (.bool true)], args := [d1, d2] }
  | _ => none }
def recordRowsRow : OpenClaim := { program := "ytnghmcadhjneeaa", sum := "24ed38129dc62557a88f0736c91426dfde3b5985d757474274431c277efe45a6", func := "varve/varvelaw15.RecordRows", spec := "recordRows", inPlace := ["internal/abi.NoEscape"], apart := false }
def RecordRowsSaid : Prop := recordRowsRow.holds Try.pinned (OpenSpec.ofChange recordRowsSpec)

/-- ITS FALSE NEIGHBOUR: 'it returns false'. Refute it at one input. -/
def recordRowsWrong : ChangeSpec := { name := "recordRows", fn := fun _ => fun
  | [d1, d2] => { results := [.lit (.bool false)], args := [d1, d2] }
  | _ => none }
def RecordRowsWrongFalsely : Prop := recordRowsRow.holds Try.pinned (OpenSpec.ofChange recordRowsWrong)

/-- 'varvelaw04.BitsFields': WHATEVER THE INPUT: true; the input reads as it did. -/
def bitsFieldsSpec : ChangeSpec := { name := "bitsFields", fn := fun _ => fun
  | [d1, d2, d3] => { results := [.lit (.bool true)], args := [d1, d2, d3] }
  | _ => none }
def bitsFieldsRow : OpenClaim := { program := "ytnghmcadhjneeaa", sum := "24ed38129dc62557a88f0736c91426dfde3b5985d757474274431c277efe45a6", func := "varve/varvelaw04.BitsFields", spec := "bitsFields", unfollowed := true, recurses := true, apart := false }
def BitsFieldsSaid : Prop := bitsFieldsRow.holds Try.pinned (OpenSpec.ofChange bitsFieldsSpec)

/-- ITS FALSE NEIGHBOUR: 'it returns false'. Refute it at one input. -/
def bitsFieldsWrong : ChangeSpec := { name := "bitsFields", fn := fun _ => fun
  | [d1, d2, d3] => { results := [.lit (.bool false)], args := [d1, d2, d3] }
  | _ => none }
def BitsFieldsWrongFalsely : Prop := bitsFieldsRow.holds Try.pinned (OpenSpec.ofChange bitsFieldsWrong)

/-- 'varvelaw04.BitsWrites': WHATEVER THE INPUT: true; the input reads as it did. -/
def bitsWritesSpec : ChangeSpec := { name := "bitsWrites", fn := fun _ => fun
  | [d] => { results := [.lit (.bool true)], args := [d] }
  | _ => none }
def bitsWritesRow : OpenClaim := { program := "ytnghmcadhjneeaa", sum := "24ed38129dc62557a88f0736c91426dfde3b5985d757474274431c277efe45a6", func := "varve/varvelaw04.BitsWrites", spec := "bitsWrites", unfollowed := true, recurses := true, apart := false }
def BitsWritesSaid : Prop := bitsWritesRow.holds Try.pinned (OpenSpec.ofChange bitsWritesSpec)

/-- ITS FALSE NEIGHBOUR: 'it returns false'. Refute it at one input. -/
def bitsWritesWrong : ChangeSpec := { name := "bitsWrites", fn := fun _ => fun
  | [d] => { results := [.lit (.bool false)], args := [d] }
  | _ => none }
def BitsWritesWrongFalsely : Prop := bitsWritesRow.holds Try.pinned (OpenSpec.ofChange bitsWritesWrong)

/-- 'varvelaw04.BitsBack': WHATEVER THE INPUT: true; the input reads as it did. -/
def bitsBackSpec : ChangeSpec := { name := "bitsBack", fn := fun _ => fun
  | [d] => { results := [.lit (.bool true)], args := [d] }
  | _ => none }
def bitsBackRow : OpenClaim := { program := "ytnghmcadhjneeaa", sum := "24ed38129dc62557a88f0736c91426dfde3b5985d757474274431c277efe45a6", func := "varve/varvelaw04.BitsBack", spec := "bitsBack", unfollowed := true, recurses := true, apart := false }
def BitsBackSaid : Prop := bitsBackRow.holds Try.pinned (OpenSpec.ofChange bitsBackSpec)

/-- ITS FALSE NEIGHBOUR: 'it returns false'. Refute it at one input. -/
def bitsBackWrong : ChangeSpec := { name := "bitsBack", fn := fun _ => fun
  | [d] => { results := [.lit (.bool false)], args := [d] }
  | _ => none }
def BitsBackWrongFalsely : Prop := bitsBackRow.holds Try.pinned (OpenSpec.ofChange bitsBackWrong)

/-- 'varvelaw04.BitsGamma': WHATEVER THE INPUT: true; the input reads as it did. -/
def bitsGammaSpec : ChangeSpec := { name := "bitsGamma", fn := fun _ => fun
  | [d] => { results := [.lit (.bool true)], args := [d] }
  | _ => none }
def bitsGammaRow : OpenClaim := { program := "ytnghmcadhjneeaa", sum := "24ed38129dc62557a88f0736c91426dfde3b5985d757474274431c277efe45a6", func := "varve/varvelaw04.BitsGamma", spec := "bitsGamma", unfollowed := true, recurses := true, apart := false }
def BitsGammaSaid : Prop := bitsGammaRow.holds Try.pinned (OpenSpec.ofChange bitsGammaSpec)

/-- ITS FALSE NEIGHBOUR: 'it returns false'. Refute it at one input. -/
def bitsGammaWrong : ChangeSpec := { name := "bitsGamma", fn := fun _ => fun
  | [d] => { results := [.lit (.bool false)], args := [d] }
  | _ => none }
def BitsGammaWrongFalsely : Prop := bitsGammaRow.holds Try.pinned (OpenSpec.ofChange bitsGammaWrong)

/-- 'varvelaw31.SkipLooks': WHATEVER THE INPUT: true; the input reads as it did. -/
def skipLooksSpec : ChangeSpec := { name := "skipLooks", fn := fun _ => fun
  | [d1, d2] => { results := [.lit (.bool true)], args := [d1, d2] }
  | _ => none }
def skipLooksRow : OpenClaim := { program := "ytnghmcadhjneeaa", sum := "24ed38129dc62557a88f0736c91426dfde3b5985d757474274431c277efe45a6", func := "varve/varvelaw31.SkipLooks", spec := "skipLooks", unfollowed := true, recurses := true, apart := false }
def SkipLooksSaid : Prop := skipLooksRow.holds Try.pinned (OpenSpec.ofChange skipLooksSpec)

/-- ITS FALSE NEIGHBOUR: 'it returns false'. Refute it at one input. -/
def skipLooksWrong : ChangeSpec := { name := "skipLooks", fn := fun _ => fun
  | [d1, d2] => { results := [.lit (.bool false)], args := [d1, d2] }
  | _ => none }
def SkipLooksWrongFalsely : Prop := skipLooksRow.holds Try.pinned (OpenSpec.ofChange skipLooksWrong)

/-- 'varvelaw31.SkipReads': WHATEVER THE INPUT: true; the input reads as it did. -/
def skipReadsSpec : ChangeSpec := { name := "skipReads", fn := fun _ => fun
  | [d1, d2, d3] => { results := [.lit (.bool true)], args := [d1, d2, d3] }
  | _ => none }
def skipReadsRow : OpenClaim := { program := "ytnghmcadhjneeaa", sum := "24ed38129dc62557a88f0736c91426dfde3b5985d757474274431c277efe45a6", func := "varve/varvelaw31.SkipReads", spec := "skipReads", unfollowed := true, recurses := true, apart := false }
def SkipReadsSaid : Prop := skipReadsRow.holds Try.pinned (OpenSpec.ofChange skipReadsSpec)

/-- ITS FALSE NEIGHBOUR: 'it returns false'. Refute it at one input. -/
def skipReadsWrong : ChangeSpec := { name := "skipReads", fn := fun _ => fun
  | [d1, d2, d3] => { results := [.lit (.bool false)], args := [d1, d2, d3] }
  | _ => none }
def SkipReadsWrongFalsely : Prop := skipReadsRow.holds Try.pinned (OpenSpec.ofChange skipReadsWrong)

/-- 'varvelaw31.SkipSegment': WHATEVER THE INPUT: true; the input reads as it did. -/
def skipSegmentSpec : ChangeSpec := { name := "skipSegment", fn := fun _ => fun
  | [d1, d2, d3] => { results := [.lit (.bool true)], args := [d1, d2, d3] }
  | _ => none }
def skipSegmentRow : OpenClaim := { program := "ytnghmcadhjneeaa", sum := "24ed38129dc62557a88f0736c91426dfde3b5985d757474274431c277efe45a6", func := "varve/varvelaw31.SkipSegment", spec := "skipSegment", unfollowed := true, recurses := true, apart := false }
def SkipSegmentSaid : Prop := skipSegmentRow.holds Try.pinned (OpenSpec.ofChange skipSegmentSpec)

/-- ITS FALSE NEIGHBOUR: 'it returns false'. Refute it at one input. -/
def skipSegmentWrong : ChangeSpec := { name := "skipSegment", fn := fun _ => fun
  | [d1, d2, d3] => { results := [.lit (.bool false)], args := [d1, d2, d3] }
  | _ => none }
def SkipSegmentWrongFalsely : Prop := skipSegmentRow.holds Try.pinned (OpenSpec.ofChange skipSegmentWrong)

/-- 'varvelaw31.SkipPages': WHATEVER THE INPUT: true; the input reads as it did. -/
def skipPagesSpec : ChangeSpec := { name := "skipPages", fn := fun _ => fun
  | [d1, d2] => { results := [.lit (.bool true)], args := [d1, d2] }
  | _ => none }
def skipPagesRow : OpenClaim := { program := "ytnghmcadhjneeaa", sum := "24ed38129dc62557a88f0736c91426dfde3b5985d757474274431c277efe45a6", func := "varve/varvelaw31.SkipPages", spec := "skipPages", unfollowed := true, recurses := true, apart := false }
def SkipPagesSaid : Prop := skipPagesRow.holds Try.pinned (OpenSpec.ofChange skipPagesSpec)

/-- ITS FALSE NEIGHBOUR: 'it returns false'. Refute it at one input. -/
def skipPagesWrong : ChangeSpec := { name := "skipPages", fn := fun _ => fun
  | [d1, d2] => { results := [.lit (.bool false)], args := [d1, d2] }
  | _ => none }
def SkipPagesWrongFalsely : Prop := skipPagesRow.holds Try.pinned (OpenSpec.ofChange skipPagesWrong)

/- THE SECOND FORM. 'bulk': how many values and letters a reading holds, each counted each time it is reached (what is shared counts as often as it is met; a slice's spare places count too). A statement '..UptoSaid' is the law's where the arguments, and the package variables that the reading takes, are together of bulk at most 1048576: NARROWER than '..Said'. Prove '..Said' where nothing that the law and all that it calls make is longer than what came in: it says more and counts as full. Else prove '..UptoSaid'. A law counts once. -/
mutual
def uptoBulk {H : Type} : DataW H → Nat
  | .lit (.string bytes) => bytes.length + 1
  | .lit _ => 1
  | .nil => 1
  | .ptr d => uptoBulk d + 1
  | .slice elems spare => uptoBulkAll elems + uptoBulkAll spare + 1
  | .agg parts => uptoBulkAll parts + 1
  | .iface _ d => uptoBulk d + 1
  | .map entries => uptoBulkEntries entries + 1
  | .held _ => 1
def uptoBulkAll {H : Type} : List (DataW H) → Nat
  | [] => 0
  | d :: r => uptoBulk d + uptoBulkAll r
def uptoBulkEntries {H : Type} : List (Lit × DataW H) → Nat
  | [] => 0
  | x :: r => uptoBulkEntry x + uptoBulkEntries r
def uptoBulkEntry {H : Type} : Lit × DataW H → Nat
  | (.string bytes, d) => bytes.length + uptoBulk d + 1
  | (_, d) => uptoBulk d + 1
 end
def uptoSmall : (H : Type) → List (DataW H) → Bool := fun _ ds => decide (uptoBulkAll ds ≤ 1048576)
def OpenSpec.upto (s : _root_.Go.ChangeSpec) : _root_.Go.OpenSpec := { _root_.Go.OpenSpec.ofChange s with cond := some uptoSmall }

/-- 'varvelaw15.RecordRows', WHERE WHAT IT READS IS OF BULK AT MOST 1048576: true; the input reads as it did. -/
def recordRowsUptoRow : OpenClaim := { program := "ytnghmcadhjneeaa", sum := "24ed38129dc62557a88f0736c91426dfde3b5985d757474274431c277efe45a6", func := "varve/varvelaw15.RecordRows", spec := "recordRows", inPlace := ["internal/abi.NoEscape"], apart := false, narrowed := true }
def RecordRowsUptoSaid : Prop := recordRowsUptoRow.holds Try.pinned (OpenSpec.upto recordRowsSpec)

/-- 'varvelaw04.BitsFields', WHERE WHAT IT READS IS OF BULK AT MOST 1048576: true; the input reads as it did. -/
def bitsFieldsUptoRow : OpenClaim := { program := "ytnghmcadhjneeaa", sum := "24ed38129dc62557a88f0736c91426dfde3b5985d757474274431c277efe45a6", func := "varve/varvelaw04.BitsFields", spec := "bitsFields", unfollowed := true, recurses := true, apart := false, narrowed := true }
def BitsFieldsUptoSaid : Prop := bitsFieldsUptoRow.holds Try.pinned (OpenSpec.upto bitsFieldsSpec)

/-- 'varvelaw04.BitsWrites', WHERE WHAT IT READS IS OF BULK AT MOST 1048576: true; the input reads as it did. -/
def bitsWritesUptoRow : OpenClaim := { program := "ytnghmcadhjneeaa", sum := "24ed38129dc62557a88f0736c91426dfde3b5985d757474274431c277efe45a6", func := "varve/varvelaw04.BitsWrites", spec := "bitsWrites", unfollowed := true, recurses := true, apart := false, narrowed := true }
def BitsWritesUptoSaid : Prop := bitsWritesUptoRow.holds Try.pinned (OpenSpec.upto bitsWritesSpec)

/-- 'varvelaw04.BitsBack', WHERE WHAT IT READS IS OF BULK AT MOST 1048576: true; the input reads as it did. -/
def bitsBackUptoRow : OpenClaim := { program := "ytnghmcadhjneeaa", sum := "24ed38129dc62557a88f0736c91426dfde3b5985d757474274431c277efe45a6", func := "varve/varvelaw04.BitsBack", spec := "bitsBack", unfollowed := true, recurses := true, apart := false, narrowed := true }
def BitsBackUptoSaid : Prop := bitsBackUptoRow.holds Try.pinned (OpenSpec.upto bitsBackSpec)

/-- 'varvelaw04.BitsGamma', WHERE WHAT IT READS IS OF BULK AT MOST 1048576: true; the input reads as it did. -/
def bitsGammaUptoRow : OpenClaim := { program := "ytnghmcadhjneeaa", sum := "24ed38129dc62557a88f0736c91426dfde3b5985d757474274431c277efe45a6", func := "varve/varvelaw04.BitsGamma", spec := "bitsGamma", unfollowed := true, recurses := true, apart := false, narrowed := true }
def BitsGammaUptoSaid : Prop := bitsGammaUptoRow.holds Try.pinned (OpenSpec.upto bitsGammaSpec)

/-- 'varvelaw31.SkipLooks', WHERE WHAT IT READS IS OF BULK AT MOST 1048576: true; the input reads as it did. -/
def skipLooksUptoRow : OpenClaim := { program := "ytnghmcadhjneeaa", sum := "24ed38129dc62557a88f0736c91426dfde3b5985d757474274431c277efe45a6", func := "varve/varvelaw31.SkipLooks", spec := "skipLooks", unfollowed := true, recurses := true, apart := false, narrowed := true }
def SkipLooksUptoSaid : Prop := skipLooksUptoRow.holds Try.pinned (OpenSpec.upto skipLooksSpec)

/-- 'varvelaw31.SkipReads', WHERE WHAT IT READS IS OF BULK AT MOST 1048576: true; the input reads as it did. -/
def skipReadsUptoRow : OpenClaim := { program := "ytnghmcadhjneeaa", sum := "24ed38129dc62557a88f0736c91426dfde3b5985d757474274431c277efe45a6", func := "varve/varvelaw31.SkipReads", spec := "skipReads", unfollowed := true, recurses := true, apart := false, narrowed := true }
def SkipReadsUptoSaid : Prop := skipReadsUptoRow.holds Try.pinned (OpenSpec.upto skipReadsSpec)

/-- 'varvelaw31.SkipSegment', WHERE WHAT IT READS IS OF BULK AT MOST 1048576: true; the input reads as it did. -/
def skipSegmentUptoRow : OpenClaim := { program := "ytnghmcadhjneeaa", sum := "24ed38129dc62557a88f0736c91426dfde3b5985d757474274431c277efe45a6", func := "varve/varvelaw31.SkipSegment", spec := "skipSegment", unfollowed := true, recurses := true, apart := false, narrowed := true }
def SkipSegmentUptoSaid : Prop := skipSegmentUptoRow.holds Try.pinned (OpenSpec.upto skipSegmentSpec)

/-- 'varvelaw31.SkipPages', WHERE WHAT IT READS IS OF BULK AT MOST 1048576: true; the input reads as it did. -/
def skipPagesUptoRow : OpenClaim := { program := "ytnghmcadhjneeaa", sum := "24ed38129dc62557a88f0736c91426dfde3b5985d757474274431c277efe45a6", func := "varve/varvelaw31.SkipPages", spec := "skipPages", unfollowed := true, recurses := true, apart := false, narrowed := true }
def SkipPagesUptoSaid : Prop := skipPagesUptoRow.holds Try.pinned (OpenSpec.upto skipPagesSpec)

end Rows
end Go.Proofs.Ytnghmcadhjneeaa
