/-
  No cell of these rows narrows 'for every input' (looked for: loops, veiled, ifaces, maps, wideKeys, modest, calm, conditions, laid).
  DERIVED. THE GIVEN ROWS OF THIS SEAT. 12 by the template 'for every input the law returns true; each argument reads behind the call as it read before'; 0 by the template 'total and deterministic' (their statements: YtjdmbpkabeaccaaTotals.lean).
  GIVEN WITH THE SEED: the statements are not yours to turn. If you find one false, say at which input.
  Laid BY PROGRAM, IN A SANDBOX (cutbox-rows.mjs): the forced cells as the released guide's own fill.sh prints them over the translation c4746146dd80e6a2… (all of the seat's roots in one cut). By AI agents, Wed Nov 11 2026. No macro, syntax, notation, axiom, sorry.
-/
import Derived.Test.YtjdmbpkabeaccaaChecked
import GoSem.Claim
import GoSem.ClaimJoined
import GoSem.ClaimMapViews
import Derived.JoinedTies
import Derived.KernelRfl
namespace Go.Proofs.Ytjdmbpkabeaccaa
/- THE CELL 'sum', in the pinned program and in every row, IS THE sha256 OF THE DUMP (.gsa) THAT YtjdmbpkabeaccaaProg.lean LOADS. Nothing in Lean hashes anything: it is a label: what it is worth is what the hold of that sum in a sandbox is worth. -/
noncomputable def Try.pinned : Pinned := { name := "ytjdmbpkabeaccaa", sum := "c4746146dd80e6a2351972e8cbe1875cd417ca734b7a0af1ed2a2795214c352f", checked := Try.checked }
namespace Rows
def none {H : Type} : Left H := { results := [], args := [] }

/-- 'varvelaw02.VarintPuts': WHATEVER THE INPUT: true; the input reads as it did. -/
def varintPutsSpec : ChangeSpec := { name := "varintPuts", fn := fun _ => fun
  | [d1, d2] => { results := [.lit (.bool true)], args := [d1, d2] }
  | _ => none }
def varintPutsRow : OpenClaim := { program := "ytjdmbpkabeaccaa", sum := "c4746146dd80e6a2351972e8cbe1875cd417ca734b7a0af1ed2a2795214c352f", func := "varve/varvelaw02.VarintPuts", spec := "varintPuts", recurses := true, apart := false }
def VarintPutsSaid : Prop := varintPutsRow.holds Try.pinned (OpenSpec.ofChange varintPutsSpec)

/-- ITS FALSE NEIGHBOUR: 'it returns false'. Refute it at one input. -/
def varintPutsWrong : ChangeSpec := { name := "varintPuts", fn := fun _ => fun
  | [d1, d2] => { results := [.lit (.bool false)], args := [d1, d2] }
  | _ => none }
def VarintPutsWrongFalsely : Prop := varintPutsRow.holds Try.pinned (OpenSpec.ofChange varintPutsWrong)

/-- 'varvelaw02.VarintGets': WHATEVER THE INPUT: true; the input reads as it did. -/
def varintGetsSpec : ChangeSpec := { name := "varintGets", fn := fun _ => fun
  | [d1, d2, d3] => { results := [.lit (.bool true)], args := [d1, d2, d3] }
  | _ => none }
def varintGetsRow : OpenClaim := { program := "ytjdmbpkabeaccaa", sum := "c4746146dd80e6a2351972e8cbe1875cd417ca734b7a0af1ed2a2795214c352f", func := "varve/varvelaw02.VarintGets", spec := "varintGets", apart := false }
def VarintGetsSaid : Prop := varintGetsRow.holds Try.pinned (OpenSpec.ofChange varintGetsSpec)

/-- ITS FALSE NEIGHBOUR: 'it returns false'. Refute it at one input. -/
def varintGetsWrong : ChangeSpec := { name := "varintGets", fn := fun _ => fun
  | [d1, d2, d3] => { results := [.lit (.bool false)], args := [d1, d2, d3] }
  | _ => none }
def VarintGetsWrongFalsely : Prop := varintGetsRow.holds Try.pinned (OpenSpec.ofChange varintGetsWrong)

/-- 'varvelaw02.VarintLists': WHATEVER THE INPUT: true; the input reads as it did. -/
def varintListsSpec : ChangeSpec := { name := "varintLists", fn := fun _ => fun
  | [d1, d2, d3] => { results := [.lit (.bool true)], args := [d1, d2, d3] }
  | _ => none }
def varintListsRow : OpenClaim := { program := "ytjdmbpkabeaccaa", sum := "c4746146dd80e6a2351972e8cbe1875cd417ca734b7a0af1ed2a2795214c352f", func := "varve/varvelaw02.VarintLists", spec := "varintLists", recurses := true, apart := false }
def VarintListsSaid : Prop := varintListsRow.holds Try.pinned (OpenSpec.ofChange varintListsSpec)

/-- ITS FALSE NEIGHBOUR: 'it returns false'. Refute it at one input. -/
def varintListsWrong : ChangeSpec := { name := "varintLists", fn := fun _ => fun
  | [d1, d2, d3] => { results := [.lit (.bool false)], args := [d1, d2, d3] }
  | _ => none }
def VarintListsWrongFalsely : Prop := varintListsRow.holds Try.pinned (OpenSpec.ofChange varintListsWrong)

/-- 'varvelaw02.VarintBack': WHATEVER THE INPUT: true; the input reads as it did. -/
def varintBackSpec : ChangeSpec := { name := "varintBack", fn := fun _ => fun
  | [d1, d2, d3] => { results := [.lit (.bool true)], args := [d1, d2, d3] }
  | _ => none }
def varintBackRow : OpenClaim := { program := "ytjdmbpkabeaccaa", sum := "c4746146dd80e6a2351972e8cbe1875cd417ca734b7a0af1ed2a2795214c352f", func := "varve/varvelaw02.VarintBack", spec := "varintBack", apart := false }
def VarintBackSaid : Prop := varintBackRow.holds Try.pinned (OpenSpec.ofChange varintBackSpec)

/-- ITS FALSE NEIGHBOUR: 'it returns false'. Refute it at one input. -/
def varintBackWrong : ChangeSpec := { name := "varintBack", fn := fun _ => fun
  | [d1, d2, d3] => { results := [.lit (.bool false)], args := [d1, d2, d3] }
  | _ => none }
def VarintBackWrongFalsely : Prop := varintBackRow.holds Try.pinned (OpenSpec.ofChange varintBackWrong)

/-- 'varvelaw02.VarintLeast': WHATEVER THE INPUT: true; the input reads as it did. -/
def varintLeastSpec : ChangeSpec := { name := "varintLeast", fn := fun _ => fun
  | [d1, d2, d3] => { results := [.lit (.bool true)], args := [d1, d2, d3] }
  | _ => none }
def varintLeastRow : OpenClaim := { program := "ytjdmbpkabeaccaa", sum := "c4746146dd80e6a2351972e8cbe1875cd417ca734b7a0af1ed2a2795214c352f", func := "varve/varvelaw02.VarintLeast", spec := "varintLeast", apart := false }
def VarintLeastSaid : Prop := varintLeastRow.holds Try.pinned (OpenSpec.ofChange varintLeastSpec)

/-- ITS FALSE NEIGHBOUR: 'it returns false'. Refute it at one input. -/
def varintLeastWrong : ChangeSpec := { name := "varintLeast", fn := fun _ => fun
  | [d1, d2, d3] => { results := [.lit (.bool false)], args := [d1, d2, d3] }
  | _ => none }
def VarintLeastWrongFalsely : Prop := varintLeastRow.holds Try.pinned (OpenSpec.ofChange varintLeastWrong)

/-- 'varvelaw03.TakeRuns': WHATEVER THE INPUT: true; the input reads as it did. -/
def takeRunsSpec : ChangeSpec := { name := "takeRuns", fn := fun _ => fun
  | [d1, d2] => { results := [.lit (.bool true)], args := [d1, d2] }
  | _ => none }
def takeRunsRow : OpenClaim := { program := "ytjdmbpkabeaccaa", sum := "c4746146dd80e6a2351972e8cbe1875cd417ca734b7a0af1ed2a2795214c352f", func := "varve/varvelaw03.TakeRuns", spec := "takeRuns", unfollowed := true, recurses := true, apart := false }
def TakeRunsSaid : Prop := takeRunsRow.holds Try.pinned (OpenSpec.ofChange takeRunsSpec)

/-- ITS FALSE NEIGHBOUR: 'it returns false'. Refute it at one input. -/
def takeRunsWrong : ChangeSpec := { name := "takeRuns", fn := fun _ => fun
  | [d1, d2] => { results := [.lit (.bool false)], args := [d1, d2] }
  | _ => none }
def TakeRunsWrongFalsely : Prop := takeRunsRow.holds Try.pinned (OpenSpec.ofChange takeRunsWrong)

/-- 'varvelaw03.TakeMoves': WHATEVER THE INPUT: true; the input reads as it did. -/
def takeMovesSpec : ChangeSpec := { name := "takeMoves", fn := fun _ => fun
  | [d1, d2] => { results := [.lit (.bool true)], args := [d1, d2] }
  | _ => none }
def takeMovesRow : OpenClaim := { program := "ytjdmbpkabeaccaa", sum := "c4746146dd80e6a2351972e8cbe1875cd417ca734b7a0af1ed2a2795214c352f", func := "varve/varvelaw03.TakeMoves", spec := "takeMoves", unfollowed := true, recurses := true, apart := false }
def TakeMovesSaid : Prop := takeMovesRow.holds Try.pinned (OpenSpec.ofChange takeMovesSpec)

/-- ITS FALSE NEIGHBOUR: 'it returns false'. Refute it at one input. -/
def takeMovesWrong : ChangeSpec := { name := "takeMoves", fn := fun _ => fun
  | [d1, d2] => { results := [.lit (.bool false)], args := [d1, d2] }
  | _ => none }
def TakeMovesWrongFalsely : Prop := takeMovesRow.holds Try.pinned (OpenSpec.ofChange takeMovesWrong)

/-- 'varvelaw03.TakeParts': WHATEVER THE INPUT: true; the input reads as it did. -/
def takePartsSpec : ChangeSpec := { name := "takeParts", fn := fun _ => fun
  | [d1, d2, d3] => { results := [.lit (.bool true)], args := [d1, d2, d3] }
  | _ => none }
def takePartsRow : OpenClaim := { program := "ytjdmbpkabeaccaa", sum := "c4746146dd80e6a2351972e8cbe1875cd417ca734b7a0af1ed2a2795214c352f", func := "varve/varvelaw03.TakeParts", spec := "takeParts", unfollowed := true, recurses := true, apart := false }
def TakePartsSaid : Prop := takePartsRow.holds Try.pinned (OpenSpec.ofChange takePartsSpec)

/-- ITS FALSE NEIGHBOUR: 'it returns false'. Refute it at one input. -/
def takePartsWrong : ChangeSpec := { name := "takeParts", fn := fun _ => fun
  | [d1, d2, d3] => { results := [.lit (.bool false)], args := [d1, d2, d3] }
  | _ => none }
def TakePartsWrongFalsely : Prop := takePartsRow.holds Try.pinned (OpenSpec.ofChange takePartsWrong)

/-- 'varvelaw03.TakeCovers': WHATEVER THE INPUT: true; the input reads as it did. -/
def takeCoversSpec : ChangeSpec := { name := "takeCovers", fn := fun _ => fun
  | [d1, d2, d3] => { results := [.lit (.bool true)], args := [d1, d2, d3] }
  | _ => none }
def takeCoversRow : OpenClaim := { program := "ytjdmbpkabeaccaa", sum := "c4746146dd80e6a2351972e8cbe1875cd417ca734b7a0af1ed2a2795214c352f", func := "varve/varvelaw03.TakeCovers", spec := "takeCovers", unfollowed := true, recurses := true, apart := false }
def TakeCoversSaid : Prop := takeCoversRow.holds Try.pinned (OpenSpec.ofChange takeCoversSpec)

/-- ITS FALSE NEIGHBOUR: 'it returns false'. Refute it at one input. -/
def takeCoversWrong : ChangeSpec := { name := "takeCovers", fn := fun _ => fun
  | [d1, d2, d3] => { results := [.lit (.bool false)], args := [d1, d2, d3] }
  | _ => none }
def TakeCoversWrongFalsely : Prop := takeCoversRow.holds Try.pinned (OpenSpec.ofChange takeCoversWrong)

/-- 'varvelaw15.RecordOne': WHATEVER THE INPUT: true; the input reads as it did. -/
def recordOneSpec : ChangeSpec := { name := "recordOne", fn := fun _ => fun
  | [d1, d2, d3] => { results := [.lit (.bool true)], args := [d1, d2, d3] }
  | _ => none }
def recordOneRow : OpenClaim := { program := "ytjdmbpkabeaccaa", sum := "c4746146dd80e6a2351972e8cbe1875cd417ca734b7a0af1ed2a2795214c352f", func := "varve/varvelaw15.RecordOne", spec := "recordOne", inPlace := ["internal/abi.NoEscape"], recurses := true, apart := false }
def RecordOneSaid : Prop := recordOneRow.holds Try.pinned (OpenSpec.ofChange recordOneSpec)

/-- ITS FALSE NEIGHBOUR: 'it returns false'. Refute it at one input. -/
def recordOneWrong : ChangeSpec := { name := "recordOne", fn := fun _ => fun
  | [d1, d2, d3] => { results := [.lit (.bool false)], args := [d1, d2, d3] }
  | _ => none }
def RecordOneWrongFalsely : Prop := recordOneRow.holds Try.pinned (OpenSpec.ofChange recordOneWrong)

/-- 'varvelaw15.RecordRow': WHATEVER THE INPUT: true; the input reads as it did. -/
def recordRowSpec : ChangeSpec := { name := "recordRow", fn := fun _ => fun
  | [d1, d2] => { results := [.lit (.bool true)], args := [d1, d2] }
  | _ => none }
def recordRowRow : OpenClaim := { program := "ytjdmbpkabeaccaa", sum := "c4746146dd80e6a2351972e8cbe1875cd417ca734b7a0af1ed2a2795214c352f", func := "varve/varvelaw15.RecordRow", spec := "recordRow", inPlace := ["internal/abi.NoEscape"], recurses := true, apart := false }
def RecordRowSaid : Prop := recordRowRow.holds Try.pinned (OpenSpec.ofChange recordRowSpec)

/-- ITS FALSE NEIGHBOUR: 'it returns false'. Refute it at one input. -/
def recordRowWrong : ChangeSpec := { name := "recordRow", fn := fun _ => fun
  | [d1, d2] => { results := [.lit (.bool false)], args := [d1, d2] }
  | _ => none }
def RecordRowWrongFalsely : Prop := recordRowRow.holds Try.pinned (OpenSpec.ofChange recordRowWrong)

/-- 'varvelaw15.RecordBack': WHATEVER THE INPUT: true; the input reads as it did. -/
def recordBackSpec : ChangeSpec := { name := "recordBack", fn := fun _ => fun
  | [d1, d2, d3] => { results := [.lit (.bool true)], args := [d1, d2, d3] }
  | _ => none }
def recordBackRow : OpenClaim := { program := "ytjdmbpkabeaccaa", sum := "c4746146dd80e6a2351972e8cbe1875cd417ca734b7a0af1ed2a2795214c352f", func := "varve/varvelaw15.RecordBack", spec := "recordBack", inPlace := ["internal/abi.NoEscape"], apart := false }
def RecordBackSaid : Prop := recordBackRow.holds Try.pinned (OpenSpec.ofChange recordBackSpec)

/-- ITS FALSE NEIGHBOUR: 'it returns false'. Refute it at one input. -/
def recordBackWrong : ChangeSpec := { name := "recordBack", fn := fun _ => fun
  | [d1, d2, d3] => { results := [.lit (.bool false)], args := [d1, d2, d3] }
  | _ => none }
def RecordBackWrongFalsely : Prop := recordBackRow.holds Try.pinned (OpenSpec.ofChange recordBackWrong)

/- THE SECOND FORM. 'bulk': how many values and letters a reading holds, each counted each time it is reached (what is shared counts as often as it is met; a slice's spare places count too). A statement '..UptoSaid' is the law's where the arguments, and the package variables that the reading takes, are together of bulk at most 1048576: NARROWER than '..Said'. Prove '..Said' where nothing that the law and all that it calls make is longer than what came in: it says more and counts as full. Else prove '..UptoSaid'. A law counts once. -/
mutual
def uptoBulk {H : Type} : DataW H → Nat
  | .lit (.string bytes) => bytes.length + 1
  | .lit _ => 1
  | .nil => 1
  | .ptr d => uptoBulk d + 1
  | .slice elems spare => uptoBulkAll elems + uptoBulkAll spare + 1
  | .agg parts => uptoBulkAll parts + 1
  | .iface _ d => uptoBulk d + 1
  | .map entries => uptoBulkEntries entries + 1
  | .held _ => 1
def uptoBulkAll {H : Type} : List (DataW H) → Nat
  | [] => 0
  | d :: r => uptoBulk d + uptoBulkAll r
def uptoBulkEntries {H : Type} : List (Lit × DataW H) → Nat
  | [] => 0
  | x :: r => uptoBulkEntry x + uptoBulkEntries r
def uptoBulkEntry {H : Type} : Lit × DataW H → Nat
  | (.string bytes, d) => bytes.length + uptoBulk d + 1
  | (_, d) => uptoBulk d + 1
 end
def uptoSmall : (H : Type) → List (DataW H) → Bool := fun _ ds => decide (uptoBulkAll ds ≤ 1048576)
def OpenSpec.upto (s : _root_.Go.ChangeSpec) : _root_.Go.OpenSpec := { _root_.Go.OpenSpec.ofChange s with cond := some uptoSmall }

/-- 'varvelaw02.VarintPuts', WHERE WHAT IT READS IS OF BULK AT MOST 1048576: true; the input reads as it did. -/
def varintPutsUptoRow : OpenClaim := { program := "ytjdmbpkabeaccaa", sum := "c4746146dd80e6a2351972e8cbe1875cd417ca734b7a0af1ed2a2795214c352f", func := "varve/varvelaw02.VarintPuts", spec := "varintPuts", recurses := true, apart := false, narrowed := true }
def VarintPutsUptoSaid : Prop := varintPutsUptoRow.holds Try.pinned (OpenSpec.upto varintPutsSpec)

/-- 'varvelaw02.VarintGets', WHERE WHAT IT READS IS OF BULK AT MOST 1048576: true; the input reads as it did. -/
def varintGetsUptoRow : OpenClaim := { program := "ytjdmbpkabeaccaa", sum := "c4746146dd80e6a2351972e8cbe1875cd417ca734b7a0af1ed2a2795214c352f", func := "varve/varvelaw02.VarintGets", spec := "varintGets", apart := false, narrowed := true }
def VarintGetsUptoSaid : Prop := varintGetsUptoRow.holds Try.pinned (OpenSpec.upto varintGetsSpec)

/-- 'varvelaw02.VarintLists', WHERE WHAT IT READS IS OF BULK AT MOST 1048576: true; the input reads as it did. -/
def varintListsUptoRow : OpenClaim := { program := "ytjdmbpkabeaccaa", sum := "c4746146dd80e6a2351972e8cbe1875cd417ca734b7a0af1ed2a2795214c352f", func := "varve/varvelaw02.VarintLists", spec := "varintLists", recurses := true, apart := false, narrowed := true }
def VarintListsUptoSaid : Prop := varintListsUptoRow.holds Try.pinned (OpenSpec.upto varintListsSpec)

/-- 'varvelaw02.VarintBack', WHERE WHAT IT READS IS OF BULK AT MOST 1048576: true; the input reads as it did. -/
def varintBackUptoRow : OpenClaim := { program := "ytjdmbpkabeaccaa", sum := "c4746146dd80e6a2351972e8cbe1875cd417ca734b7a0af1ed2a2795214c352f", func := "varve/varvelaw02.VarintBack", spec := "varintBack", apart := false, narrowed := true }
def VarintBackUptoSaid : Prop := varintBackUptoRow.holds Try.pinned (OpenSpec.upto varintBackSpec)

/-- 'varvelaw02.VarintLeast', WHERE WHAT IT READS IS OF BULK AT MOST 1048576: true; the input reads as it did. -/
def varintLeastUptoRow : OpenClaim := { program := "ytjdmbpkabeaccaa", sum := "c4746146dd80e6a2351972e8cbe1875cd417ca734b7a0af1ed2a2795214c352f", func := "varve/varvelaw02.VarintLeast", spec := "varintLeast", apart := false, narrowed := true }
def VarintLeastUptoSaid : Prop := varintLeastUptoRow.holds Try.pinned (OpenSpec.upto varintLeastSpec)

/-- 'varvelaw03.TakeRuns', WHERE WHAT IT READS IS OF BULK AT MOST 1048576: true; the input reads as it did. -/
def takeRunsUptoRow : OpenClaim := { program := "ytjdmbpkabeaccaa", sum := "c4746146dd80e6a2351972e8cbe1875cd417ca734b7a0af1ed2a2795214c352f", func := "varve/varvelaw03.TakeRuns", spec := "takeRuns", unfollowed := true, recurses := true, apart := false, narrowed := true }
def TakeRunsUptoSaid : Prop := takeRunsUptoRow.holds Try.pinned (OpenSpec.upto takeRunsSpec)

/-- 'varvelaw03.TakeMoves', WHERE WHAT IT READS IS OF BULK AT MOST 1048576: true; the input reads as it did. -/
def takeMovesUptoRow : OpenClaim := { program := "ytjdmbpkabeaccaa", sum := "c4746146dd80e6a2351972e8cbe1875cd417ca734b7a0af1ed2a2795214c352f", func := "varve/varvelaw03.TakeMoves", spec := "takeMoves", unfollowed := true, recurses := true, apart := false, narrowed := true }
def TakeMovesUptoSaid : Prop := takeMovesUptoRow.holds Try.pinned (OpenSpec.upto takeMovesSpec)

/-- 'varvelaw03.TakeParts', WHERE WHAT IT READS IS OF BULK AT MOST 1048576: true; the input reads as it did. -/
def takePartsUptoRow : OpenClaim := { program := "ytjdmbpkabeaccaa", sum := "c4746146dd80e6a2351972e8cbe1875cd417ca734b7a0af1ed2a2795214c352f", func := "varve/varvelaw03.TakeParts", spec := "takeParts", unfollowed := true, recurses := true, apart := false, narrowed := true }
def TakePartsUptoSaid : Prop := takePartsUptoRow.holds Try.pinned (OpenSpec.upto takePartsSpec)

/-- 'varvelaw03.TakeCovers', WHERE WHAT IT READS IS OF BULK AT MOST 1048576: true; the input reads as it did. -/
def takeCoversUptoRow : OpenClaim := { program := "ytjdmbpkabeaccaa", sum := "c4746146dd80e6a2351972e8cbe1875cd417ca734b7a0af1ed2a2795214c352f", func := "varve/varvelaw03.TakeCovers", spec := "takeCovers", unfollowed := true, recurses := true, apart := false, narrowed := true }
def TakeCoversUptoSaid : Prop := takeCoversUptoRow.holds Try.pinned (OpenSpec.upto takeCoversSpec)

/-- 'varvelaw15.RecordOne', WHERE WHAT IT READS IS OF BULK AT MOST 1048576: true; the input reads as it did. -/
def recordOneUptoRow : OpenClaim := { program := "ytjdmbpkabeaccaa", sum := "c4746146dd80e6a2351972e8cbe1875cd417ca734b7a0af1ed2a2795214c352f", func := "varve/varvelaw15.RecordOne", spec := "recordOne", inPlace := ["internal/abi.NoEscape"], recurses := true, apart := false, narrowed := true }
def RecordOneUptoSaid : Prop := recordOneUptoRow.holds Try.pinned (OpenSpec.upto recordOneSpec)

/-- 'varvelaw15.RecordRow', WHERE WHAT IT READS IS OF BULK AT MOST 1048576: true; the input reads as it did. -/
def recordRowUptoRow : OpenClaim := { program := "ytjdmbpkabeaccaa", sum := "c4746146dd80e6a2351972e8cbe1875cd417ca734b7a0af1ed2a2795214c352f", func := "varve/varvelaw15.RecordRow", spec := "recordRow", inPlace := ["internal/abi.NoEscape"], recurses := true, apart := false, narrowed := true }
def RecordRowUptoSaid : Prop := recordRowUptoRow.holds Try.pinned (OpenSpec.upto recordRowSpec)

/-- 'varvelaw15.RecordBack', WHERE WHAT IT READS IS OF BULK AT MOST 1048576: true; the input reads as it did. -/
def recordBackUptoRow : OpenClaim := { program := "ytjdmbpkabeaccaa", sum := "c4746146dd80e6a2351972e8cbe1875cd417ca734b7a0af1ed2a2795214c352f", func := "varve/varvelaw15.RecordBack", spec := "recordBack", inPlace := ["internal/abi.NoEscape"], apart := false, narrowed := true }
def RecordBackUptoSaid : Prop := recordBackUptoRow.holds Try.pinned (OpenSpec.upto recordBackSpec)

end Rows
end Go.Proofs.Ytjdmbpkabeaccaa
