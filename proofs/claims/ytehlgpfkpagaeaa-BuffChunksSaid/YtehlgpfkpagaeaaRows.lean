/-
  No cell of these rows narrows 'for every input' (looked for: loops, veiled, ifaces, maps, wideKeys, modest, calm, conditions, laid).
  DERIVED. THE GIVEN ROWS OF THIS SEAT. 11 by the template 'for every input the law returns true; each argument reads behind the call as it read before'; 0 by the template 'total and deterministic' (their statements: YtehlgpfkpagaeaaTotals.lean).
  GIVEN WITH THE SEED: the statements are not yours to turn. If you find one false, say at which input.
  Laid BY PROGRAM, IN A SANDBOX (cutbox-rows.mjs): the forced cells as the released guide's own fill.sh prints them over the translation c5767907cf749832… (all of the seat's roots in one cut). By AI agents, Wed Nov 11 2026. No macro, syntax, notation, axiom, sorry.
-/
import Derived.Test.YtehlgpfkpagaeaaChecked
import GoSem.Claim
import GoSem.ClaimJoined
import GoSem.ClaimMapViews
import Derived.JoinedTies
import Derived.KernelRfl
namespace Go.Proofs.Ytehlgpfkpagaeaa
/- THE CELL 'sum', in the pinned program and in every row, IS THE sha256 OF THE DUMP (.gsa) THAT YtehlgpfkpagaeaaProg.lean LOADS. Nothing in Lean hashes anything: it is a label: what it is worth is what the hold of that sum in a sandbox is worth. -/
noncomputable def Try.pinned : Pinned := { name := "ytehlgpfkpagaeaa", sum := "c5767907cf749832300bbf9ed65ffbe56761e8519703a0859289064698e15cc2", checked := Try.checked }
namespace Rows
def none {H : Type} : Left H := { results := [], args := [] }

/-- 'varvelaw01.SpanOne': WHATEVER THE INPUT: true; the input reads as it did. -/
def spanOneSpec : ChangeSpec := { name := "spanOne", fn := fun _ => fun
  | [d1, d2] => { results := [.lit (.bool true)], args := [d1, d2] }
  | _ => none }
def spanOneRow : OpenClaim := { program := "ytehlgpfkpagaeaa", sum := "c5767907cf749832300bbf9ed65ffbe56761e8519703a0859289064698e15cc2", func := "varve/varvelaw01.SpanOne", spec := "spanOne", unfollowed := true, recurses := true, apart := false }
def SpanOneSaid : Prop := spanOneRow.holds Try.pinned (OpenSpec.ofChange spanOneSpec)

/-- ITS FALSE NEIGHBOUR: 'it returns false'. Refute it at one input. -/
def spanOneWrong : ChangeSpec := { name := "spanOne", fn := fun _ => fun
  | [d1, d2] => { results := [.lit (.bool false)], args := [d1, d2] }
  | _ => none }
def SpanOneWrongFalsely : Prop := spanOneRow.holds Try.pinned (OpenSpec.ofChange spanOneWrong)

/-- 'varvelaw01.SpanFolds': WHATEVER THE INPUT: true; the input reads as it did. -/
def spanFoldsSpec : ChangeSpec := { name := "spanFolds", fn := fun _ => fun
  | [d1, d2, d3] => { results := [.lit (.bool true)], args := [d1, d2, d3] }
  | _ => none }
def spanFoldsRow : OpenClaim := { program := "ytehlgpfkpagaeaa", sum := "c5767907cf749832300bbf9ed65ffbe56761e8519703a0859289064698e15cc2", func := "varve/varvelaw01.SpanFolds", spec := "spanFolds", unfollowed := true, recurses := true, apart := false }
def SpanFoldsSaid : Prop := spanFoldsRow.holds Try.pinned (OpenSpec.ofChange spanFoldsSpec)

/-- ITS FALSE NEIGHBOUR: 'it returns false'. Refute it at one input. -/
def spanFoldsWrong : ChangeSpec := { name := "spanFolds", fn := fun _ => fun
  | [d1, d2, d3] => { results := [.lit (.bool false)], args := [d1, d2, d3] }
  | _ => none }
def SpanFoldsWrongFalsely : Prop := spanFoldsRow.holds Try.pinned (OpenSpec.ofChange spanFoldsWrong)

/-- 'varvelaw01.SpanBoth': WHATEVER THE INPUT: true; the input reads as it did. -/
def spanBothSpec : ChangeSpec := { name := "spanBoth", fn := fun _ => fun
  | [d1, d2, d3] => { results := [.lit (.bool true)], args := [d1, d2, d3] }
  | _ => none }
def spanBothRow : OpenClaim := { program := "ytehlgpfkpagaeaa", sum := "c5767907cf749832300bbf9ed65ffbe56761e8519703a0859289064698e15cc2", func := "varve/varvelaw01.SpanBoth", spec := "spanBoth", unfollowed := true, recurses := true, apart := false }
def SpanBothSaid : Prop := spanBothRow.holds Try.pinned (OpenSpec.ofChange spanBothSpec)

/-- ITS FALSE NEIGHBOUR: 'it returns false'. Refute it at one input. -/
def spanBothWrong : ChangeSpec := { name := "spanBoth", fn := fun _ => fun
  | [d1, d2, d3] => { results := [.lit (.bool false)], args := [d1, d2, d3] }
  | _ => none }
def SpanBothWrongFalsely : Prop := spanBothRow.holds Try.pinned (OpenSpec.ofChange spanBothWrong)

/-- 'varvelaw01.SpanCover': WHATEVER THE INPUT: true; the input reads as it did. -/
def spanCoverSpec : ChangeSpec := { name := "spanCover", fn := fun _ => fun
  | [d1, d2, d3] => { results := [.lit (.bool true)], args := [d1, d2, d3] }
  | _ => none }
def spanCoverRow : OpenClaim := { program := "ytehlgpfkpagaeaa", sum := "c5767907cf749832300bbf9ed65ffbe56761e8519703a0859289064698e15cc2", func := "varve/varvelaw01.SpanCover", spec := "spanCover", unfollowed := true, recurses := true, apart := false }
def SpanCoverSaid : Prop := spanCoverRow.holds Try.pinned (OpenSpec.ofChange spanCoverSpec)

/-- ITS FALSE NEIGHBOUR: 'it returns false'. Refute it at one input. -/
def spanCoverWrong : ChangeSpec := { name := "spanCover", fn := fun _ => fun
  | [d1, d2, d3] => { results := [.lit (.bool false)], args := [d1, d2, d3] }
  | _ => none }
def SpanCoverWrongFalsely : Prop := spanCoverRow.holds Try.pinned (OpenSpec.ofChange spanCoverWrong)

/-- 'varvelaw06.FrontRanks': WHATEVER THE INPUT: true; the input reads as it did. -/
def frontRanksSpec : ChangeSpec := { name := "frontRanks", fn := fun _ => fun
  | [d1, d2] => { results := [.lit (.bool true)], args := [d1, d2] }
  | _ => none }
def frontRanksRow : OpenClaim := { program := "ytehlgpfkpagaeaa", sum := "c5767907cf749832300bbf9ed65ffbe56761e8519703a0859289064698e15cc2", func := "varve/varvelaw06.FrontRanks", spec := "frontRanks", unfollowed := true, recurses := true, apart := false }
def FrontRanksSaid : Prop := frontRanksRow.holds Try.pinned (OpenSpec.ofChange frontRanksSpec)

/-- ITS FALSE NEIGHBOUR: 'it returns false'. Refute it at one input. -/
def frontRanksWrong : ChangeSpec := { name := "frontRanks", fn := fun _ => fun
  | [d1, d2] => { results := [.lit (.bool false)], args := [d1, d2] }
  | _ => none }
def FrontRanksWrongFalsely : Prop := frontRanksRow.holds Try.pinned (OpenSpec.ofChange frontRanksWrong)

/-- 'varvelaw06.FrontBack': WHATEVER THE INPUT: true; the input reads as it did. -/
def frontBackSpec : ChangeSpec := { name := "frontBack", fn := fun _ => fun
  | [d1, d2] => { results := [.lit (.bool true)], args := [d1, d2] }
  | _ => none }
def frontBackRow : OpenClaim := { program := "ytehlgpfkpagaeaa", sum := "c5767907cf749832300bbf9ed65ffbe56761e8519703a0859289064698e15cc2", func := "varve/varvelaw06.FrontBack", spec := "frontBack", unfollowed := true, recurses := true, apart := false }
def FrontBackSaid : Prop := frontBackRow.holds Try.pinned (OpenSpec.ofChange frontBackSpec)

/-- ITS FALSE NEIGHBOUR: 'it returns false'. Refute it at one input. -/
def frontBackWrong : ChangeSpec := { name := "frontBack", fn := fun _ => fun
  | [d1, d2] => { results := [.lit (.bool false)], args := [d1, d2] }
  | _ => none }
def FrontBackWrongFalsely : Prop := frontBackRow.holds Try.pinned (OpenSpec.ofChange frontBackWrong)

/-- 'varvelaw06.FrontRuns': WHATEVER THE INPUT: true; the input reads as it did. -/
def frontRunsSpec : ChangeSpec := { name := "frontRuns", fn := fun _ => fun
  | [d] => { results := [.lit (.bool true)], args := [d] }
  | _ => none }
def frontRunsRow : OpenClaim := { program := "ytehlgpfkpagaeaa", sum := "c5767907cf749832300bbf9ed65ffbe56761e8519703a0859289064698e15cc2", func := "varve/varvelaw06.FrontRuns", spec := "frontRuns", unfollowed := true, recurses := true, apart := false }
def FrontRunsSaid : Prop := frontRunsRow.holds Try.pinned (OpenSpec.ofChange frontRunsSpec)

/-- ITS FALSE NEIGHBOUR: 'it returns false'. Refute it at one input. -/
def frontRunsWrong : ChangeSpec := { name := "frontRuns", fn := fun _ => fun
  | [d] => { results := [.lit (.bool false)], args := [d] }
  | _ => none }
def FrontRunsWrongFalsely : Prop := frontRunsRow.holds Try.pinned (OpenSpec.ofChange frontRunsWrong)

/-- 'varvelaw06.FrontRow': WHATEVER THE INPUT: true; the input reads as it did. -/
def frontRowSpec : ChangeSpec := { name := "frontRow", fn := fun _ => fun
  | [d] => { results := [.lit (.bool true)], args := [d] }
  | _ => none }
def frontRowRow : OpenClaim := { program := "ytehlgpfkpagaeaa", sum := "c5767907cf749832300bbf9ed65ffbe56761e8519703a0859289064698e15cc2", func := "varve/varvelaw06.FrontRow", spec := "frontRow", unfollowed := true, recurses := true, apart := false }
def FrontRowSaid : Prop := frontRowRow.holds Try.pinned (OpenSpec.ofChange frontRowSpec)

/-- ITS FALSE NEIGHBOUR: 'it returns false'. Refute it at one input. -/
def frontRowWrong : ChangeSpec := { name := "frontRow", fn := fun _ => fun
  | [d] => { results := [.lit (.bool false)], args := [d] }
  | _ => none }
def FrontRowWrongFalsely : Prop := frontRowRow.holds Try.pinned (OpenSpec.ofChange frontRowWrong)

/-- 'varvelaw29.BuffDoes': WHATEVER THE INPUT: true; the input reads as it did. -/
def buffDoesSpec : ChangeSpec := { name := "buffDoes", fn := fun _ => fun
  | [d1, d2, d3] => { results := [.lit (.bool true)], args := [d1, d2, d3] }
  | _ => none }
def buffDoesRow : OpenClaim := { program := "ytehlgpfkpagaeaa", sum := "c5767907cf749832300bbf9ed65ffbe56761e8519703a0859289064698e15cc2", func := "varve/varvelaw29.BuffDoes", spec := "buffDoes", unfollowed := true, recurses := true, apart := false }
def BuffDoesSaid : Prop := buffDoesRow.holds Try.pinned (OpenSpec.ofChange buffDoesSpec)

/-- ITS FALSE NEIGHBOUR: 'it returns false'. Refute it at one input. -/
def buffDoesWrong : ChangeSpec := { name := "buffDoes", fn := fun _ => fun
  | [d1, d2, d3] => { results := [.lit (.bool false)], args := [d1, d2, d3] }
  | _ => none }
def BuffDoesWrongFalsely : Prop := buffDoesRow.holds Try.pinned (OpenSpec.ofChange buffDoesWrong)

/-- 'varvelaw29.BuffChunks': WHATEVER THE INPUT: true; the input reads as it did. -/
def buffChunksSpec : ChangeSpec := { name := "buffChunks", fn := fun _ => fun
  | [d1, d2] => { results := [.lit (.bool true)], args := [d1, d2] }
  | _ => none }
def buffChunksRow : OpenClaim := { program := "ytehlgpfkpagaeaa", sum := "c5767907cf749832300bbf9ed65ffbe56761e8519703a0859289064698e15cc2", func := "varve/varvelaw29.BuffChunks", spec := "buffChunks", unfollowed := true, recurses := true, apart := false }
def BuffChunksSaid : Prop := buffChunksRow.holds Try.pinned (OpenSpec.ofChange buffChunksSpec)

/-- ITS FALSE NEIGHBOUR: 'it returns false'. Refute it at one input. -/
def buffChunksWrong : ChangeSpec := { name := "buffChunks", fn := fun _ => fun
  | [d1, d2] => { results := [.lit (.bool false)], args := [d1, d2] }
  | _ => none }
def BuffChunksWrongFalsely : Prop := buffChunksRow.holds Try.pinned (OpenSpec.ofChange buffChunksWrong)

/-- 'varvelaw29.BuffAdds': WHATEVER THE INPUT: true; the input reads as it did. -/
def buffAddsSpec : ChangeSpec := { name := "buffAdds", fn := fun _ => fun
  | [d1, d2] => { results := [.lit (.bool true)], args := [d1, d2] }
  | _ => none }
def buffAddsRow : OpenClaim := { program := "ytehlgpfkpagaeaa", sum := "c5767907cf749832300bbf9ed65ffbe56761e8519703a0859289064698e15cc2", func := "varve/varvelaw29.BuffAdds", spec := "buffAdds", unfollowed := true, recurses := true, apart := false }
def BuffAddsSaid : Prop := buffAddsRow.holds Try.pinned (OpenSpec.ofChange buffAddsSpec)

/-- ITS FALSE NEIGHBOUR: 'it returns false'. Refute it at one input. -/
def buffAddsWrong : ChangeSpec := { name := "buffAdds", fn := fun _ => fun
  | [d1, d2] => { results := [.lit (.bool false)], args := [d1, d2] }
  | _ => none }
def BuffAddsWrongFalsely : Prop := buffAddsRow.holds Try.pinned (OpenSpec.ofChange buffAddsWrong)

/- THE SECOND FORM. 'bulk': how many values and letters a reading holds, each counted each time it is reached (what is shared counts as often as it is met; a slice's spare places count too). A statement '..UptoSaid' is the law's where the arguments, and the package variables that the reading takes, are together of bulk at most 1048576: NARROWER than '..Said'. Prove '..Said' where nothing that the law and all that it calls make is longer than what came in: it says more and counts as full. Else prove '..UptoSaid'. A law counts once. -/
mutual
def uptoBulk {H : Type} : DataW H → Nat
  | .lit (.string bytes) => bytes.length + 1
  | .lit _ => 1
  | .nil => 1
  | .ptr d => uptoBulk d + 1
  | .slice elems spare => uptoBulkAll elems + uptoBulkAll spare + 1
  | .agg parts => uptoBulkAll parts + 1
  | .iface _ d => uptoBulk d + 1
  | .map entries => uptoBulkEntries entries + 1
  | .held _ => 1
def uptoBulkAll {H : Type} : List (DataW H) → Nat
  | [] => 0
  | d :: r => uptoBulk d + uptoBulkAll r
def uptoBulkEntries {H : Type} : List (Lit × DataW H) → Nat
  | [] => 0
  | x :: r => uptoBulkEntry x + uptoBulkEntries r
def uptoBulkEntry {H : Type} : Lit × DataW H → Nat
  | (.string bytes, d) => bytes.length + uptoBulk d + 1
  | (_, d) => uptoBulk d + 1
 end
def uptoSmall : (H : Type) → List (DataW H) → Bool := fun _ ds => decide (uptoBulkAll ds ≤ 1048576)
def OpenSpec.upto (s : _root_.Go.ChangeSpec) : _root_.Go.OpenSpec := { _root_.Go.OpenSpec.ofChange s with cond := some uptoSmall }

/-- 'varvelaw01.SpanOne', WHERE WHAT IT READS IS OF BULK AT MOST 1048576: true; the input reads as it did. -/
def spanOneUptoRow : OpenClaim := { program := "ytehlgpfkpagaeaa", sum := "c5767907cf749832300bbf9ed65ffbe56761e8519703a0859289064698e15cc2", func := "varve/varvelaw01.SpanOne", spec := "spanOne", unfollowed := true, recurses := true, apart := false, narrowed := true }
def SpanOneUptoSaid : Prop := spanOneUptoRow.holds Try.pinned (OpenSpec.upto spanOneSpec)

/-- 'varvelaw01.SpanFolds', WHERE WHAT IT READS IS OF BULK AT MOST 1048576: true; the input reads as it did. -/
def spanFoldsUptoRow : OpenClaim := { program := "ytehlgpfkpagaeaa", sum := "c5767907cf749832300bbf9ed65ffbe56761e8519703a0859289064698e15cc2", func := "varve/varvelaw01.SpanFolds", spec := "spanFolds", unfollowed := true, recurses := true, apart := false, narrowed := true }
def SpanFoldsUptoSaid : Prop := spanFoldsUptoRow.holds Try.pinned (OpenSpec.upto spanFoldsSpec)

/-- 'varvelaw01.SpanBoth', WHERE WHAT IT READS IS OF BULK AT MOST 1048576: true; the input reads as it did. -/
def spanBothUptoRow : OpenClaim := { program := "ytehlgpfkpagaeaa", sum := "c5767907cf749832300bbf9ed65ffbe56761e8519703a0859289064698e15cc2", func := "varve/varvelaw01.SpanBoth", spec := "spanBoth", unfollowed := true, recurses := true, apart := false, narrowed := true }
def SpanBothUptoSaid : Prop := spanBothUptoRow.holds Try.pinned (OpenSpec.upto spanBothSpec)

/-- 'varvelaw01.SpanCover', WHERE WHAT IT READS IS OF BULK AT MOST 1048576: true; the input reads as it did. -/
def spanCoverUptoRow : OpenClaim := { program := "ytehlgpfkpagaeaa", sum := "c5767907cf749832300bbf9ed65ffbe56761e8519703a0859289064698e15cc2", func := "varve/varvelaw01.SpanCover", spec := "spanCover", unfollowed := true, recurses := true, apart := false, narrowed := true }
def SpanCoverUptoSaid : Prop := spanCoverUptoRow.holds Try.pinned (OpenSpec.upto spanCoverSpec)

/-- 'varvelaw06.FrontRanks', WHERE WHAT IT READS IS OF BULK AT MOST 1048576: true; the input reads as it did. -/
def frontRanksUptoRow : OpenClaim := { program := "ytehlgpfkpagaeaa", sum := "c5767907cf749832300bbf9ed65ffbe56761e8519703a0859289064698e15cc2", func := "varve/varvelaw06.FrontRanks", spec := "frontRanks", unfollowed := true, recurses := true, apart := false, narrowed := true }
def FrontRanksUptoSaid : Prop := frontRanksUptoRow.holds Try.pinned (OpenSpec.upto frontRanksSpec)

/-- 'varvelaw06.FrontBack', WHERE WHAT IT READS IS OF BULK AT MOST 1048576: true; the input reads as it did. -/
def frontBackUptoRow : OpenClaim := { program := "ytehlgpfkpagaeaa", sum := "c5767907cf749832300bbf9ed65ffbe56761e8519703a0859289064698e15cc2", func := "varve/varvelaw06.FrontBack", spec := "frontBack", unfollowed := true, recurses := true, apart := false, narrowed := true }
def FrontBackUptoSaid : Prop := frontBackUptoRow.holds Try.pinned (OpenSpec.upto frontBackSpec)

/-- 'varvelaw06.FrontRuns', WHERE WHAT IT READS IS OF BULK AT MOST 1048576: true; the input reads as it did. -/
def frontRunsUptoRow : OpenClaim := { program := "ytehlgpfkpagaeaa", sum := "c5767907cf749832300bbf9ed65ffbe56761e8519703a0859289064698e15cc2", func := "varve/varvelaw06.FrontRuns", spec := "frontRuns", unfollowed := true, recurses := true, apart := false, narrowed := true }
def FrontRunsUptoSaid : Prop := frontRunsUptoRow.holds Try.pinned (OpenSpec.upto frontRunsSpec)

/-- 'varvelaw06.FrontRow', WHERE WHAT IT READS IS OF BULK AT MOST 1048576: true; the input reads as it did. -/
def frontRowUptoRow : OpenClaim := { program := "ytehlgpfkpagaeaa", sum := "c5767907cf749832300bbf9ed65ffbe56761e8519703a0859289064698e15cc2", func := "varve/varvelaw06.FrontRow", spec := "frontRow", unfollowed := true, recurses := true, apart := false, narrowed := true }
def FrontRowUptoSaid : Prop := frontRowUptoRow.holds Try.pinned (OpenSpec.upto frontRowSpec)

/-- 'varvelaw29.BuffDoes', WHERE WHAT IT READS IS OF BULK AT MOST 1048576: true; the input reads as it did. -/
def buffDoesUptoRow : OpenClaim := { program := "ytehlgpfkpagaeaa", sum := "c5767907cf749832300bbf9ed65ffbe56761e8519703a0859289064698e15cc2", func := "varve/varvelaw29.BuffDoes", spec := "buffDoes", unfollowed := true, recurses := true, apart := false, narrowed := true }
def BuffDoesUptoSaid : Prop := buffDoesUptoRow.holds Try.pinned (OpenSpec.upto buffDoesSpec)

/-- 'varvelaw29.BuffChunks', WHERE WHAT IT READS IS OF BULK AT MOST 1048576: true; the input reads as it did. -/
def buffChunksUptoRow : OpenClaim := { program := "ytehlgpfkpagaeaa", sum := "c5767907cf749832300bbf9ed65ffbe56761e8519703a0859289064698e15cc2", func := "varve/varvelaw29.BuffChunks", spec := "buffChunks", unfollowed := true, recurses := true, apart := false, narrowed := true }
def BuffChunksUptoSaid : Prop := buffChunksUptoRow.holds Try.pinned (OpenSpec.upto buffChunksSpec)

/-- 'varvelaw29.BuffAdds', WHERE WHAT IT READS IS OF BULK AT MOST 1048576: true; the input reads as it did. -/
def buffAddsUptoRow : OpenClaim := { program := "ytehlgpfkpagaeaa", sum := "c5767907cf749832300bbf9ed65ffbe56761e8519703a0859289064698e15cc2", func := "varve/varvelaw29.BuffAdds", spec := "buffAdds", unfollowed := true, recurses := true, apart := false, narrowed := true }
def BuffAddsUptoSaid : Prop := buffAddsUptoRow.holds Try.pinned (OpenSpec.upto buffAddsSpec)

end Rows
end Go.Proofs.Ytehlgpfkpagaeaa
