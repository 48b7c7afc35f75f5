/-
  No cell of these rows narrows 'for every input' (looked for: loops, veiled, ifaces, maps, wideKeys, modest, calm, conditions, laid).
  DERIVED. THE GIVEN ROWS OF THIS SEAT. 3 by the template 'for every input the law returns true; each argument reads behind the call as it read before'; 0 by the template 'total and deterministic' (their statements: YtnpncpoiiikafaaGreatTotals.lean).
  GIVEN WITH THE SEED: the statements are not yours to turn. If you find one false, say at which input.
  Laid BY PROGRAM, IN A SANDBOX (cutbox-rows.mjs): the forced cells as the released guide's own fill.sh prints them over the translation cb0e688dc9569152… (all of the seat's roots in one cut). By AI agents, Wed Nov 11 2026. No macro, syntax, notation, axiom, sorry.
-/
import Derived.Test.YtnpncpoiiikafaaGreatChecked
import GoSem.Claim
import GoSem.ClaimJoined
import GoSem.ClaimMapViews
import Derived.JoinedTies
import Derived.KernelRfl
namespace Go.Proofs.YtnpncpoiiikafaaGreat
/- THE CELL 'sum', in the pinned program and in every row, IS THE sha256 OF THE DUMP (.gsa) THAT YtnpncpoiiikafaaGreatProg.lean LOADS. Nothing in Lean hashes anything: it is a label: what it is worth is what the hold of that sum in a sandbox is worth. -/
noncomputable def Tryz.pinned : Pinned := { name := "ytnpncpoiiikafaagreat", sum := "cb0e688dc95691520817529f5e1f4b5db4d02988468d761221df7ee7c730f335", checked := Tryz.checked }
namespace Rows
def none {H : Type} : Left H := { results := [], args := [] }

/-- 'varvetop.TopTail': WHATEVER THE INPUT: true; the input reads as it did. -/
def topTailSpec : ChangeSpec := { name := "topTail", fn := fun _ => fun
  | [d1, d2] => { results := [.lit (.bool true)], args := [d1, d2] }
  | _ => none }
def topTailRow : OpenClaim := { program := "ytnpncpoiiikafaagreat", sum := "cb0e688dc95691520817529f5e1f4b5db4d02988468d761221df7ee7c730f335", func := "varve/varvetop.TopTail", spec := "topTail", inPlace := ["internal/abi.NoEscape"], unfollowed := true, recurses := true, apart := false }
def TopTailSaid : Prop := topTailRow.holds Tryz.pinned (OpenSpec.ofChange topTailSpec)

/-- ITS FALSE NEIGHBOUR: 'it returns false'. Refute it at one input. -/
def topTailWrong : ChangeSpec := { name := "topTail", fn := fun _ => fun
  | [d1, d2] => { results := [.lit (.bool false)], args := [d1, d2] }
  | _ => none }
def TopTailWrongFalsely : Prop := topTailRow.holds Tryz.pinned (OpenSpec.ofChange topTailWrong)

/-- 'varvetop.TopDecode': WHATEVER THE INPUT: true; the input reads as it did. -/
def topDecodeSpec : ChangeSpec := { name := "topDecode", fn := fun _ => fun
  | [d] => { results := [.lit (.bool true)], args := [d] }
  | _ => none }
def topDecodeRow : OpenClaim := { program := "ytnpncpoiiikafaagreat", sum := "cb0e688dc95691520817529f5e1f4b5db4d02988468d761221df7ee7c730f335", func := "varve/varvetop.TopDecode", spec := "topDecode", inPlace := ["internal/abi.NoEscape"], unfollowed := true, recurses := true, apart := false }
def TopDecodeSaid : Prop := topDecodeRow.holds Tryz.pinned (OpenSpec.ofChange topDecodeSpec)

/-- ITS FALSE NEIGHBOUR: 'it returns false'. Refute it at one input. -/
def topDecodeWrong : ChangeSpec := { name := "topDecode", fn := fun _ => fun
  | [d] => { results := [.lit (.bool false)], args := [d] }
  | _ => none }
def TopDecodeWrongFalsely : Prop := topDecodeRow.holds Tryz.pinned (OpenSpec.ofChange topDecodeWrong)

/-- 'varvelaw31.SkipBlock': WHATEVER THE INPUT: true; the input reads as it did. -/
def skipBlockSpec : ChangeSpec := { name := "skipBlock", fn := fun _ => fun
  | [d1, d2] => { results := [.lit (.bool true)], args := [d1, d2] }
  | _ => none }
def skipBlockRow : OpenClaim := { program := "ytnpncpoiiikafaagreat", sum := "cb0e688dc95691520817529f5e1f4b5db4d02988468d761221df7ee7c730f335", func := "varve/varvelaw31.SkipBlock", spec := "skipBlock", inPlace := ["internal/abi.NoEscape"], unfollowed := true, recurses := true, apart := false }
def SkipBlockSaid : Prop := skipBlockRow.holds Tryz.pinned (OpenSpec.ofChange skipBlockSpec)

/-- ITS FALSE NEIGHBOUR: 'it returns false'. Refute it at one input. -/
def skipBlockWrong : ChangeSpec := { name := "skipBlock", fn := fun _ => fun
  | [d1, d2] => { results := [.lit (.bool false)], args := [d1, d2] }
  | _ => none }
def SkipBlockWrongFalsely : Prop := skipBlockRow.holds Tryz.pinned (OpenSpec.ofChange skipBlockWrong)

/- THE SECOND FORM. 'bulk': how many values and letters a reading holds, each counted each time it is reached (what is shared counts as often as it is met; a slice's spare places count too). A statement '..UptoSaid' is the law's where the arguments, and the package variables that the reading takes, are together of bulk at most 1048576: NARROWER than '..Said'. Prove '..Said' where nothing that the law and all that it calls make is longer than what came in: it says more and counts as full. Else prove '..UptoSaid'. A law counts once. -/
mutual
def uptoBulk {H : Type} : DataW H → Nat
  | .lit (.string bytes) => bytes.length + 1
  | .lit _ => 1
  | .nil => 1
  | .ptr d => uptoBulk d + 1
  | .slice elems spare => uptoBulkAll elems + uptoBulkAll spare + 1
  | .agg parts => uptoBulkAll parts + 1
  | .iface _ d => uptoBulk d + 1
  | .map entries => uptoBulkEntries entries + 1
  | .held _ => 1
def uptoBulkAll {H : Type} : List (DataW H) → Nat
  | [] => 0
  | d :: r => uptoBulk d + uptoBulkAll r
def uptoBulkEntries {H : Type} : List (Lit × DataW H) → Nat
  | [] => 0
  | x :: r => uptoBulkEntry x + uptoBulkEntries r
def uptoBulkEntry {H : Type} : Lit × DataW H → Nat
  | (.string bytes, d) => bytes.length + uptoBulk d + 1
  | (_, d) => uptoBulk d + 1
 end
def uptoSmall : (H : Type) → List (DataW H) → Bool := fun _ ds => decide (uptoBulkAll ds ≤ 1048576)
def OpenSpec.upto (s : _root_.Go.ChangeSpec) : _root_.Go.OpenSpec := { _root_.Go.OpenSpec.ofChange s with cond := some uptoSmall }

/-- 'varvetop.TopTail', WHERE WHAT IT READS IS OF BULK AT MOST 1048576: true; the input reads as it did. -/
def topTailUptoRow : OpenClaim := { program := "ytnpncpoiiikafaagreat", sum := "cb0e688dc95691520817529f5e1f4b5db4d02988468d761221df7ee7c730f335", func := "varve/varvetop.TopTail", spec := "topTail", inPlace := ["internal/abi.NoEscape"], unfollowed := true, recurses := true, apart := false, narrowed := true }
def TopTailUptoSaid : Prop := topTailUptoRow.holds Tryz.pinned (OpenSpec.upto topTailSpec)

/-- 'varvetop.TopDecode', WHERE WHAT IT READS IS OF BULK AT MOST 1048576: true; the input reads as it did. -/
def topDecodeUptoRow : OpenClaim := { program := "ytnpncpoiiikafaagreat", sum := "cb0e688dc95691520817529f5e1f4b5db4d02988468d761221df7ee7c730f335", func := "varve/varvetop.TopDecode", spec := "topDecode", inPlace := ["internal/abi.NoEscape"], unfollowed := true, recurses := true, apart := false, narrowed := true }
def TopDecodeUptoSaid : Prop := topDecodeUptoRow.holds Tryz.pinned (OpenSpec.upto topDecodeSpec)

/-- 'varvelaw31.SkipBlock', WHERE WHAT IT READS IS OF BULK AT MOST 1048576: true; the input reads as it did. -/
def skipBlockUptoRow : OpenClaim := { program := "ytnpncpoiiikafaagreat", sum := "cb0e688dc95691520817529f5e1f4b5db4d02988468d761221df7ee7c730f335", func := "varve/varvelaw31.SkipBlock", spec := "skipBlock", inPlace := ["internal/abi.NoEscape"], unfollowed := true, recurses := true, apart := false, narrowed := true }
def SkipBlockUptoSaid : Prop := skipBlockUptoRow.holds Tryz.pinned (OpenSpec.upto skipBlockSpec)

end Rows
end Go.Proofs.YtnpncpoiiikafaaGreat
