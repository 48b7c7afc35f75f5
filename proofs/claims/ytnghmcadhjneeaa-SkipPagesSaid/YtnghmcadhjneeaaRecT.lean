/- Walks over package record and its reference: a record is taken; a record is put. -/
import Derived.Test.YtnghmcadhjneeaaRecV
import Derived.Test.YtnghmcadhjneeaaRecW
import Derived.Test.YtnghmcadhjneeaaVarG
import Derived.Test.YtnghmcadhjneeaaBld
namespace Go.Proofs.Ytnghmcadhjneeaa
set_option linter.unusedVariables false
set_option linter.unusedSimpArgs false
set_option linter.unnecessarySimpa false
open Go.RowKit
namespace RecW

theorem results_row2 {P : Program} {fn : Func} {p u v : Tmp} {ty : TypeId} (h : fn.results = #[.cell p ty, .tmp u, .tmp v]) (tmps : Array Value) (w : World) (g : Nat) (t : TypeId) (cs : Array Value) (fr : Nat × Nat) (d : TypeDesc)
    (hp : tmps.getD p undef = .pointer (some ⟨g, 0, none⟩)) (hg : w.heap[g]? = some (.cells cs t fr))
    (hu : P.underlying ty = some d) (hd : (match d with | .struct _ | .array _ _ => true | _ => false) = true) (hi : (P.info? ty).map (·.size) = some cs.size) :
    (results fn tmps).run P w = .ok (.tuple #[.agg cs, tmps.getD u undef, tmps.getD v undef]) w := by
  have hp' : tmps[p]?.getD undef = .pointer (some ⟨g, 0, none⟩) := by simpa using hp
  simp [results, h, hp', asAddr, run_loadVar_row w g t ty cs fr d hg hu hd hi]
abbrev rtup (y : Rc × Int × Int) : Value := .tuple #[recv y.1, .int .i64 y.2.1, .int .i64 y.2.2]
theorem ext_cut (l : List UInt8) (p q : Nat) : (⟨l.toArray⟩ : ByteArray).extract p q = ⟨((l.drop p).take (q - p)).toArray⟩ := by
  apply ByteArray.ext
  simp

end RecW
end Go.Proofs.Ytnghmcadhjneeaa
