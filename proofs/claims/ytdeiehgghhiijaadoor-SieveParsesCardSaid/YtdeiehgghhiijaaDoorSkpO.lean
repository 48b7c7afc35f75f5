/- The walks of package skip: a query that is asked. -/
import Derived.Test.YtdeiehgghhiijaaDoorSkpW
import Derived.Test.YtdeiehgghhiijaaDoorReg2
namespace Go.Proofs.YtdeiehgghhiijaaDoor
set_option linter.unusedVariables false
set_option linter.unusedSimpArgs false
set_option linter.unnecessarySimpa false
open Go.RowKit
namespace SkpW
open SpanW (R rv trimR hasB)

theorem results_row1 {P : Program} {fn : Func} {p : Tmp} {ty : TypeId} (h : fn.results = #[.cell p ty]) (tmps : Array Value) (w : World) (g : Nat) (t : TypeId) (cs : Array Value) (fr : Nat × Nat) (d : TypeDesc)
    (hp : tmps.getD p undef = .pointer (some ⟨g, 0, none⟩)) (hg : w.heap[g]? = some (.cells cs t fr))
    (hu : P.underlying ty = some d) (hd : (match d with | .struct _ | .array _ _ => true | _ => false) = true) (hi : (P.info? ty).map (·.size) = some cs.size) :
    (results fn tmps).run P w = .ok (.agg cs) w := by
  have hp' : tmps[p]?.getD undef = .pointer (some ⟨g, 0, none⟩) := by simpa using hp
  simp [results, h, hp', asAddr, run_loadVar_row w g t ty cs fr d hg hu hd hi]
def seqsQ (q : Qy) : R := if chkQ q = 0 then trimR (q.s1, q.s2) q.frm else (1, 0)
abbrev zeroQ : Qy := ⟨0, 0, 1, 0, [], 0, 0⟩
def ofQ (q : Qy) : Qy × R := if chkQ q = 0 then (q, trimR (q.s1, q.s2) q.frm) else (zeroQ, (1, 0))
abbrev ac (a : Qy × R) : Array Value := #[.int .i64 a.1.s1, .int .i64 a.1.s2, .int .i64 a.1.t1, .int .i64 a.1.t2, str a.1.find, .int .i64 a.1.limit, .int .i64 a.1.frm, .int .i64 a.2.1, .int .i64 a.2.2]
abbrev av (a : Qy × R) : Value := .agg (ac a)
theorem blk9 {w : World} {g : Nat} {t : TypeId} {a0 a1 a2 a3 a4 a5 a6 a7 a8 : Value} (h : Blk w g t #[a0, a1, a2, a3, a4, a5, a6, a7, a8]) :
    (w.cell? ⟨g, 0, none⟩ = some a0 ∧ w.cell? ⟨g, 1, none⟩ = some a1 ∧ w.cell? ⟨g, 2, none⟩ = some a2 ∧ w.cell? ⟨g, 3, none⟩ = some a3 ∧ w.cell? ⟨g, 4, none⟩ = some a4 ∧ w.cell? ⟨g, 5, none⟩ = some a5 ∧ w.cell? ⟨g, 6, none⟩ = some a6 ∧ w.cell? ⟨g, 7, none⟩ = some a7 ∧ w.cell? ⟨g, 8, none⟩ = some a8) ∧
    (∀ i, w.frozen? ⟨g, i, none⟩ = false) :=
  ⟨⟨h.cell_ 0 rfl, h.cell_ 1 rfl, h.cell_ 2 rfl, h.cell_ 3 rfl, h.cell_ 4 rfl, h.cell_ 5 rfl, h.cell_ 6 rfl, h.cell_ 7 rfl, h.cell_ 8 rfl⟩, fun i => h.frozen i⟩

end SkpW
end Go.Proofs.YtdeiehgghhiijaaDoor
