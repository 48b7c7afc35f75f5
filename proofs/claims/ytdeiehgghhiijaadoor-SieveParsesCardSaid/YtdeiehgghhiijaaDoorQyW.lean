/- The walks of package skip: what a query is. -/
import Derived.Test.YtdeiehgghhiijaaDoorMem
namespace Go.Proofs.YtdeiehgghhiijaaDoor
set_option linter.unusedVariables false
set_option linter.unusedSimpArgs false
set_option linter.unnecessarySimpa false
open Go.RowKit
namespace SkpW

/-- A query: its numbers, its times, what is looked for, its limit, its floor. -/
structure Qy where
  s1 : Int
  s2 : Int
  t1 : Int
  t2 : Int
  find : List UInt8
  limit : Int
  frm : Int
abbrev qv (q : Qy) : Value := .agg #[.int .i64 q.s1, .int .i64 q.s2, .int .i64 q.t1, .int .i64 q.t2, str q.find, .int .i64 q.limit, .int .i64 q.frm]
abbrev qc (q : Qy) : Array Value := #[.int .i64 q.s1, .int .i64 q.s2, .int .i64 q.t1, .int .i64 q.t2, str q.find, .int .i64 q.limit, .int .i64 q.frm]
def chkQ (q : Qy) : Int := if q.limit < 1 ∨ 1000 < q.limit ∨ 200 < q.find.length ∨ q.frm < 0 ∨ 1000000001 < q.frm then 320 else 0
theorem chk_cases (q : Qy) : (chkQ q = 320 ∧ (q.limit < 1 ∨ (¬ q.limit < 1 ∧ 1000 < q.limit) ∨ (¬ q.limit < 1 ∧ ¬ 1000 < q.limit ∧ (200 : Int) < q.find.length) ∨ (¬ q.limit < 1 ∧ ¬ 1000 < q.limit ∧ ¬ (200 : Int) < q.find.length ∧ q.frm < 0) ∨
    (¬ q.limit < 1 ∧ ¬ 1000 < q.limit ∧ ¬ (200 : Int) < q.find.length ∧ ¬ q.frm < 0 ∧ 1000000001 < q.frm))) ∨ (chkQ q = 0 ∧ ¬ q.limit < 1 ∧ ¬ 1000 < q.limit ∧ ¬ (200 : Int) < q.find.length ∧ ¬ q.frm < 0 ∧ ¬ 1000000001 < q.frm) := by
  unfold chkQ
  split
  · exact .inl ⟨rfl, by omega⟩
  · exact .inr ⟨rfl, by omega⟩
theorem blk7 {w : World} {g : Nat} {t : TypeId} {a0 a1 a2 a3 a4 a5 a6 : Value} (h : Blk w g t #[a0, a1, a2, a3, a4, a5, a6]) :
    w.cell? ⟨g, 0, none⟩ = some a0 ∧ w.cell? ⟨g, 1, none⟩ = some a1 ∧ w.cell? ⟨g, 2, none⟩ = some a2 ∧ w.cell? ⟨g, 3, none⟩ = some a3 ∧ w.cell? ⟨g, 4, none⟩ = some a4 ∧ w.cell? ⟨g, 5, none⟩ = some a5 ∧ w.cell? ⟨g, 6, none⟩ = some a6 :=
  ⟨h.cell_ 0 rfl, h.cell_ 1 rfl, h.cell_ 2 rfl, h.cell_ 3 rfl, h.cell_ 4 rfl, h.cell_ 5 rfl, h.cell_ 6 rfl⟩

end SkpW
end Go.Proofs.YtdeiehgghhiijaaDoor
