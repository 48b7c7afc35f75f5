/- Walks over package span and its reference: what ranges have in common, and what covers them. -/
import Derived.Test.YtdeiehgghhiijaaDoorSpanF
namespace Go.Proofs.YtdeiehgghhiijaaDoor
set_option linter.unusedVariables false
open Go.RowKit
namespace SpanW

theorem El_range : El Tryd.prog 123 72 2 16 := El.mk' Tryd.underlying123 (z := rng 0 0) (by kernel_rfl) rfl (by decide)

set_option maxHeartbeats 1000000 in
theorem both_any (A : Option Addr) (n c : Nat) (l : List R) (w : World) (h : Rd w w.heap.size 2 A n (cells l)) (hnc : n ≤ c) (hcm : c ≤ 9223372036854775807) :
    Calls Tryd.prog 50 #[.slice A n c] w fun e w' => e = .returned (rv (foldR narrow l)) ∧ Below w.heap.size w w' := by
  go_enter Tryd.func50, Tryd.ntmps50
  go_wp2_with fail
  refine (fold_narrow A n c l _ ((h.below (by first | exact Below.refl _ _ | (repeat (first | exact Below.refl _ _ | assumption | refine Below.drew ?_ | refine Below.drewN_ ?_ _ | refine Below.alloc ?_ (by first | exact Nat.le_refl _ | (simp; done) | (simp; omega) | omega) _ | refine Below.setCell ?_ (by first | exact Nat.le_refl _ | (simp; done) | (simp; omega) | omega) _ | (refine Below.trans ?_ (Below.mono (by assumption) (by first | exact Nat.le_refl _ | (simp; done) | (simp; omega) | omega))))))).more (by simp)) hnc hcm).mono ?_
  rintro e w1 ⟨rfl, hb⟩
  have g0 : Blk w1 w.heap.size 72 #[.int .i64 0, .int .i64 0] := (Blk.new w _ _).below hb (by simp)
  have d0 : w1.cell? ⟨w.heap.size, 0, none⟩ = some (.int .i64 0) := g0.cell_ 0 rfl
  have d1 : w1.cell? ⟨w.heap.size, 1, none⟩ = some (.int .i64 0) := g0.cell_ 1 rfl
  have f0 := g0.frozen 0
  have f1 := g0.frozen 1
  clear g0
  go_wp2
  refine bodyPost_ret (v := rv (foldR narrow l)) ?_ rfl ⟨rfl, (by first | exact Below.refl _ _ | (repeat (first | exact Below.refl _ _ | assumption | refine Below.drew ?_ | refine Below.drewN_ ?_ _ | refine Below.alloc ?_ (by first | exact Nat.le_refl _ | (simp; done) | (simp; omega) | omega) _ | refine Below.setCell ?_ (by first | exact Nat.le_refl _ | (simp; done) | (simp; omega) | omega) _ | (refine Below.trans ?_ (Below.mono (by assumption) (by first | exact Nat.le_refl _ | (simp; done) | (simp; omega) | omega))))))⟩
  simp [results, Tryd.results50, go_sem, d0, d1]

end SpanW
end Go.Proofs.YtdeiehgghhiijaaDoor
