/- Walks over package span and its reference: two ranges that meet, lie within one another, are cut. -/
import Derived.Test.YtdeiehgghhiijaaDoorSpanC
namespace Go.Proofs.YtdeiehgghhiijaaDoor
set_option linter.unusedVariables false
open Go.RowKit
namespace SpanW

theorem rd_two {w : World} {g : Nat} {p q : R} (h : Blk w g 72 #[.int .i64 p.1, .int .i64 p.2, .int .i64 q.1, .int .i64 q.2]) : Rd w (g + 1) 2 (some ⟨g, 0, none⟩) 2 (cells [p, q]) := Rd.of_blk (cs := cells [p, q]) h rfl

def meetsB (p q : R) : Bool := let c := foldR narrow [p, q]; !emptyB c.1 c.2
def withinB (p q : R) : Bool := emptyB p.1 p.2 || decide (q.1 ≤ p.1) && decide (p.2 ≤ q.2)
def trimR (p : R) (f : Int) : R := foldR narrow [p, (f, 9223372036854775807)]

set_option maxHeartbeats 400000 in
theorem meets_any (p q : R) (w : World) :
    Calls Tryd.prog 39 #[rv p, rv q] w fun e w' => e = .returned (.bool (meetsB p q)) ∧ Below w.heap.size w w' := by
  go_enter Tryd.func39, Tryd.ntmps39
  go_wp2_with fail
  refine (both_any _ 2 2 [p, q] _ ?_ (Nat.le_refl _) (by omega)).mono ?_
  · exact (rd_two (by simpa using Blk.new (World.alloc (World.alloc w _) _) _ _)).more (by simp)
  rintro e w1 ⟨rfl, hb1⟩
  have HB : Below w.heap.size w w1 := (Below.trans (by first | exact Below.refl _ _ | (repeat (first | exact Below.refl _ _ | assumption | refine Below.drew ?_ | refine Below.drewN_ ?_ _ | refine Below.alloc ?_ (by first | exact Nat.le_refl _ | (simp; done) | (simp; omega) | omega) _ | refine Below.setCell ?_ (by first | exact Nat.le_refl _ | (simp; done) | (simp; omega) | omega) _ | (refine Below.trans ?_ (Below.mono (by assumption) (by first | exact Nat.le_refl _ | (simp; done) | (simp; omega) | omega)))))) (Below.mono hb1 (by first | exact Nat.le_refl _ | (simp only [World.size_alloc, World.size_setCell, World.size_drew]; omega) | (simp; done) | (simp; omega) | omega)))
  go_wp2_with fail
  refine (empty_any _ _ _).mono ?_
  rintro e w2 ⟨rfl, hb2⟩
  have HB2 : Below w.heap.size w w2 := HB.trans (hb2.mono HB.size)
  go_wp2
  go_ret
  exact ⟨rfl, HB2⟩

theorem within_any (p q : R) (w : World) :
    Calls Tryd.prog 40 #[rv p, rv q] w fun e w' => e = .returned (.bool (withinB p q)) ∧ Below w.heap.size w w' := by
  unfold withinB
  cases hp : emptyB p.1 p.2
  all_goals
    go_enter Tryd.func40, Tryd.ntmps40
    go_wp2_with fail
    refine (empty_any _ _ _).mono ?_
    rintro e w1 ⟨rfl, hb1⟩
    have HB : Below w.heap.size w w1 := (Below.trans (by first | exact Below.refl _ _ | (repeat (first | exact Below.refl _ _ | assumption | refine Below.drew ?_ | refine Below.drewN_ ?_ _ | refine Below.alloc ?_ (by first | exact Nat.le_refl _ | (simp; done) | (simp; omega) | omega) _ | refine Below.setCell ?_ (by first | exact Nat.le_refl _ | (simp; done) | (simp; omega) | omega) _ | (refine Below.trans ?_ (Below.mono (by assumption) (by first | exact Nat.le_refl _ | (simp; done) | (simp; omega) | omega)))))) (Below.mono hb1 (by first | exact Nat.le_refl _ | (simp only [World.size_alloc, World.size_setCell, World.size_drew]; omega) | (simp; done) | (simp; omega) | omega)))
    have g1 : Blk w1 w.heap.size 72 #[.int .i64 p.1, .int .i64 p.2] := Blk.below (blk_eq (by repeat (first | with_reducible assumption | with_reducible exact Blk.new _ _ _ | with_reducible apply Blk.drewN | with_reducible apply Blk.drew | with_reducible apply Blk.alloc | with_reducible apply Blk.set | (with_reducible apply Blk.far; rotate_left; focus (first | (simp; done) | (simp; omega) | omega)))) rfl) hb1 (by first | exact Nat.le_refl _ | (simp only [World.size_alloc, World.size_setCell, World.size_drew]; omega) | (simp; done) | (simp; omega) | omega)
    have g2 : Blk w1 (w.heap.size + 1) 72 #[.int .i64 q.1, .int .i64 q.2] := by
      refine Blk.below ?_ hb1 (by first | exact Nat.le_refl _ | (simp only [World.size_alloc, World.size_setCell, World.size_drew]; omega) | (simp; done) | (simp; omega) | omega)
      simpa using Blk.new (World.alloc w _) _ _
    obtain ⟨c0, c1, f0, f1, z0⟩ := blk2 g1
    obtain ⟨d0, d1, k0, k1, z1⟩ := blk2 g2
    go_wp2
    all_goals
      go_ret
      exact ⟨ret_bool (by simp [*]; try omega), (by first | exact Below.refl _ _ | (repeat (first | exact Below.refl _ _ | assumption | refine Below.drew ?_ | refine Below.drewN_ ?_ _ | refine Below.alloc ?_ (by first | exact Nat.le_refl _ | (simp; done) | (simp; omega) | omega) _ | refine Below.setCell ?_ (by first | exact Nat.le_refl _ | (simp; done) | (simp; omega) | omega) _ | (refine Below.trans ?_ (Below.mono (by assumption) (by first | exact Nat.le_refl _ | (simp; done) | (simp; omega) | omega))))))⟩

end SpanW
end Go.Proofs.YtdeiehgghhiijaaDoor
