/- The awake probe and the laws of package span: their walks. -/
import Derived.Test.YtehlgpfkpagaeaaSpanP
import Derived.Test.YtehlgpfkpagaeaaOpen
namespace Go.Proofs.Ytehlgpfkpagaeaa
set_option linter.unusedVariables false
open Go.RowKit
namespace SpanW

set_option maxHeartbeats 400000 in
theorem awake_any (w : World) :
    Calls Try.prog 22 #[] w fun e w' => e = .returned (.bool true) ∧ Below w.heap.size w w' := by
  have r1 : hasB 1 5 5 = true := by decide
  have r2 : hasB 1 5 6 = false := by decide
  have r3 : emptyB 1 0 = true := by decide
  have r4 : sizeR (1, 5) = 5 := by decide
  have r5 : foldR narrow [(1, 5), (4, 9)] = (4, 5) := by decide
  have r6 : foldR widen (full [(1, 5), (4, 9)]) = (1, 9) := by decide
  have r7 : meetsB (1, 5) (4, 9) = true := by decide
  have r8 : withinB (1, 5) (4, 9) = false := by decide
  have r9 : trimR (4, 9) 6 = (6, 9) := by decide
  have r10 : foldR narrow [] = (1, 0) := by decide
  have g1 : Blk ((w.alloc (.cells #[.int .i64 1, .int .i64 5] 23)).alloc (.cells #[.int .i64 4, .int .i64 9] 23)) w.heap.size 23 #[.int .i64 1, .int .i64 5] := (Blk.new _ _ _).alloc _
  have g2 : Blk ((w.alloc (.cells #[.int .i64 1, .int .i64 5] 23)).alloc (.cells #[.int .i64 4, .int .i64 9] 23)) (w.heap.size + 1) 23 #[.int .i64 4, .int .i64 9] := by simpa using Blk.new (World.alloc w _) _ _
  go_enter Try.func22, Try.ntmps22
  go_wp2_with (first
    | (go_at_call 14; refine (has_any _ _ _ _).mono ?_; rintro e w1 ⟨rfl, hb1⟩; have HB : Below w.heap.size w w1 := (by refine Below.trans ?_ (Below.mono hb1 ?_); rotate_left; (first | (simp; done) | (simp; omega) | omega); exact (by first | exact Below.refl _ _ | (repeat (first | exact Below.refl _ _ | assumption | refine Below.drew ?_ | refine Below.drewN_ ?_ _ | refine Below.alloc ?_ (by first | exact Nat.le_refl _ | (simp; done) | (simp; omega) | omega) _ | refine Below.setCell ?_ (by first | exact Nat.le_refl _ | (simp; done) | (simp; omega) | omega) _ | (refine Below.trans ?_ (Below.mono (by assumption) (by first | exact Nat.le_refl _ | (simp; done) | (simp; omega) | omega))))))); have g1 : Blk w1 w.heap.size 23 #[.int .i64 1, .int .i64 5] := Blk.below (by repeat (first | with_reducible assumption | exact Blk.new _ _ _ | (simpa using Blk.new _ _ _) | with_reducible apply Blk.drewN | with_reducible apply Blk.drew | with_reducible apply Blk.alloc)) hb1 (by first | exact Nat.le_refl _ | (simp; done) | (simp; omega) | omega); have g2 : Blk w1 (w.heap.size + 1) 23 #[.int .i64 4, .int .i64 9] := Blk.below (by repeat (first | with_reducible assumption | exact Blk.new _ _ _ | (simpa using Blk.new _ _ _) | with_reducible apply Blk.drewN | with_reducible apply Blk.drew | with_reducible apply Blk.alloc)) hb1 (by first | exact Nat.le_refl _ | (simp; done) | (simp; omega) | omega); obtain ⟨c0, c1, f0, f1, z0⟩ := blk2 g1; obtain ⟨d0, d1, k0, k1, z1⟩ := blk2 g2; clear hb1)
    | (go_at_call 16; refine (empty_any _ _ _).mono ?_; rintro e w1 ⟨rfl, hb1⟩; have HB : Below w.heap.size w w1 := (by refine Below.trans ?_ (Below.mono hb1 ?_); rotate_left; (first | (simp; done) | (simp; omega) | omega); exact (by first | exact Below.refl _ _ | (repeat (first | exact Below.refl _ _ | assumption | refine Below.drew ?_ | refine Below.drewN_ ?_ _ | refine Below.alloc ?_ (by first | exact Nat.le_refl _ | (simp; done) | (simp; omega) | omega) _ | refine Below.setCell ?_ (by first | exact Nat.le_refl _ | (simp; done) | (simp; omega) | omega) _ | (refine Below.trans ?_ (Below.mono (by assumption) (by first | exact Nat.le_refl _ | (simp; done) | (simp; omega) | omega))))))); have g1 : Blk w1 w.heap.size 23 #[.int .i64 1, .int .i64 5] := Blk.below (by repeat (first | with_reducible assumption | exact Blk.new _ _ _ | (simpa using Blk.new _ _ _) | with_reducible apply Blk.drewN | with_reducible apply Blk.drew | with_reducible apply Blk.alloc)) hb1 (by first | exact Nat.le_refl _ | (simp; done) | (simp; omega) | omega); have g2 : Blk w1 (w.heap.size + 1) 23 #[.int .i64 4, .int .i64 9] := Blk.below (by repeat (first | with_reducible assumption | exact Blk.new _ _ _ | (simpa using Blk.new _ _ _) | with_reducible apply Blk.drewN | with_reducible apply Blk.drew | with_reducible apply Blk.alloc)) hb1 (by first | exact Nat.le_refl _ | (simp; done) | (simp; omega) | omega); obtain ⟨c0, c1, f0, f1, z0⟩ := blk2 g1; obtain ⟨d0, d1, k0, k1, z1⟩ := blk2 g2; clear hb1)
    | (go_at_call 18; (with_reducible refine (size_any (1, 5) _ (by simp [I64]) (by simp [I64])).mono ?_); rintro e w1 ⟨rfl, hb1⟩; have HB : Below w.heap.size w w1 := (by refine Below.trans ?_ (Below.mono hb1 ?_); rotate_left; (first | (simp; done) | (simp; omega) | omega); exact (by first | exact Below.refl _ _ | (repeat (first | exact Below.refl _ _ | assumption | refine Below.drew ?_ | refine Below.drewN_ ?_ _ | refine Below.alloc ?_ (by first | exact Nat.le_refl _ | (simp; done) | (simp; omega) | omega) _ | refine Below.setCell ?_ (by first | exact Nat.le_refl _ | (simp; done) | (simp; omega) | omega) _ | (refine Below.trans ?_ (Below.mono (by assumption) (by first | exact Nat.le_refl _ | (simp; done) | (simp; omega) | omega))))))); have g1 : Blk w1 w.heap.size 23 #[.int .i64 1, .int .i64 5] := Blk.below (by repeat (first | with_reducible assumption | exact Blk.new _ _ _ | (simpa using Blk.new _ _ _) | with_reducible apply Blk.drewN | with_reducible apply Blk.drew | with_reducible apply Blk.alloc)) hb1 (by first | exact Nat.le_refl _ | (simp; done) | (simp; omega) | omega); have g2 : Blk w1 (w.heap.size + 1) 23 #[.int .i64 4, .int .i64 9] := Blk.below (by repeat (first | with_reducible assumption | exact Blk.new _ _ _ | (simpa using Blk.new _ _ _) | with_reducible apply Blk.drewN | with_reducible apply Blk.drew | with_reducible apply Blk.alloc)) hb1 (by first | exact Nat.le_refl _ | (simp; done) | (simp; omega) | omega); obtain ⟨c0, c1, f0, f1, z0⟩ := blk2 g1; obtain ⟨d0, d1, k0, k1, z1⟩ := blk2 g2; clear hb1))
  refine (both_any _ 2 2 [(1, 5), (4, 9)] _ ?hr (Nat.le_refl _) (by omega)).mono ?_
  case hr => exact (rd_two (by repeat (first | with_reducible assumption | exact Blk.new _ _ _ | (simpa using Blk.new _ _ _) | with_reducible apply Blk.drewN | with_reducible apply Blk.drew | with_reducible apply Blk.alloc))).more (by first | exact Nat.le_refl _ | (simp; done) | (simp; omega) | omega)
  rintro e w1 ⟨rfl, hb1⟩; have HB : Below w.heap.size w w1 := (by refine Below.trans ?_ (Below.mono hb1 ?_); rotate_left; (first | (simp; done) | (simp; omega) | omega); exact (by first | exact Below.refl _ _ | (repeat (first | exact Below.refl _ _ | assumption | refine Below.drew ?_ | refine Below.drewN_ ?_ _ | refine Below.alloc ?_ (by first | exact Nat.le_refl _ | (simp; done) | (simp; omega) | omega) _ | refine Below.setCell ?_ (by first | exact Nat.le_refl _ | (simp; done) | (simp; omega) | omega) _ | (refine Below.trans ?_ (Below.mono (by assumption) (by first | exact Nat.le_refl _ | (simp; done) | (simp; omega) | omega))))))); have g1 : Blk w1 w.heap.size 23 #[.int .i64 1, .int .i64 5] := Blk.below (by repeat (first | with_reducible assumption | exact Blk.new _ _ _ | (simpa using Blk.new _ _ _) | with_reducible apply Blk.drewN | with_reducible apply Blk.drew | with_reducible apply Blk.alloc)) hb1 (by first | exact Nat.le_refl _ | (simp; done) | (simp; omega) | omega); have g2 : Blk w1 (w.heap.size + 1) 23 #[.int .i64 4, .int .i64 9] := Blk.below (by repeat (first | with_reducible assumption | exact Blk.new _ _ _ | (simpa using Blk.new _ _ _) | with_reducible apply Blk.drewN | with_reducible apply Blk.drew | with_reducible apply Blk.alloc)) hb1 (by first | exact Nat.le_refl _ | (simp; done) | (simp; omega) | omega); obtain ⟨c0, c1, f0, f1, z0⟩ := blk2 g1; obtain ⟨d0, d1, k0, k1, z1⟩ := blk2 g2; clear hb1
  go_wp2_with fail
  refine (cover_any _ 2 2 [(1, 5), (4, 9)] _ ?hr (Nat.le_refl _) (by omega) (by omega)).mono ?_
  case hr => exact (rd_two (by repeat (first | with_reducible assumption | exact Blk.new _ _ _ | (simpa using Blk.new _ _ _) | with_reducible apply Blk.drewN | with_reducible apply Blk.drew | with_reducible apply Blk.alloc))).more (by first | exact Nat.le_refl _ | (simp; done) | (simp; omega) | omega)
  rintro e w1 ⟨rfl, hb1⟩; have HB : Below w.heap.size w w1 := (by refine Below.trans ?_ (Below.mono hb1 ?_); rotate_left; (first | (simp; done) | (simp; omega) | omega); exact (by first | exact Below.refl _ _ | (repeat (first | exact Below.refl _ _ | assumption | refine Below.drew ?_ | refine Below.drewN_ ?_ _ | refine Below.alloc ?_ (by first | exact Nat.le_refl _ | (simp; done) | (simp; omega) | omega) _ | refine Below.setCell ?_ (by first | exact Nat.le_refl _ | (simp; done) | (simp; omega) | omega) _ | (refine Below.trans ?_ (Below.mono (by assumption) (by first | exact Nat.le_refl _ | (simp; done) | (simp; omega) | omega))))))); have g1 : Blk w1 w.heap.size 23 #[.int .i64 1, .int .i64 5] := Blk.below (by repeat (first | with_reducible assumption | exact Blk.new _ _ _ | (simpa using Blk.new _ _ _) | with_reducible apply Blk.drewN | with_reducible apply Blk.drew | with_reducible apply Blk.alloc)) hb1 (by first | exact Nat.le_refl _ | (simp; done) | (simp; omega) | omega); have g2 : Blk w1 (w.heap.size + 1) 23 #[.int .i64 4, .int .i64 9] := Blk.below (by repeat (first | with_reducible assumption | exact Blk.new _ _ _ | (simpa using Blk.new _ _ _) | with_reducible apply Blk.drewN | with_reducible apply Blk.drew | with_reducible apply Blk.alloc)) hb1 (by first | exact Nat.le_refl _ | (simp; done) | (simp; omega) | omega); obtain ⟨c0, c1, f0, f1, z0⟩ := blk2 g1; obtain ⟨d0, d1, k0, k1, z1⟩ := blk2 g2; clear hb1
  go_wp2_with fail
  refine (meets_any (1, 5) (4, 9) _).mono ?_
  rintro e w1 ⟨rfl, hb1⟩; have HB : Below w.heap.size w w1 := (by refine Below.trans ?_ (Below.mono hb1 ?_); rotate_left; (first | (simp; done) | (simp; omega) | omega); exact (by first | exact Below.refl _ _ | (repeat (first | exact Below.refl _ _ | assumption | refine Below.drew ?_ | refine Below.drewN_ ?_ _ | refine Below.alloc ?_ (by first | exact Nat.le_refl _ | (simp; done) | (simp; omega) | omega) _ | refine Below.setCell ?_ (by first | exact Nat.le_refl _ | (simp; done) | (simp; omega) | omega) _ | (refine Below.trans ?_ (Below.mono (by assumption) (by first | exact Nat.le_refl _ | (simp; done) | (simp; omega) | omega))))))); have g1 : Blk w1 w.heap.size 23 #[.int .i64 1, .int .i64 5] := Blk.below (by repeat (first | with_reducible assumption | exact Blk.new _ _ _ | (simpa using Blk.new _ _ _) | with_reducible apply Blk.drewN | with_reducible apply Blk.drew | with_reducible apply Blk.alloc)) hb1 (by first | exact Nat.le_refl _ | (simp; done) | (simp; omega) | omega); have g2 : Blk w1 (w.heap.size + 1) 23 #[.int .i64 4, .int .i64 9] := Blk.below (by repeat (first | with_reducible assumption | exact Blk.new _ _ _ | (simpa using Blk.new _ _ _) | with_reducible apply Blk.drewN | with_reducible apply Blk.drew | with_reducible apply Blk.alloc)) hb1 (by first | exact Nat.le_refl _ | (simp; done) | (simp; omega) | omega); obtain ⟨c0, c1, f0, f1, z0⟩ := blk2 g1; obtain ⟨d0, d1, k0, k1, z1⟩ := blk2 g2; clear hb1
  go_wp2_with fail
  refine (within_any (1, 5) (4, 9) _).mono ?_
  rintro e w1 ⟨rfl, hb1⟩; have HB : Below w.heap.size w w1 := (by refine Below.trans ?_ (Below.mono hb1 ?_); rotate_left; (first | (simp; done) | (simp; omega) | omega); exact (by first | exact Below.refl _ _ | (repeat (first | exact Below.refl _ _ | assumption | refine Below.drew ?_ | refine Below.drewN_ ?_ _ | refine Below.alloc ?_ (by first | exact Nat.le_refl _ | (simp; done) | (simp; omega) | omega) _ | refine Below.setCell ?_ (by first | exact Nat.le_refl _ | (simp; done) | (simp; omega) | omega) _ | (refine Below.trans ?_ (Below.mono (by assumption) (by first | exact Nat.le_refl _ | (simp; done) | (simp; omega) | omega))))))); have g1 : Blk w1 w.heap.size 23 #[.int .i64 1, .int .i64 5] := Blk.below (by repeat (first | with_reducible assumption | exact Blk.new _ _ _ | (simpa using Blk.new _ _ _) | with_reducible apply Blk.drewN | with_reducible apply Blk.drew | with_reducible apply Blk.alloc)) hb1 (by first | exact Nat.le_refl _ | (simp; done) | (simp; omega) | omega); have g2 : Blk w1 (w.heap.size + 1) 23 #[.int .i64 4, .int .i64 9] := Blk.below (by repeat (first | with_reducible assumption | exact Blk.new _ _ _ | (simpa using Blk.new _ _ _) | with_reducible apply Blk.drewN | with_reducible apply Blk.drew | with_reducible apply Blk.alloc)) hb1 (by first | exact Nat.le_refl _ | (simp; done) | (simp; omega) | omega); obtain ⟨c0, c1, f0, f1, z0⟩ := blk2 g1; obtain ⟨d0, d1, k0, k1, z1⟩ := blk2 g2; clear hb1
  go_wp2_with fail
  refine (trim_any (4, 9) 6 _).mono ?_
  rintro e w1 ⟨rfl, hb1⟩; have HB : Below w.heap.size w w1 := (by refine Below.trans ?_ (Below.mono hb1 ?_); rotate_left; (first | (simp; done) | (simp; omega) | omega); exact (by first | exact Below.refl _ _ | (repeat (first | exact Below.refl _ _ | assumption | refine Below.drew ?_ | refine Below.drewN_ ?_ _ | refine Below.alloc ?_ (by first | exact Nat.le_refl _ | (simp; done) | (simp; omega) | omega) _ | refine Below.setCell ?_ (by first | exact Nat.le_refl _ | (simp; done) | (simp; omega) | omega) _ | (refine Below.trans ?_ (Below.mono (by assumption) (by first | exact Nat.le_refl _ | (simp; done) | (simp; omega) | omega))))))); have g1 : Blk w1 w.heap.size 23 #[.int .i64 1, .int .i64 5] := Blk.below (by repeat (first | with_reducible assumption | exact Blk.new _ _ _ | (simpa using Blk.new _ _ _) | with_reducible apply Blk.drewN | with_reducible apply Blk.drew | with_reducible apply Blk.alloc)) hb1 (by first | exact Nat.le_refl _ | (simp; done) | (simp; omega) | omega); have g2 : Blk w1 (w.heap.size + 1) 23 #[.int .i64 4, .int .i64 9] := Blk.below (by repeat (first | with_reducible assumption | exact Blk.new _ _ _ | (simpa using Blk.new _ _ _) | with_reducible apply Blk.drewN | with_reducible apply Blk.drew | with_reducible apply Blk.alloc)) hb1 (by first | exact Nat.le_refl _ | (simp; done) | (simp; omega) | omega); obtain ⟨c0, c1, f0, f1, z0⟩ := blk2 g1; obtain ⟨d0, d1, k0, k1, z1⟩ := blk2 g2; clear hb1
  go_wp2_with fail
  refine (both_any none 0 0 [] _ (Rd.nil _ _ _ _) (Nat.le_refl _) (by omega)).mono ?_
  rintro e w1 ⟨rfl, hb1⟩; have HB : Below w.heap.size w w1 := (by refine Below.trans ?_ (Below.mono hb1 ?_); rotate_left; (first | (simp; done) | (simp; omega) | omega); exact (by first | exact Below.refl _ _ | (repeat (first | exact Below.refl _ _ | assumption | refine Below.drew ?_ | refine Below.drewN_ ?_ _ | refine Below.alloc ?_ (by first | exact Nat.le_refl _ | (simp; done) | (simp; omega) | omega) _ | refine Below.setCell ?_ (by first | exact Nat.le_refl _ | (simp; done) | (simp; omega) | omega) _ | (refine Below.trans ?_ (Below.mono (by assumption) (by first | exact Nat.le_refl _ | (simp; done) | (simp; omega) | omega))))))); have g1 : Blk w1 w.heap.size 23 #[.int .i64 1, .int .i64 5] := Blk.below (by repeat (first | with_reducible assumption | exact Blk.new _ _ _ | (simpa using Blk.new _ _ _) | with_reducible apply Blk.drewN | with_reducible apply Blk.drew | with_reducible apply Blk.alloc)) hb1 (by first | exact Nat.le_refl _ | (simp; done) | (simp; omega) | omega); have g2 : Blk w1 (w.heap.size + 1) 23 #[.int .i64 4, .int .i64 9] := Blk.below (by repeat (first | with_reducible assumption | exact Blk.new _ _ _ | (simpa using Blk.new _ _ _) | with_reducible apply Blk.drewN | with_reducible apply Blk.drew | with_reducible apply Blk.alloc)) hb1 (by first | exact Nat.le_refl _ | (simp; done) | (simp; omega) | omega); obtain ⟨c0, c1, f0, f1, z0⟩ := blk2 g1; obtain ⟨d0, d1, k0, k1, z1⟩ := blk2 g2; clear hb1
  go_wp2_with fail
  go_ret
  exact ⟨rfl, (by first | exact Below.refl _ _ | (repeat (first | exact Below.refl _ _ | assumption | refine Below.drew ?_ | refine Below.drewN_ ?_ _ | refine Below.alloc ?_ (by first | exact Nat.le_refl _ | (simp; done) | (simp; omega) | omega) _ | refine Below.setCell ?_ (by first | exact Nat.le_refl _ | (simp; done) | (simp; omega) | omega) _ | (refine Below.trans ?_ (Below.mono (by assumption) (by first | exact Nat.le_refl _ | (simp; done) | (simp; omega) | omega))))))⟩

set_option maxHeartbeats 2000000 in
theorem one_law (p : R) (n : Int) (w : World) (h1 : I64 p.1) (h2 : I64 p.2) (h3 : I64 n) :
    Calls Try.prog 3 #[rv p, .int .i64 n] w fun e w' => e = .returned (.bool true) ∧ Below w.heap.size w w' := by
  have ht : trimR p n = norm (max p.1 n, p.2) := by
    obtain ⟨a, b⟩ := h2
    have hm : min p.2 9223372036854775807 = p.2 := by omega
    simp [trimR, foldR, narrow, hm]
  obtain ⟨W0, hW0⟩ : ∃ W0, W0 = w.alloc (.cells #[.int .i64 p.1, .int .i64 p.2] 23) := ⟨_, rfl⟩
  have g1 : Blk W0 w.heap.size 23 #[.int .i64 p.1, .int .i64 p.2] := hW0 ▸ Blk.new _ _ _
  have hB0 : Below w.heap.size w W0 := hW0 ▸ (by first | exact Below.refl _ _ | (repeat (first | exact Below.refl _ _ | assumption | refine Below.drew ?_ | refine Below.drewN_ ?_ _ | refine Below.alloc ?_ (by first | exact Nat.le_refl _ | (simp; done) | (simp; omega) | omega) _ | refine Below.setCell ?_ (by first | exact Nat.le_refl _ | (simp; done) | (simp; omega) | omega) _ | (refine Below.trans ?_ (Below.mono (by assumption) (by first | exact Nat.le_refl _ | (simp; done) | (simp; omega) | omega))))))
  have hz0 : W0.heap.size = w.heap.size + 1 := by rw [hW0]; simp
  obtain ⟨c0, c1, f0, f1, z0⟩ := blk2 g1
  have HW := Lib.hid hW0
  have HZ := Lib.hid hz0
  clear hz0 hW0 g1
  go_enter Try.func3, Try.ntmps3
  go_wp2_with fail
  rw [← HW.out]
  go_region_held3 (fun w' => (∀ b o, b < w.heap.size + 1 → w'.cell? ⟨b, o, none⟩ = W0.cell? ⟨b, o, none⟩) ∧ w.heap.size + 1 ≤ w'.heap.size ∧ Below w.heap.size w w') (first | assumption | exact keep_next (by assumption) (by assumption) (by first | exact Nat.le_refl _ | (simp; done) | (simp; omega) | omega) | exact keep_alloc (by assumption) (by first | exact Nat.le_refl _ | (simp; done) | (simp; omega) | omega) | exact keep_start (by assumption) (by first | assumption | omega) | exact keep_drew (by assumption))
    (first
    | (go_at_call 14; refine (has_any _ _ _ _).mono ?_; rintro e w1 ⟨rfl, hb1⟩)
    | (go_at_call 15; refine (refHas_any _ _ _ _).mono ?_; rintro e w1 ⟨rfl, hb1⟩)
    | (go_at_call 16; refine (empty_any _ _ _).mono ?_; rintro e w1 ⟨rfl, hb1⟩)
    | (go_at_call 17; refine (refEmpty_any _ _ _).mono ?_; rintro e w1 ⟨rfl, hb1⟩)
    | (go_at_call 18; refine (size_any p _ h1 h2).mono ?_; rintro e w1 ⟨rfl, hb1⟩)
    | (go_at_call 19; refine (refSize_any p _ h1 h2).mono ?_; rintro e w1 ⟨rfl, hb1⟩)
    | (go_at_call 20; refine (trim_any p n _).mono ?_; rintro e w1 ⟨rfl, hb1⟩)
    | (go_at_call 21; refine (refTrim_any p n _).mono ?_; rintro e w1 ⟨rfl, hb1⟩)
    | (go_at_call 22; refine (awake_any _).mono ?_; rintro e w1 ⟨rfl, hb1⟩))
  go_wp2
  go_ret
  exact ⟨rfl, by obtain ⟨_, _, h⟩ := ‹(∀ b o, _ → _) ∧ _ ∧ _›; exact h⟩


set_option maxHeartbeats 4000000 in
theorem folds_law (A : Option Addr) (n c : Nat) (l : List R) (p q : R) (w : World) (h : Rd w w.heap.size 2 A n (cells l)) (hnc : n ≤ c) (hcm : c ≤ maxLen) :
    Calls Try.prog 4 #[.slice A n c, rv p, rv q] w fun e w' => e = .returned (.bool true) ∧ Below w.heap.size w w' := by
  unfold maxLen at hcm
  by_cases hbig : (1000 : Int) < (n : Int)
  · go_enter Try.func4, Try.ntmps4
    go_wp2_with fail
    refine (awake_any _).mono ?_
    rintro e w1 ⟨rfl, hb1⟩
    have HB : Below w.heap.size w w1 := (by refine Below.trans ?_ (Below.mono hb1 ?_); rotate_left; (first | (simp; done) | (simp; omega) | omega); exact (by first | exact Below.refl _ _ | (repeat (first | exact Below.refl _ _ | assumption | refine Below.drew ?_ | refine Below.drewN_ ?_ _ | refine Below.alloc ?_ (by first | exact Nat.le_refl _ | (simp; done) | (simp; omega) | omega) _ | refine Below.setCell ?_ (by first | exact Nat.le_refl _ | (simp; done) | (simp; omega) | omega) _ | (refine Below.trans ?_ (Below.mono (by assumption) (by first | exact Nat.le_refl _ | (simp; done) | (simp; omega) | omega)))))))
    go_wp2
    go_ret
    exact ⟨rfl, HB⟩
  · have hce := cover_eq l
    have hme := meets_eq p q
    have hwe := within_eq p q
    obtain ⟨W0, hW0⟩ : ∃ W0, W0 = (w.alloc (.cells #[.int .i64 p.1, .int .i64 p.2] 23)).alloc (.cells #[.int .i64 q.1, .int .i64 q.2] 23) := ⟨_, rfl⟩
    have g1 : Blk W0 w.heap.size 23 #[.int .i64 p.1, .int .i64 p.2] := hW0 ▸ (Blk.new _ _ _).alloc _
    have g2 : Blk W0 (w.heap.size + 1) 23 #[.int .i64 q.1, .int .i64 q.2] := hW0 ▸ (by simpa using Blk.new (World.alloc w _) _ _)
    have hB0 : Below w.heap.size w W0 := hW0 ▸ (by first | exact Below.refl _ _ | (repeat (first | exact Below.refl _ _ | assumption | refine Below.drew ?_ | refine Below.drewN_ ?_ _ | refine Below.alloc ?_ (by first | exact Nat.le_refl _ | (simp; done) | (simp; omega) | omega) _ | refine Below.setCell ?_ (by first | exact Nat.le_refl _ | (simp; done) | (simp; omega) | omega) _ | (refine Below.trans ?_ (Below.mono (by assumption) (by first | exact Nat.le_refl _ | (simp; done) | (simp; omega) | omega))))))
    obtain ⟨c0, c1, f0, f1, z0⟩ := blk2 g1
    obtain ⟨d0, d1, k0, k1, z1⟩ := blk2 g2
    have hrd : ∀ w', Below w.heap.size w w' → w.heap.size + 2 ≤ w'.heap.size → Rd w' w'.heap.size 2 A n (cells l) := fun w' hb hz => (h.below hb).more (by omega)
    have HR := Lib.hid hrd
    have HW := Lib.hid hW0
    clear hW0 g1 g2 hrd h
    go_enter Try.func4, Try.ntmps4
    go_wp2_with fail
    rw [← HW.out]
    go_region_held3 (fun w' => (∀ b o, b < w.heap.size + 2 → w'.cell? ⟨b, o, none⟩ = W0.cell? ⟨b, o, none⟩) ∧ w.heap.size + 2 ≤ w'.heap.size ∧ Below w.heap.size w w') (first | assumption | exact keep_next (by assumption) (by assumption) (by first | exact Nat.le_refl _ | (simp; done) | (simp; omega) | omega) | exact keep_alloc (by assumption) (by first | exact Nat.le_refl _ | (simp; done) | (simp; omega) | omega) | exact keep_start (by assumption) (by first | assumption | omega) | exact keep_drew (by assumption))
      (first
      | (go_at_call 23; refine (both_any A n c l _ (by exact HR.out _ (‹(∀ b o, _ → _) ∧ _ ∧ _›).2.2 (‹(∀ b o, _ → _) ∧ _ ∧ _›).2.1) hnc hcm).mono ?_; rintro e w1 ⟨rfl, hb1⟩)
      | (go_at_call 24; refine (refBoth_any A n c l _ (by exact HR.out _ (‹(∀ b o, _ → _) ∧ _ ∧ _›).2.2 (‹(∀ b o, _ → _) ∧ _ ∧ _›).2.1) hnc hcm).mono ?_; rintro e w1 ⟨rfl, hb1⟩)
      | (go_at_call 25; refine (cover_any A n c l _ (by exact HR.out _ (‹(∀ b o, _ → _) ∧ _ ∧ _›).2.2 (‹(∀ b o, _ → _) ∧ _ ∧ _›).2.1) hnc hcm (by omega)).mono ?_; rintro e w1 ⟨rfl, hb1⟩)
      | (go_at_call 26; refine (refCover_any A n c l _ (by exact HR.out _ (‹(∀ b o, _ → _) ∧ _ ∧ _›).2.2 (‹(∀ b o, _ → _) ∧ _ ∧ _›).2.1) hnc hcm).mono ?_; rintro e w1 ⟨rfl, hb1⟩)
      | (go_at_call 27; refine (meets_any p q _).mono ?_; rintro e w1 ⟨rfl, hb1⟩)
      | (go_at_call 28; refine (refMeets_any p q _).mono ?_; rintro e w1 ⟨rfl, hb1⟩)
      | (go_at_call 29; refine (within_any p q _).mono ?_; rintro e w1 ⟨rfl, hb1⟩)
      | (go_at_call 30; refine (refWithin_any p q _).mono ?_; rintro e w1 ⟨rfl, hb1⟩)
      | (go_at_call 22; refine (awake_any _).mono ?_; rintro e w1 ⟨rfl, hb1⟩))
    go_wp2
    go_ret
    exact ⟨rfl, (‹(∀ b o, _ → _) ∧ _ ∧ _›).2.2⟩

theorem open_ranges {H : Type} {enc : TypeId × Value → H} {w : World} {base : Nat} {spare : Nat → Bool} {held : Bool} {r : Reach} {b0 : Nat} {v : Value} {d : DataW H} {p : List MemPlace}
    (hv : Value.okWide Try.prog w r b0 29 v) (h : DataW.Trod enc Try.prog w base spare held 29 v d p) :
    ∃ (A : Option Addr) (n c : Nat) (l : List R), v = .slice A n c ∧ n ≤ c ∧ c ≤ maxLen ∧ (∀ x ∈ l, I64 x.1 ∧ I64 x.2) ∧ Rd w w.heap.size 2 A n (cells l) := by
  obtain ⟨A, n, c, l, hv', h1, h2, _, h4, _, h6⟩ := open_rows Try.underlying29 (by kernel_rfl) (by decide) (fun x : R => [.int .i64 x.1, .int .i64 x.2]) (fun x => I64 x.1 ∧ I64 x.2)
    (fun n cs y => trod_ii Try.underlying23 (by kernel_rfl) Try.underlying3 Try.underlying3 n cs y) hv h
  exact ⟨A, n, c, l, hv', h1, h2, h4, h6⟩
end SpanW
end Go.Proofs.Ytehlgpfkpagaeaa
