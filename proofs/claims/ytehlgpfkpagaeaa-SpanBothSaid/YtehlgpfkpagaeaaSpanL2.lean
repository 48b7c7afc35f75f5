/- The walks of the laws SpanBoth and SpanCover. -/
import Derived.Test.YtehlgpfkpagaeaaSpanL
import Derived.Test.YtehlgpfkpagaeaaReg
namespace Go.Proofs.Ytehlgpfkpagaeaa
open Go.RowKit
namespace SpanW

set_option maxHeartbeats 4000000 in
theorem both_law (a b : R) (n : Int) (w : World) (ha : I64 a.1 ∧ I64 a.2) (hb : I64 b.1 ∧ I64 b.2) :
    Calls Try.prog 5 #[rv a, rv b, .int .i64 n] w fun e w' => e = .returned (.bool true) ∧ Below w.heap.size w w' := by
  have x1 := has_both a b n
  have x2 := empty_both a b
  have x3 := within_both1 a b
  have x4 := within_both2 a b
  have x5 := size_both a b
  have x6 := both_i64 a b ha.1 ha.2 hb.1 hb.2
  have x7 := both_comm a b
  generalize hc : foldR narrow [a, b] = c at *
  have HC := Lib.hid hc
  have HX7 := Lib.hid x7
  have HX6 := Lib.hid x6
  have y5 : decide (sizeR c ≤ sizeR a) = true := by simpa using x5
  clear hc x7 x6 x5
  go_enter Try.func5, Try.ntmps5
  go_wp2_with fail
  refine (both_any _ 2 2 [a, b] _ ?hr (Nat.le_refl _) (by omega)).mono ?_
  case hr => exact (rd_two (by simpa using Blk.new (World.alloc (World.alloc w _) _) _ _)).more (by first | exact Nat.le_refl _ | (simp; done) | (simp; omega) | omega)
  rintro e wA ⟨rfl, hbA⟩
  rw [HC.out]
  have HB : Below w.heap.size w wA := (by refine Below.trans ?_ (Below.mono hbA ?_); rotate_left; (first | (simp; done) | (simp; omega) | omega); exact (by first | exact Below.refl _ _ | (repeat (first | exact Below.refl _ _ | assumption | refine Below.drew ?_ | refine Below.drewN_ ?_ _ | refine Below.alloc ?_ (by first | exact Nat.le_refl _ | (simp; done) | (simp; omega) | omega) _ | refine Below.setCell ?_ (by first | exact Nat.le_refl _ | (simp; done) | (simp; omega) | omega) _ | (refine Below.trans ?_ (Below.mono (by assumption) (by first | exact Nat.le_refl _ | (simp; done) | (simp; omega) | omega)))))))
  have g1 : Blk wA w.heap.size 23 #[.int .i64 a.1, .int .i64 a.2] := by
    refine Blk.below ?_ hbA (by first | exact Nat.le_refl _ | (simp; done) | (simp; omega) | omega)
    exact ((Blk.new _ _ _).alloc _).alloc _
  have g2 : Blk wA (w.heap.size + 1) 23 #[.int .i64 b.1, .int .i64 b.2] := by
    refine Blk.below ?_ hbA (by first | exact Nat.le_refl _ | (simp; done) | (simp; omega) | omega)
    exact (by simpa using Blk.new (World.alloc w _) _ _ : Blk ((World.alloc w _).alloc _) _ _ _).alloc _
  obtain ⟨W0, hW0⟩ : ∃ W0, W0 = wA.alloc (.cells #[.int .i64 c.1, .int .i64 c.2] 23) := ⟨_, rfl⟩
  obtain ⟨c0, c1, f0, f1, z0⟩ := blk2 (show Blk W0 w.heap.size _ _ from hW0 ▸ g1.alloc _)
  obtain ⟨d0, d1, k0, k1, z1⟩ := blk2 (show Blk W0 (w.heap.size + 1) _ _ from hW0 ▸ g2.alloc _)
  obtain ⟨e0, e1, l0, l1, z2⟩ := blk2 (show Blk W0 wA.heap.size 23 #[.int .i64 c.1, .int .i64 c.2] from hW0 ▸ Blk.new _ _ _)
  have y0 : w.heap.size < wA.heap.size := g1.lt
  have y1 : w.heap.size + 1 < wA.heap.size := g2.lt
  have hB0 : Below w.heap.size w W0 := hW0 ▸ HB.alloc HB.size _
  have HW := Lib.hid hW0
  clear hW0 g1 g2
  have HX1 := Lib.hid x1
  have HX2 := Lib.hid x2
  clear x1 x2
  by_cases hA : hasB a.1 a.2 n = true
  · have x1 : hasB c.1 c.2 n = hasB b.1 b.2 n := by rw [HX1.out, hA, Bool.true_and]
    have x2 := HX2.out
    go_wp2_with fail
    rw [← HW.out]
    refine wp_region_held_drew (S := (fun w' => (∀ b o, b < wA.heap.size + 1 → w'.cell? ⟨b, o, none⟩ = W0.cell? ⟨b, o, none⟩) ∧ wA.heap.size + 1 ≤ w'.heap.size ∧ Below w.heap.size w w')) (by kernel_rfl) ?_ (fun hHeld => ?_)
    · (try dsimp only); (first | assumption | exact keep_next (by assumption) (by assumption) (by first | exact Nat.le_refl _ | (simp; done) | (simp; omega) | omega) | exact keep_alloc (by assumption) (by first | exact Nat.le_refl _ | (simp; done) | (simp; omega) | omega) | exact keep_start (by assumption) (by first | assumption | omega) | exact keep_drew (by assumption))
    refine take_op (v := ?vu1x0) 0 (Op.load 23 (Operand.tmp 7)) 23 rfl rfl rfl rfl rfl (by kernel_rfl) (by kernel_rfl) (by kernel_rfl) (fun _ _ _ h => h) ?yu1x0 (by assumption) ?ru1x0
    case yu1x0 => (intro w' hSw; (try dsimp only at hSw); go_simp; try (with_reducible rfl))
    simp only [List.setIfInBounds_toArray, List.set_cons_zero, List.set_cons_succ]
    refine take_move 1 (Operand.tmp 2) rfl rfl (by first | exact .inl rfl | exact .inr rfl) rfl (by kernel_rfl) (by kernel_rfl) (by kernel_rfl) (fun _ _ _ h => h) (by assumption) ?_
    simp only [List.setIfInBounds_toArray, List.set_cons_zero, List.set_cons_succ]
    refine take_op (v := ?vu1x3) 3 (Op.load 23 (Operand.tmp 3)) 23 rfl rfl rfl rfl rfl (by kernel_rfl) (by kernel_rfl) (by kernel_rfl) (fun _ _ _ h => h) ?yu1x3 (by assumption) ?ru1x3
    case yu1x3 => (intro w' hSw; (try dsimp only at hSw); go_simp; try (with_reducible rfl))
    simp only [List.setIfInBounds_toArray, List.set_cons_zero, List.set_cons_succ]
    refine take_move 4 (Operand.tmp 2) rfl rfl (by first | exact .inl rfl | exact .inr rfl) rfl (by kernel_rfl) (by kernel_rfl) (by kernel_rfl) (fun _ _ _ h => h) (by assumption) ?_
    simp only [List.setIfInBounds_toArray, List.set_cons_zero, List.set_cons_succ]
    refine take_call 2 14 [Operand.tmp 12, Operand.tmp 13] #[23, 3] (by kernel_rfl) rfl rfl rfl rfl (fun args w => run_enter Try.func14 (by kernel_rfl) rfl args w) ?_
    refine (asB (has_any c.1 c.2 n _) x1).mono ?_
    rintro e w1 ⟨rfl, hb1⟩
    refine ⟨_, rfl, ?_, fun hHeld => ?_⟩
    · (try dsimp only); (first | assumption | exact keep_next (by assumption) (by assumption) (by first | exact Nat.le_refl _ | (simp; done) | (simp; omega) | omega) | exact keep_alloc (by assumption) (by first | exact Nat.le_refl _ | (simp; done) | (simp; omega) | omega) | exact keep_start (by assumption) (by first | assumption | omega) | exact keep_drew (by assumption))
    simp only [List.setIfInBounds_toArray, List.set_cons_zero, List.set_cons_succ]
    refine take_call 5 14 [Operand.tmp 15, Operand.tmp 16] #[23, 3] (by kernel_rfl) rfl rfl rfl rfl (fun args w => run_enter Try.func14 (by kernel_rfl) rfl args w) ?_
    refine (asB (has_any a.1 a.2 n _) hA).mono ?_
    rintro e w1 ⟨rfl, hb1⟩
    refine ⟨_, rfl, ?_, fun hHeld => ?_⟩
    · (try dsimp only); (first | assumption | exact keep_next (by assumption) (by assumption) (by first | exact Nat.le_refl _ | (simp; done) | (simp; omega) | omega) | exact keep_alloc (by assumption) (by first | exact Nat.le_refl _ | (simp; done) | (simp; omega) | omega) | exact keep_start (by assumption) (by first | assumption | omega) | exact keep_drew (by assumption))
    simp only [List.setIfInBounds_toArray, List.set_cons_zero, List.set_cons_succ]
    refine take_move 6 (Operand.tmp 17) rfl rfl (by first | exact .inl rfl | exact .inr rfl) rfl (by kernel_rfl) (by kernel_rfl) (by kernel_rfl) (fun _ _ _ h => h) (by assumption) ?_
    simp only [List.setIfInBounds_toArray, List.set_cons_zero, List.set_cons_succ]
    refine take_op (v := ?vu1x7) 7 (Op.load 23 (Operand.tmp 4)) 23 rfl rfl rfl rfl rfl (by kernel_rfl) (by kernel_rfl) (by kernel_rfl) (fun _ _ _ h => h) ?yu1x7 (by assumption) ?ru1x7
    case yu1x7 => (intro w' hSw; (try dsimp only at hSw); go_simp; try (with_reducible rfl))
    simp only [List.setIfInBounds_toArray, List.set_cons_zero, List.set_cons_succ]
    refine take_move 8 (Operand.tmp 2) rfl rfl (by first | exact .inl rfl | exact .inr rfl) rfl (by kernel_rfl) (by kernel_rfl) (by kernel_rfl) (fun _ _ _ h => h) (by assumption) ?_
    simp only [List.setIfInBounds_toArray, List.set_cons_zero, List.set_cons_succ]
    refine take_call 9 14 [Operand.tmp 19, Operand.tmp 20] #[23, 3] (by kernel_rfl) rfl rfl rfl rfl (fun args w => run_enter Try.func14 (by kernel_rfl) rfl args w) ?_
    refine (has_any b.1 b.2 n _).mono ?_
    rintro e w1 ⟨rfl, hb1⟩
    refine ⟨_, rfl, ?_, fun hHeld => ?_⟩
    · (try dsimp only); (first | assumption | exact keep_next (by assumption) (by assumption) (by first | exact Nat.le_refl _ | (simp; done) | (simp; omega) | omega) | exact keep_alloc (by assumption) (by first | exact Nat.le_refl _ | (simp; done) | (simp; omega) | omega) | exact keep_start (by assumption) (by first | assumption | omega) | exact keep_drew (by assumption))
    simp only [List.setIfInBounds_toArray, List.set_cons_zero, List.set_cons_succ]
    refine take_op (v := ?vu1x10) 10 (Op.pick (Operand.tmp 18) (Operand.tmp 21) (Operand.const (Value.bool false))) 4 rfl rfl rfl rfl rfl (by kernel_rfl) (by kernel_rfl) (by kernel_rfl) (fun _ _ _ h => h) ?yu1x10 (by assumption) ?ru1x10
    case yu1x10 => (intro w' hSw; (try dsimp only at hSw); go_simp; try (with_reducible rfl))
    simp only [List.setIfInBounds_toArray, List.set_cons_zero, List.set_cons_succ]
    refine take_op (v := ?vu1x11) 11 (Op.binOp BinOp.neq 4 (Operand.tmp 14) (Operand.tmp 22) 4) 4 rfl rfl rfl rfl rfl (by kernel_rfl) (by kernel_rfl) (by kernel_rfl) (fun _ _ _ h => h) ?yu1x11 (by assumption) ?ru1x11
    case yu1x11 => (intro w' hSw; (try dsimp only at hSw); go_simp; try (with_reducible rfl))
    simp only [List.setIfInBounds_toArray, List.set_cons_zero, List.set_cons_succ]
    refine take_move 12 (Operand.tmp 23) rfl rfl (by first | exact .inl rfl | exact .inr rfl) rfl (by kernel_rfl) (by kernel_rfl) (by kernel_rfl) (fun _ _ _ h => h) (by assumption) ?_
    simp only [List.setIfInBounds_toArray, List.set_cons_zero, List.set_cons_succ]
    refine take_op (v := ?vu1x13) 13 (Op.load 23 (Operand.tmp 7)) 23 rfl rfl rfl rfl rfl (by kernel_rfl) (by kernel_rfl) (by kernel_rfl) (fun _ _ _ h => h) ?yu1x13 (by assumption) ?ru1x13
    case yu1x13 => (intro w' hSw; (try dsimp only at hSw); go_simp; try (with_reducible rfl))
    simp only [List.setIfInBounds_toArray, List.set_cons_zero, List.set_cons_succ]
    refine take_op (v := ?vu1x15) 15 (Op.load 23 (Operand.tmp 3)) 23 rfl rfl rfl rfl rfl (by kernel_rfl) (by kernel_rfl) (by kernel_rfl) (fun _ _ _ h => h) ?yu1x15 (by assumption) ?ru1x15
    case yu1x15 => (intro w' hSw; (try dsimp only at hSw); go_simp; try (with_reducible rfl))
    simp only [List.setIfInBounds_toArray, List.set_cons_zero, List.set_cons_succ]
    refine take_op (v := ?vu1x16) 16 (Op.load 23 (Operand.tmp 4)) 23 rfl rfl rfl rfl rfl (by kernel_rfl) (by kernel_rfl) (by kernel_rfl) (fun _ _ _ h => h) ?yu1x16 (by assumption) ?ru1x16
    case yu1x16 => (intro w' hSw; (try dsimp only at hSw); go_simp; try (with_reducible rfl))
    simp only [List.setIfInBounds_toArray, List.set_cons_zero, List.set_cons_succ]
    refine take_call 14 16 [Operand.tmp 25] #[23] (by kernel_rfl) rfl rfl rfl rfl (fun args w => run_enter Try.func16 (by kernel_rfl) rfl args w) ?_
    refine (empty_eq _ _ _ (by assumption) _).mono ?_
    rintro e w1 ⟨rfl, hb1⟩
    refine ⟨_, rfl, ?_, fun hHeld => ?_⟩
    · (try dsimp only); (first | assumption | exact keep_next (by assumption) (by assumption) (by first | exact Nat.le_refl _ | (simp; done) | (simp; omega) | omega) | exact keep_alloc (by assumption) (by first | exact Nat.le_refl _ | (simp; done) | (simp; omega) | omega) | exact keep_start (by assumption) (by first | assumption | omega) | exact keep_drew (by assumption))
    simp only [List.setIfInBounds_toArray, List.set_cons_zero, List.set_cons_succ]
    refine take_call 17 27 [Operand.tmp 27, Operand.tmp 28] #[23, 23] (by kernel_rfl) rfl rfl rfl rfl (fun args w => run_enter Try.func27 (by kernel_rfl) rfl args w) ?_
    refine (meets_any a b _).mono ?_
    rintro e w1 ⟨rfl, hb1⟩
    refine ⟨_, rfl, ?_, fun hHeld => ?_⟩
    · (try dsimp only); (first | assumption | exact keep_next (by assumption) (by assumption) (by first | exact Nat.le_refl _ | (simp; done) | (simp; omega) | omega) | exact keep_alloc (by assumption) (by first | exact Nat.le_refl _ | (simp; done) | (simp; omega) | omega) | exact keep_start (by assumption) (by first | assumption | omega) | exact keep_drew (by assumption))
    simp only [List.setIfInBounds_toArray, List.set_cons_zero, List.set_cons_succ]
    refine take_op (v := ?vu1x18) 18 (Op.binOp BinOp.eql 4 (Operand.tmp 26) (Operand.tmp 29) 4) 4 rfl rfl rfl rfl rfl (by kernel_rfl) (by kernel_rfl) (by kernel_rfl) (fun _ _ _ h => h) ?yu1x18 (by assumption) ?ru1x18
    case yu1x18 => (intro w' hSw; (try dsimp only at hSw); go_simp; try (with_reducible rfl))
    simp only [List.setIfInBounds_toArray, List.set_cons_zero, List.set_cons_succ]
    refine take_op (v := ?vu1x19) 19 (Op.pick (Operand.tmp 24) (Operand.const (Value.bool true)) (Operand.tmp 30)) 4 rfl rfl rfl rfl rfl (by kernel_rfl) (by kernel_rfl) (by kernel_rfl) (fun _ _ _ h => h) ?yu1x19 (by assumption) ?ru1x19
    case yu1x19 => (intro w' hSw; (try dsimp only at hSw); go_simp; try (with_reducible rfl))
    simp only [List.setIfInBounds_toArray, List.set_cons_zero, List.set_cons_succ]
    refine wpAnyH_done (by kernel_rfl) ?_ _
    go_wp2_with fail
    refine wp_region_held_drew (S := (fun w' => (∀ b o, b < wA.heap.size + 1 → w'.cell? ⟨b, o, none⟩ = W0.cell? ⟨b, o, none⟩) ∧ wA.heap.size + 1 ≤ w'.heap.size ∧ Below w.heap.size w w')) (by kernel_rfl) ?_ (fun hHeld => ?_)
    · (try dsimp only); (first | assumption | exact keep_next (by assumption) (by assumption) (by first | exact Nat.le_refl _ | (simp; done) | (simp; omega) | omega) | exact keep_alloc (by assumption) (by first | exact Nat.le_refl _ | (simp; done) | (simp; omega) | omega) | exact keep_start (by assumption) (by first | assumption | omega) | exact keep_drew (by assumption))
    refine take_op (v := ?vu2x0) 0 (Op.load 23 (Operand.tmp 7)) 23 rfl rfl rfl rfl rfl (by kernel_rfl) (by kernel_rfl) (by kernel_rfl) (fun _ _ _ h => h) ?yu2x0 (by assumption) ?ru2x0
    case yu2x0 => (intro w' hSw; (try dsimp only at hSw); go_simp; try (with_reducible rfl))
    simp only [List.setIfInBounds_toArray, List.set_cons_zero, List.set_cons_succ]
    refine take_op (v := ?vu2x1) 1 (Op.load 23 (Operand.tmp 3)) 23 rfl rfl rfl rfl rfl (by kernel_rfl) (by kernel_rfl) (by kernel_rfl) (fun _ _ _ h => h) ?yu2x1 (by assumption) ?ru2x1
    case yu2x1 => (intro w' hSw; (try dsimp only at hSw); go_simp; try (with_reducible rfl))
    simp only [List.setIfInBounds_toArray, List.set_cons_zero, List.set_cons_succ]
    refine take_call 2 29 [Operand.tmp 32, Operand.tmp 33] #[23, 23] (by kernel_rfl) rfl rfl rfl rfl (fun args w => run_enter Try.func29 (by kernel_rfl) rfl args w) ?_
    refine (asB (within_any _ _ _) (by assumption)).mono ?_
    rintro e w1 ⟨rfl, hb1⟩
    refine ⟨_, rfl, ?_, fun hHeld => ?_⟩
    · (try dsimp only); (first | assumption | exact keep_next (by assumption) (by assumption) (by first | exact Nat.le_refl _ | (simp; done) | (simp; omega) | omega) | exact keep_alloc (by assumption) (by first | exact Nat.le_refl _ | (simp; done) | (simp; omega) | omega) | exact keep_start (by assumption) (by first | assumption | omega) | exact keep_drew (by assumption))
    simp only [List.setIfInBounds_toArray, List.set_cons_zero, List.set_cons_succ]
    refine take_move 3 (Operand.tmp 34) rfl rfl (by first | exact .inl rfl | exact .inr rfl) rfl (by kernel_rfl) (by kernel_rfl) (by kernel_rfl) (fun _ _ _ h => h) (by assumption) ?_
    simp only [List.setIfInBounds_toArray, List.set_cons_zero, List.set_cons_succ]
    refine take_op (v := ?vu2x4) 4 (Op.load 23 (Operand.tmp 7)) 23 rfl rfl rfl rfl rfl (by kernel_rfl) (by kernel_rfl) (by kernel_rfl) (fun _ _ _ h => h) ?yu2x4 (by assumption) ?ru2x4
    case yu2x4 => (intro w' hSw; (try dsimp only at hSw); go_simp; try (with_reducible rfl))
    simp only [List.setIfInBounds_toArray, List.set_cons_zero, List.set_cons_succ]
    refine take_op (v := ?vu2x5) 5 (Op.load 23 (Operand.tmp 4)) 23 rfl rfl rfl rfl rfl (by kernel_rfl) (by kernel_rfl) (by kernel_rfl) (fun _ _ _ h => h) ?yu2x5 (by assumption) ?ru2x5
    case yu2x5 => (intro w' hSw; (try dsimp only at hSw); go_simp; try (with_reducible rfl))
    simp only [List.setIfInBounds_toArray, List.set_cons_zero, List.set_cons_succ]
    refine take_call 6 29 [Operand.tmp 36, Operand.tmp 37] #[23, 23] (by kernel_rfl) rfl rfl rfl rfl (fun args w => run_enter Try.func29 (by kernel_rfl) rfl args w) ?_
    refine (asB (within_any _ _ _) (by assumption)).mono ?_
    rintro e w1 ⟨rfl, hb1⟩
    refine ⟨_, rfl, ?_, fun hHeld => ?_⟩
    · (try dsimp only); (first | assumption | exact keep_next (by assumption) (by assumption) (by first | exact Nat.le_refl _ | (simp; done) | (simp; omega) | omega) | exact keep_alloc (by assumption) (by first | exact Nat.le_refl _ | (simp; done) | (simp; omega) | omega) | exact keep_start (by assumption) (by first | assumption | omega) | exact keep_drew (by assumption))
    simp only [List.setIfInBounds_toArray, List.set_cons_zero, List.set_cons_succ]
    refine take_op (v := ?vu2x7) 7 (Op.pick (Operand.tmp 35) (Operand.tmp 38) (Operand.const (Value.bool false))) 4 rfl rfl rfl rfl rfl (by kernel_rfl) (by kernel_rfl) (by kernel_rfl) (fun _ _ _ h => h) ?yu2x7 (by assumption) ?ru2x7
    case yu2x7 => (intro w' hSw; (try dsimp only at hSw); go_simp; try (with_reducible rfl))
    simp only [List.setIfInBounds_toArray, List.set_cons_zero, List.set_cons_succ]
    refine take_move 8 (Operand.tmp 39) rfl rfl (by first | exact .inl rfl | exact .inr rfl) rfl (by kernel_rfl) (by kernel_rfl) (by kernel_rfl) (fun _ _ _ h => h) (by assumption) ?_
    simp only [List.setIfInBounds_toArray, List.set_cons_zero, List.set_cons_succ]
    refine take_op (v := ?vu2x9) 9 (Op.load 23 (Operand.tmp 7)) 23 rfl rfl rfl rfl rfl (by kernel_rfl) (by kernel_rfl) (by kernel_rfl) (fun _ _ _ h => h) ?yu2x9 (by assumption) ?ru2x9
    case yu2x9 => (intro w' hSw; (try dsimp only at hSw); go_simp; try (with_reducible rfl))
    simp only [List.setIfInBounds_toArray, List.set_cons_zero, List.set_cons_succ]
    refine take_op (v := ?vu2x11) 11 (Op.load 23 (Operand.tmp 3)) 23 rfl rfl rfl rfl rfl (by kernel_rfl) (by kernel_rfl) (by kernel_rfl) (fun _ _ _ h => h) ?yu2x11 (by assumption) ?ru2x11
    case yu2x11 => (intro w' hSw; (try dsimp only at hSw); go_simp; try (with_reducible rfl))
    simp only [List.setIfInBounds_toArray, List.set_cons_zero, List.set_cons_succ]
    refine take_call 10 18 [Operand.tmp 41] #[23] (by kernel_rfl) rfl rfl rfl rfl (fun args w => run_enter Try.func18 (by kernel_rfl) rfl args w) ?_
    refine (size_any c _ HX6.out.1 HX6.out.2).mono ?_
    rintro e w1 ⟨rfl, hb1⟩
    refine ⟨_, rfl, ?_, fun hHeld => ?_⟩
    · (try dsimp only); (first | assumption | exact keep_next (by assumption) (by assumption) (by first | exact Nat.le_refl _ | (simp; done) | (simp; omega) | omega) | exact keep_alloc (by assumption) (by first | exact Nat.le_refl _ | (simp; done) | (simp; omega) | omega) | exact keep_start (by assumption) (by first | assumption | omega) | exact keep_drew (by assumption))
    simp only [List.setIfInBounds_toArray, List.set_cons_zero, List.set_cons_succ]
    refine take_call 12 18 [Operand.tmp 43] #[23] (by kernel_rfl) rfl rfl rfl rfl (fun args w => run_enter Try.func18 (by kernel_rfl) rfl args w) ?_
    refine (size_any a _ ha.1 ha.2).mono ?_
    rintro e w1 ⟨rfl, hb1⟩
    refine ⟨_, rfl, ?_, fun hHeld => ?_⟩
    · (try dsimp only); (first | assumption | exact keep_next (by assumption) (by assumption) (by first | exact Nat.le_refl _ | (simp; done) | (simp; omega) | omega) | exact keep_alloc (by assumption) (by first | exact Nat.le_refl _ | (simp; done) | (simp; omega) | omega) | exact keep_start (by assumption) (by first | assumption | omega) | exact keep_drew (by assumption))
    simp only [List.setIfInBounds_toArray, List.set_cons_zero, List.set_cons_succ]
    refine take_op (v := ?vu2x13) 13 (Op.binOp BinOp.leq 3 (Operand.tmp 42) (Operand.tmp 44) 3) 4 rfl rfl rfl rfl rfl (by kernel_rfl) (by kernel_rfl) (by kernel_rfl) (fun _ _ _ h => h) ?yu2x13 (by assumption) ?ru2x13
    case yu2x13 => (intro w' hSw; (try dsimp only at hSw); go_simp; try (with_reducible rfl))
    simp only [List.setIfInBounds_toArray, List.set_cons_zero, List.set_cons_succ]
    refine take_op (v := ?vu2x14) 14 (Op.pick (Operand.tmp 40) (Operand.tmp 45) (Operand.const (Value.bool false))) 4 rfl rfl rfl rfl rfl (by kernel_rfl) (by kernel_rfl) (by kernel_rfl) (fun _ _ _ h => h) ?yu2x14 (by assumption) ?ru2x14
    case yu2x14 => (intro w' hSw; (try dsimp only at hSw); go_simp; try (with_reducible rfl))
    simp only [List.setIfInBounds_toArray, List.set_cons_zero, List.set_cons_succ]
    refine take_move 15 (Operand.tmp 46) rfl rfl (by first | exact .inl rfl | exact .inr rfl) rfl (by kernel_rfl) (by kernel_rfl) (by kernel_rfl) (fun _ _ _ h => h) (by assumption) ?_
    simp only [List.setIfInBounds_toArray, List.set_cons_zero, List.set_cons_succ]
    refine take_op (v := ?vu2x16) 16 (Op.load 23 (Operand.tmp 4)) 23 rfl rfl rfl rfl rfl (by kernel_rfl) (by kernel_rfl) (by kernel_rfl) (fun _ _ _ h => h) ?yu2x16 (by assumption) ?ru2x16
    case yu2x16 => (intro w' hSw; (try dsimp only at hSw); go_simp; try (with_reducible rfl))
    simp only [List.setIfInBounds_toArray, List.set_cons_zero, List.set_cons_succ]
    refine take_op (v := ?vu2x17) 17 (Op.load 23 (Operand.tmp 3)) 23 rfl rfl rfl rfl rfl (by kernel_rfl) (by kernel_rfl) (by kernel_rfl) (fun _ _ _ h => h) ?yu2x17 (by assumption) ?ru2x17
    case yu2x17 => (intro w' hSw; (try dsimp only at hSw); go_simp; try (with_reducible rfl))
    simp only [List.setIfInBounds_toArray, List.set_cons_zero, List.set_cons_succ]
    refine take_op (v := ?vu2x20) 20 (Op.load 23 (Operand.tmp 7)) 23 rfl rfl rfl rfl rfl (by kernel_rfl) (by kernel_rfl) (by kernel_rfl) (fun _ _ _ h => h) ?yu2x20 (by assumption) ?ru2x20
    case yu2x20 => (intro w' hSw; (try dsimp only at hSw); go_simp; try (with_reducible rfl))
    simp only [List.setIfInBounds_toArray, List.set_cons_zero, List.set_cons_succ]
    refine' take_run 18 (Op.buildSlice 29 2 #[(0, Operand.tmp 48), (1, Operand.tmp 49)]) 29 (by kernel_rfl) rfl rfl rfl rfl rfl ?eu2x18 ?su2x18 (fun hHeld => ?ru2x18)
    case eu2x18 => (go_simp; try (first | with_reducible rfl | exact ⟨rfl, rfl⟩))
    case su2x18 => ((try dsimp only); (first | assumption | exact keep_next (by assumption) (by assumption) (by first | exact Nat.le_refl _ | (simp; done) | (simp; omega) | omega) | exact keep_alloc (by assumption) (by first | exact Nat.le_refl _ | (simp; done) | (simp; omega) | omega) | exact keep_start (by assumption) (by first | assumption | omega) | exact keep_drew (by assumption)))
    simp only [List.setIfInBounds_toArray, List.set_cons_zero, List.set_cons_succ]
    refine take_call 19 23 [Operand.tmp 50] #[29] (by kernel_rfl) rfl rfl rfl rfl (fun args w => run_enter Try.func23 (by kernel_rfl) rfl args w) ?_
    refine (asV (both_any _ 2 2 [b, a] _ (by exact (rd_two (by repeat (first | with_reducible assumption | exact Blk.new _ _ _ | (simpa using Blk.new _ _ _) | with_reducible apply Blk.drewN | with_reducible apply Blk.drew | with_reducible apply Blk.alloc))).more (by first | exact Nat.le_refl _ | (simp; done) | (simp; omega) | omega)) (Nat.le_refl _) (by omega)) (congrArg rv HX7.out)).mono ?_
    rintro e w1 ⟨rfl, hb1⟩
    refine ⟨_, rfl, ?_, fun hHeld => ?_⟩
    · (try dsimp only); (first | assumption | exact keep_next (by assumption) (by assumption) (by first | exact Nat.le_refl _ | (simp; done) | (simp; omega) | omega) | exact keep_alloc (by assumption) (by first | exact Nat.le_refl _ | (simp; done) | (simp; omega) | omega) | exact keep_start (by assumption) (by first | assumption | omega) | exact keep_drew (by assumption))
    simp only [List.setIfInBounds_toArray, List.set_cons_zero, List.set_cons_succ]
    refine take_op (v := ?vu2x21) 21 (Op.binOp BinOp.eql 23 (Operand.tmp 51) (Operand.tmp 52) 23) 4 rfl rfl rfl rfl rfl (by kernel_rfl) (by kernel_rfl) (by kernel_rfl) (fun _ _ _ h => h) ?yu2x21 (by assumption) ?ru2x21
    case yu2x21 => (intro w' hSw; (try dsimp only at hSw); go_simp; try (with_reducible rfl))
    simp only [List.setIfInBounds_toArray, List.set_cons_zero, List.set_cons_succ]
    refine take_op (v := ?vu2x22) 22 (Op.pick (Operand.tmp 47) (Operand.tmp 53) (Operand.const (Value.bool false))) 4 rfl rfl rfl rfl rfl (by kernel_rfl) (by kernel_rfl) (by kernel_rfl) (fun _ _ _ h => h) ?yu2x22 (by assumption) ?ru2x22
    case yu2x22 => (intro w' hSw; (try dsimp only at hSw); go_simp; try (with_reducible rfl))
    simp only [List.setIfInBounds_toArray, List.set_cons_zero, List.set_cons_succ]
    refine take_move 23 (Operand.tmp 54) rfl rfl (by first | exact .inl rfl | exact .inr rfl) rfl (by kernel_rfl) (by kernel_rfl) (by kernel_rfl) (fun _ _ _ h => h) (by assumption) ?_
    simp only [List.setIfInBounds_toArray, List.set_cons_zero, List.set_cons_succ]
    refine take_call 24 22 [] #[] (by kernel_rfl) rfl rfl rfl rfl (fun args w => run_enter Try.func22 (by kernel_rfl) rfl args w) ?_
    refine (awake_any _).mono ?_
    rintro e w1 ⟨rfl, hb1⟩
    refine ⟨_, rfl, ?_, fun hHeld => ?_⟩
    · (try dsimp only); (first | assumption | exact keep_next (by assumption) (by assumption) (by first | exact Nat.le_refl _ | (simp; done) | (simp; omega) | omega) | exact keep_alloc (by assumption) (by first | exact Nat.le_refl _ | (simp; done) | (simp; omega) | omega) | exact keep_start (by assumption) (by first | assumption | omega) | exact keep_drew (by assumption))
    simp only [List.setIfInBounds_toArray, List.set_cons_zero, List.set_cons_succ]
    refine take_op (v := ?vu2x25) 25 (Op.pick (Operand.tmp 55) (Operand.tmp 56) (Operand.const (Value.bool false))) 4 rfl rfl rfl rfl rfl (by kernel_rfl) (by kernel_rfl) (by kernel_rfl) (fun _ _ _ h => h) ?yu2x25 (by assumption) ?ru2x25
    case yu2x25 => (intro w' hSw; (try dsimp only at hSw); go_simp; try (with_reducible rfl))
    simp only [List.setIfInBounds_toArray, List.set_cons_zero, List.set_cons_succ]
    refine take_move 26 (Operand.tmp 57) rfl rfl (by first | exact .inl rfl | exact .inr rfl) rfl (by kernel_rfl) (by kernel_rfl) (by kernel_rfl) (fun _ _ _ h => h) (by assumption) ?_
    simp only [List.setIfInBounds_toArray, List.set_cons_zero, List.set_cons_succ]
    refine wpAnyH_done (by kernel_rfl) ?_ _
    go_wp2
    go_ret
    exact ⟨rfl, (‹(∀ b o, _ → _) ∧ _ ∧ _›).2.2⟩
  · have hA' : hasB a.1 a.2 n = false := by simpa using hA
    have x1 : hasB c.1 c.2 n = false := by rw [HX1.out, hA', Bool.false_and]
    have x2 := HX2.out
    go_wp2_with fail
    rw [← HW.out]
    refine wp_region_held_drew (S := (fun w' => (∀ b o, b < wA.heap.size + 1 → w'.cell? ⟨b, o, none⟩ = W0.cell? ⟨b, o, none⟩) ∧ wA.heap.size + 1 ≤ w'.heap.size ∧ Below w.heap.size w w')) (by kernel_rfl) ?_ (fun hHeld => ?_)
    · (try dsimp only); (first | assumption | exact keep_next (by assumption) (by assumption) (by first | exact Nat.le_refl _ | (simp; done) | (simp; omega) | omega) | exact keep_alloc (by assumption) (by first | exact Nat.le_refl _ | (simp; done) | (simp; omega) | omega) | exact keep_start (by assumption) (by first | assumption | omega) | exact keep_drew (by assumption))
    refine take_op (v := ?vu3x0) 0 (Op.load 23 (Operand.tmp 7)) 23 rfl rfl rfl rfl rfl (by kernel_rfl) (by kernel_rfl) (by kernel_rfl) (fun _ _ _ h => h) ?yu3x0 (by assumption) ?ru3x0
    case yu3x0 => (intro w' hSw; (try dsimp only at hSw); go_simp; try (with_reducible rfl))
    simp only [List.setIfInBounds_toArray, List.set_cons_zero, List.set_cons_succ]
    refine take_move 1 (Operand.tmp 2) rfl rfl (by first | exact .inl rfl | exact .inr rfl) rfl (by kernel_rfl) (by kernel_rfl) (by kernel_rfl) (fun _ _ _ h => h) (by assumption) ?_
    simp only [List.setIfInBounds_toArray, List.set_cons_zero, List.set_cons_succ]
    refine take_op (v := ?vu3x3) 3 (Op.load 23 (Operand.tmp 3)) 23 rfl rfl rfl rfl rfl (by kernel_rfl) (by kernel_rfl) (by kernel_rfl) (fun _ _ _ h => h) ?yu3x3 (by assumption) ?ru3x3
    case yu3x3 => (intro w' hSw; (try dsimp only at hSw); go_simp; try (with_reducible rfl))
    simp only [List.setIfInBounds_toArray, List.set_cons_zero, List.set_cons_succ]
    refine take_move 4 (Operand.tmp 2) rfl rfl (by first | exact .inl rfl | exact .inr rfl) rfl (by kernel_rfl) (by kernel_rfl) (by kernel_rfl) (fun _ _ _ h => h) (by assumption) ?_
    simp only [List.setIfInBounds_toArray, List.set_cons_zero, List.set_cons_succ]
    refine take_call 2 14 [Operand.tmp 12, Operand.tmp 13] #[23, 3] (by kernel_rfl) rfl rfl rfl rfl (fun args w => run_enter Try.func14 (by kernel_rfl) rfl args w) ?_
    refine (has_eq _ _ _ _ (by assumption) _).mono ?_
    rintro e w1 ⟨rfl, hb1⟩
    refine ⟨_, rfl, ?_, fun hHeld => ?_⟩
    · (try dsimp only); (first | assumption | exact keep_next (by assumption) (by assumption) (by first | exact Nat.le_refl _ | (simp; done) | (simp; omega) | omega) | exact keep_alloc (by assumption) (by first | exact Nat.le_refl _ | (simp; done) | (simp; omega) | omega) | exact keep_start (by assumption) (by first | assumption | omega) | exact keep_drew (by assumption))
    simp only [List.setIfInBounds_toArray, List.set_cons_zero, List.set_cons_succ]
    refine take_call 5 14 [Operand.tmp 15, Operand.tmp 16] #[23, 3] (by kernel_rfl) rfl rfl rfl rfl (fun args w => run_enter Try.func14 (by kernel_rfl) rfl args w) ?_
    refine (has_eq _ _ _ _ (by assumption) _).mono ?_
    rintro e w1 ⟨rfl, hb1⟩
    refine ⟨_, rfl, ?_, fun hHeld => ?_⟩
    · (try dsimp only); (first | assumption | exact keep_next (by assumption) (by assumption) (by first | exact Nat.le_refl _ | (simp; done) | (simp; omega) | omega) | exact keep_alloc (by assumption) (by first | exact Nat.le_refl _ | (simp; done) | (simp; omega) | omega) | exact keep_start (by assumption) (by first | assumption | omega) | exact keep_drew (by assumption))
    simp only [List.setIfInBounds_toArray, List.set_cons_zero, List.set_cons_succ]
    refine take_move 6 (Operand.tmp 17) rfl rfl (by first | exact .inl rfl | exact .inr rfl) rfl (by kernel_rfl) (by kernel_rfl) (by kernel_rfl) (fun _ _ _ h => h) (by assumption) ?_
    simp only [List.setIfInBounds_toArray, List.set_cons_zero, List.set_cons_succ]
    refine take_skip 7 rfl rfl rfl (by kernel_rfl) (by kernel_rfl) (by kernel_rfl) (fun _ _ _ h => h) (by assumption) ?_
    simp only [List.setIfInBounds_toArray, List.set_cons_zero, List.set_cons_succ]
    refine take_skip 8 rfl rfl rfl (by kernel_rfl) (by kernel_rfl) (by kernel_rfl) (fun _ _ _ h => h) (by assumption) ?_
    simp only [List.setIfInBounds_toArray, List.set_cons_zero, List.set_cons_succ]
    refine take_skip 9 rfl rfl rfl (by kernel_rfl) (by kernel_rfl) (by kernel_rfl) (fun _ _ _ h => h) (by assumption) ?_
    simp only [List.setIfInBounds_toArray, List.set_cons_zero, List.set_cons_succ]
    refine take_op (v := ?vu3x10) 10 (Op.pick (Operand.tmp 18) (Operand.tmp 21) (Operand.const (Value.bool false))) 4 rfl rfl rfl rfl rfl (by kernel_rfl) (by kernel_rfl) (by kernel_rfl) (fun _ _ _ h => h) ?yu3x10 (by assumption) ?ru3x10
    case yu3x10 => (intro w' hSw; (try dsimp only at hSw); go_simp; try (with_reducible rfl))
    simp only [List.setIfInBounds_toArray, List.set_cons_zero, List.set_cons_succ]
    refine take_op (v := ?vu3x11) 11 (Op.binOp BinOp.neq 4 (Operand.tmp 14) (Operand.tmp 22) 4) 4 rfl rfl rfl rfl rfl (by kernel_rfl) (by kernel_rfl) (by kernel_rfl) (fun _ _ _ h => h) ?yu3x11 (by assumption) ?ru3x11
    case yu3x11 => (intro w' hSw; (try dsimp only at hSw); go_simp; try (with_reducible rfl))
    simp only [List.setIfInBounds_toArray, List.set_cons_zero, List.set_cons_succ]
    refine take_move 12 (Operand.tmp 23) rfl rfl (by first | exact .inl rfl | exact .inr rfl) rfl (by kernel_rfl) (by kernel_rfl) (by kernel_rfl) (fun _ _ _ h => h) (by assumption) ?_
    simp only [List.setIfInBounds_toArray, List.set_cons_zero, List.set_cons_succ]
    refine take_op (v := ?vu3x13) 13 (Op.load 23 (Operand.tmp 7)) 23 rfl rfl rfl rfl rfl (by kernel_rfl) (by kernel_rfl) (by kernel_rfl) (fun _ _ _ h => h) ?yu3x13 (by assumption) ?ru3x13
    case yu3x13 => (intro w' hSw; (try dsimp only at hSw); go_simp; try (with_reducible rfl))
    simp only [List.setIfInBounds_toArray, List.set_cons_zero, List.set_cons_succ]
    refine take_op (v := ?vu3x15) 15 (Op.load 23 (Operand.tmp 3)) 23 rfl rfl rfl rfl rfl (by kernel_rfl) (by kernel_rfl) (by kernel_rfl) (fun _ _ _ h => h) ?yu3x15 (by assumption) ?ru3x15
    case yu3x15 => (intro w' hSw; (try dsimp only at hSw); go_simp; try (with_reducible rfl))
    simp only [List.setIfInBounds_toArray, List.set_cons_zero, List.set_cons_succ]
    refine take_op (v := ?vu3x16) 16 (Op.load 23 (Operand.tmp 4)) 23 rfl rfl rfl rfl rfl (by kernel_rfl) (by kernel_rfl) (by kernel_rfl) (fun _ _ _ h => h) ?yu3x16 (by assumption) ?ru3x16
    case yu3x16 => (intro w' hSw; (try dsimp only at hSw); go_simp; try (with_reducible rfl))
    simp only [List.setIfInBounds_toArray, List.set_cons_zero, List.set_cons_succ]
    refine take_call 14 16 [Operand.tmp 25] #[23] (by kernel_rfl) rfl rfl rfl rfl (fun args w => run_enter Try.func16 (by kernel_rfl) rfl args w) ?_
    refine (empty_eq _ _ _ (by assumption) _).mono ?_
    rintro e w1 ⟨rfl, hb1⟩
    refine ⟨_, rfl, ?_, fun hHeld => ?_⟩
    · (try dsimp only); (first | assumption | exact keep_next (by assumption) (by assumption) (by first | exact Nat.le_refl _ | (simp; done) | (simp; omega) | omega) | exact keep_alloc (by assumption) (by first | exact Nat.le_refl _ | (simp; done) | (simp; omega) | omega) | exact keep_start (by assumption) (by first | assumption | omega) | exact keep_drew (by assumption))
    simp only [List.setIfInBounds_toArray, List.set_cons_zero, List.set_cons_succ]
    refine take_call 17 27 [Operand.tmp 27, Operand.tmp 28] #[23, 23] (by kernel_rfl) rfl rfl rfl rfl (fun args w => run_enter Try.func27 (by kernel_rfl) rfl args w) ?_
    refine (meets_any a b _).mono ?_
    rintro e w1 ⟨rfl, hb1⟩
    refine ⟨_, rfl, ?_, fun hHeld => ?_⟩
    · (try dsimp only); (first | assumption | exact keep_next (by assumption) (by assumption) (by first | exact Nat.le_refl _ | (simp; done) | (simp; omega) | omega) | exact keep_alloc (by assumption) (by first | exact Nat.le_refl _ | (simp; done) | (simp; omega) | omega) | exact keep_start (by assumption) (by first | assumption | omega) | exact keep_drew (by assumption))
    simp only [List.setIfInBounds_toArray, List.set_cons_zero, List.set_cons_succ]
    refine take_op (v := ?vu3x18) 18 (Op.binOp BinOp.eql 4 (Operand.tmp 26) (Operand.tmp 29) 4) 4 rfl rfl rfl rfl rfl (by kernel_rfl) (by kernel_rfl) (by kernel_rfl) (fun _ _ _ h => h) ?yu3x18 (by assumption) ?ru3x18
    case yu3x18 => (intro w' hSw; (try dsimp only at hSw); go_simp; try (with_reducible rfl))
    simp only [List.setIfInBounds_toArray, List.set_cons_zero, List.set_cons_succ]
    refine take_op (v := ?vu3x19) 19 (Op.pick (Operand.tmp 24) (Operand.const (Value.bool true)) (Operand.tmp 30)) 4 rfl rfl rfl rfl rfl (by kernel_rfl) (by kernel_rfl) (by kernel_rfl) (fun _ _ _ h => h) ?yu3x19 (by assumption) ?ru3x19
    case yu3x19 => (intro w' hSw; (try dsimp only at hSw); go_simp; try (with_reducible rfl))
    simp only [List.setIfInBounds_toArray, List.set_cons_zero, List.set_cons_succ]
    refine wpAnyH_done (by kernel_rfl) ?_ _
    go_wp2_with fail
    refine wp_region_held_drew (S := (fun w' => (∀ b o, b < wA.heap.size + 1 → w'.cell? ⟨b, o, none⟩ = W0.cell? ⟨b, o, none⟩) ∧ wA.heap.size + 1 ≤ w'.heap.size ∧ Below w.heap.size w w')) (by kernel_rfl) ?_ (fun hHeld => ?_)
    · (try dsimp only); (first | assumption | exact keep_next (by assumption) (by assumption) (by first | exact Nat.le_refl _ | (simp; done) | (simp; omega) | omega) | exact keep_alloc (by assumption) (by first | exact Nat.le_refl _ | (simp; done) | (simp; omega) | omega) | exact keep_start (by assumption) (by first | assumption | omega) | exact keep_drew (by assumption))
    refine take_op (v := ?vu4x0) 0 (Op.load 23 (Operand.tmp 7)) 23 rfl rfl rfl rfl rfl (by kernel_rfl) (by kernel_rfl) (by kernel_rfl) (fun _ _ _ h => h) ?yu4x0 (by assumption) ?ru4x0
    case yu4x0 => (intro w' hSw; (try dsimp only at hSw); go_simp; try (with_reducible rfl))
    simp only [List.setIfInBounds_toArray, List.set_cons_zero, List.set_cons_succ]
    refine take_op (v := ?vu4x1) 1 (Op.load 23 (Operand.tmp 3)) 23 rfl rfl rfl rfl rfl (by kernel_rfl) (by kernel_rfl) (by kernel_rfl) (fun _ _ _ h => h) ?yu4x1 (by assumption) ?ru4x1
    case yu4x1 => (intro w' hSw; (try dsimp only at hSw); go_simp; try (with_reducible rfl))
    simp only [List.setIfInBounds_toArray, List.set_cons_zero, List.set_cons_succ]
    refine take_call 2 29 [Operand.tmp 32, Operand.tmp 33] #[23, 23] (by kernel_rfl) rfl rfl rfl rfl (fun args w => run_enter Try.func29 (by kernel_rfl) rfl args w) ?_
    refine (asB (within_any _ _ _) (by assumption)).mono ?_
    rintro e w1 ⟨rfl, hb1⟩
    refine ⟨_, rfl, ?_, fun hHeld => ?_⟩
    · (try dsimp only); (first | assumption | exact keep_next (by assumption) (by assumption) (by first | exact Nat.le_refl _ | (simp; done) | (simp; omega) | omega) | exact keep_alloc (by assumption) (by first | exact Nat.le_refl _ | (simp; done) | (simp; omega) | omega) | exact keep_start (by assumption) (by first | assumption | omega) | exact keep_drew (by assumption))
    simp only [List.setIfInBounds_toArray, List.set_cons_zero, List.set_cons_succ]
    refine take_move 3 (Operand.tmp 34) rfl rfl (by first | exact .inl rfl | exact .inr rfl) rfl (by kernel_rfl) (by kernel_rfl) (by kernel_rfl) (fun _ _ _ h => h) (by assumption) ?_
    simp only [List.setIfInBounds_toArray, List.set_cons_zero, List.set_cons_succ]
    refine take_op (v := ?vu4x4) 4 (Op.load 23 (Operand.tmp 7)) 23 rfl rfl rfl rfl rfl (by kernel_rfl) (by kernel_rfl) (by kernel_rfl) (fun _ _ _ h => h) ?yu4x4 (by assumption) ?ru4x4
    case yu4x4 => (intro w' hSw; (try dsimp only at hSw); go_simp; try (with_reducible rfl))
    simp only [List.setIfInBounds_toArray, List.set_cons_zero, List.set_cons_succ]
    refine take_op (v := ?vu4x5) 5 (Op.load 23 (Operand.tmp 4)) 23 rfl rfl rfl rfl rfl (by kernel_rfl) (by kernel_rfl) (by kernel_rfl) (fun _ _ _ h => h) ?yu4x5 (by assumption) ?ru4x5
    case yu4x5 => (intro w' hSw; (try dsimp only at hSw); go_simp; try (with_reducible rfl))
    simp only [List.setIfInBounds_toArray, List.set_cons_zero, List.set_cons_succ]
    refine take_call 6 29 [Operand.tmp 36, Operand.tmp 37] #[23, 23] (by kernel_rfl) rfl rfl rfl rfl (fun args w => run_enter Try.func29 (by kernel_rfl) rfl args w) ?_
    refine (asB (within_any _ _ _) (by assumption)).mono ?_
    rintro e w1 ⟨rfl, hb1⟩
    refine ⟨_, rfl, ?_, fun hHeld => ?_⟩
    · (try dsimp only); (first | assumption | exact keep_next (by assumption) (by assumption) (by first | exact Nat.le_refl _ | (simp; done) | (simp; omega) | omega) | exact keep_alloc (by assumption) (by first | exact Nat.le_refl _ | (simp; done) | (simp; omega) | omega) | exact keep_start (by assumption) (by first | assumption | omega) | exact keep_drew (by assumption))
    simp only [List.setIfInBounds_toArray, List.set_cons_zero, List.set_cons_succ]
    refine take_op (v := ?vu4x7) 7 (Op.pick (Operand.tmp 35) (Operand.tmp 38) (Operand.const (Value.bool false))) 4 rfl rfl rfl rfl rfl (by kernel_rfl) (by kernel_rfl) (by kernel_rfl) (fun _ _ _ h => h) ?yu4x7 (by assumption) ?ru4x7
    case yu4x7 => (intro w' hSw; (try dsimp only at hSw); go_simp; try (with_reducible rfl))
    simp only [List.setIfInBounds_toArray, List.set_cons_zero, List.set_cons_succ]
    refine take_move 8 (Operand.tmp 39) rfl rfl (by first | exact .inl rfl | exact .inr rfl) rfl (by kernel_rfl) (by kernel_rfl) (by kernel_rfl) (fun _ _ _ h => h) (by assumption) ?_
    simp only [List.setIfInBounds_toArray, List.set_cons_zero, List.set_cons_succ]
    refine take_op (v := ?vu4x9) 9 (Op.load 23 (Operand.tmp 7)) 23 rfl rfl rfl rfl rfl (by kernel_rfl) (by kernel_rfl) (by kernel_rfl) (fun _ _ _ h => h) ?yu4x9 (by assumption) ?ru4x9
    case yu4x9 => (intro w' hSw; (try dsimp only at hSw); go_simp; try (with_reducible rfl))
    simp only [List.setIfInBounds_toArray, List.set_cons_zero, List.set_cons_succ]
    refine take_op (v := ?vu4x11) 11 (Op.load 23 (Operand.tmp 3)) 23 rfl rfl rfl rfl rfl (by kernel_rfl) (by kernel_rfl) (by kernel_rfl) (fun _ _ _ h => h) ?yu4x11 (by assumption) ?ru4x11
    case yu4x11 => (intro w' hSw; (try dsimp only at hSw); go_simp; try (with_reducible rfl))
    simp only [List.setIfInBounds_toArray, List.set_cons_zero, List.set_cons_succ]
    refine take_call 10 18 [Operand.tmp 41] #[23] (by kernel_rfl) rfl rfl rfl rfl (fun args w => run_enter Try.func18 (by kernel_rfl) rfl args w) ?_
    refine (size_any c _ HX6.out.1 HX6.out.2).mono ?_
    rintro e w1 ⟨rfl, hb1⟩
    refine ⟨_, rfl, ?_, fun hHeld => ?_⟩
    · (try dsimp only); (first | assumption | exact keep_next (by assumption) (by assumption) (by first | exact Nat.le_refl _ | (simp; done) | (simp; omega) | omega) | exact keep_alloc (by assumption) (by first | exact Nat.le_refl _ | (simp; done) | (simp; omega) | omega) | exact keep_start (by assumption) (by first | assumption | omega) | exact keep_drew (by assumption))
    simp only [List.setIfInBounds_toArray, List.set_cons_zero, List.set_cons_succ]
    refine take_call 12 18 [Operand.tmp 43] #[23] (by kernel_rfl) rfl rfl rfl rfl (fun args w => run_enter Try.func18 (by kernel_rfl) rfl args w) ?_
    refine (size_any a _ ha.1 ha.2).mono ?_
    rintro e w1 ⟨rfl, hb1⟩
    refine ⟨_, rfl, ?_, fun hHeld => ?_⟩
    · (try dsimp only); (first | assumption | exact keep_next (by assumption) (by assumption) (by first | exact Nat.le_refl _ | (simp; done) | (simp; omega) | omega) | exact keep_alloc (by assumption) (by first | exact Nat.le_refl _ | (simp; done) | (simp; omega) | omega) | exact keep_start (by assumption) (by first | assumption | omega) | exact keep_drew (by assumption))
    simp only [List.setIfInBounds_toArray, List.set_cons_zero, List.set_cons_succ]
    refine take_op (v := ?vu4x13) 13 (Op.binOp BinOp.leq 3 (Operand.tmp 42) (Operand.tmp 44) 3) 4 rfl rfl rfl rfl rfl (by kernel_rfl) (by kernel_rfl) (by kernel_rfl) (fun _ _ _ h => h) ?yu4x13 (by assumption) ?ru4x13
    case yu4x13 => (intro w' hSw; (try dsimp only at hSw); go_simp; try (with_reducible rfl))
    simp only [List.setIfInBounds_toArray, List.set_cons_zero, List.set_cons_succ]
    refine take_op (v := ?vu4x14) 14 (Op.pick (Operand.tmp 40) (Operand.tmp 45) (Operand.const (Value.bool false))) 4 rfl rfl rfl rfl rfl (by kernel_rfl) (by kernel_rfl) (by kernel_rfl) (fun _ _ _ h => h) ?yu4x14 (by assumption) ?ru4x14
    case yu4x14 => (intro w' hSw; (try dsimp only at hSw); go_simp; try (with_reducible rfl))
    simp only [List.setIfInBounds_toArray, List.set_cons_zero, List.set_cons_succ]
    refine take_move 15 (Operand.tmp 46) rfl rfl (by first | exact .inl rfl | exact .inr rfl) rfl (by kernel_rfl) (by kernel_rfl) (by kernel_rfl) (fun _ _ _ h => h) (by assumption) ?_
    simp only [List.setIfInBounds_toArray, List.set_cons_zero, List.set_cons_succ]
    refine take_op (v := ?vu4x16) 16 (Op.load 23 (Operand.tmp 4)) 23 rfl rfl rfl rfl rfl (by kernel_rfl) (by kernel_rfl) (by kernel_rfl) (fun _ _ _ h => h) ?yu4x16 (by assumption) ?ru4x16
    case yu4x16 => (intro w' hSw; (try dsimp only at hSw); go_simp; try (with_reducible rfl))
    simp only [List.setIfInBounds_toArray, List.set_cons_zero, List.set_cons_succ]
    refine take_op (v := ?vu4x17) 17 (Op.load 23 (Operand.tmp 3)) 23 rfl rfl rfl rfl rfl (by kernel_rfl) (by kernel_rfl) (by kernel_rfl) (fun _ _ _ h => h) ?yu4x17 (by assumption) ?ru4x17
    case yu4x17 => (intro w' hSw; (try dsimp only at hSw); go_simp; try (with_reducible rfl))
    simp only [List.setIfInBounds_toArray, List.set_cons_zero, List.set_cons_succ]
    refine take_op (v := ?vu4x20) 20 (Op.load 23 (Operand.tmp 7)) 23 rfl rfl rfl rfl rfl (by kernel_rfl) (by kernel_rfl) (by kernel_rfl) (fun _ _ _ h => h) ?yu4x20 (by assumption) ?ru4x20
    case yu4x20 => (intro w' hSw; (try dsimp only at hSw); go_simp; try (with_reducible rfl))
    simp only [List.setIfInBounds_toArray, List.set_cons_zero, List.set_cons_succ]
    refine' take_run 18 (Op.buildSlice 29 2 #[(0, Operand.tmp 48), (1, Operand.tmp 49)]) 29 (by kernel_rfl) rfl rfl rfl rfl rfl ?eu4x18 ?su4x18 (fun hHeld => ?ru4x18)
    case eu4x18 => (go_simp; try (first | with_reducible rfl | exact ⟨rfl, rfl⟩))
    case su4x18 => ((try dsimp only); (first | assumption | exact keep_next (by assumption) (by assumption) (by first | exact Nat.le_refl _ | (simp; done) | (simp; omega) | omega) | exact keep_alloc (by assumption) (by first | exact Nat.le_refl _ | (simp; done) | (simp; omega) | omega) | exact keep_start (by assumption) (by first | assumption | omega) | exact keep_drew (by assumption)))
    simp only [List.setIfInBounds_toArray, List.set_cons_zero, List.set_cons_succ]
    refine take_call 19 23 [Operand.tmp 50] #[29] (by kernel_rfl) rfl rfl rfl rfl (fun args w => run_enter Try.func23 (by kernel_rfl) rfl args w) ?_
    refine (asV (both_any _ 2 2 [b, a] _ (by exact (rd_two (by repeat (first | with_reducible assumption | exact Blk.new _ _ _ | (simpa using Blk.new _ _ _) | with_reducible apply Blk.drewN | with_reducible apply Blk.drew | with_reducible apply Blk.alloc))).more (by first | exact Nat.le_refl _ | (simp; done) | (simp; omega) | omega)) (Nat.le_refl _) (by omega)) (congrArg rv HX7.out)).mono ?_
    rintro e w1 ⟨rfl, hb1⟩
    refine ⟨_, rfl, ?_, fun hHeld => ?_⟩
    · (try dsimp only); (first | assumption | exact keep_next (by assumption) (by assumption) (by first | exact Nat.le_refl _ | (simp; done) | (simp; omega) | omega) | exact keep_alloc (by assumption) (by first | exact Nat.le_refl _ | (simp; done) | (simp; omega) | omega) | exact keep_start (by assumption) (by first | assumption | omega) | exact keep_drew (by assumption))
    simp only [List.setIfInBounds_toArray, List.set_cons_zero, List.set_cons_succ]
    refine take_op (v := ?vu4x21) 21 (Op.binOp BinOp.eql 23 (Operand.tmp 51) (Operand.tmp 52) 23) 4 rfl rfl rfl rfl rfl (by kernel_rfl) (by kernel_rfl) (by kernel_rfl) (fun _ _ _ h => h) ?yu4x21 (by assumption) ?ru4x21
    case yu4x21 => (intro w' hSw; (try dsimp only at hSw); go_simp; try (with_reducible rfl))
    simp only [List.setIfInBounds_toArray, List.set_cons_zero, List.set_cons_succ]
    refine take_op (v := ?vu4x22) 22 (Op.pick (Operand.tmp 47) (Operand.tmp 53) (Operand.const (Value.bool false))) 4 rfl rfl rfl rfl rfl (by kernel_rfl) (by kernel_rfl) (by kernel_rfl) (fun _ _ _ h => h) ?yu4x22 (by assumption) ?ru4x22
    case yu4x22 => (intro w' hSw; (try dsimp only at hSw); go_simp; try (with_reducible rfl))
    simp only [List.setIfInBounds_toArray, List.set_cons_zero, List.set_cons_succ]
    refine take_move 23 (Operand.tmp 54) rfl rfl (by first | exact .inl rfl | exact .inr rfl) rfl (by kernel_rfl) (by kernel_rfl) (by kernel_rfl) (fun _ _ _ h => h) (by assumption) ?_
    simp only [List.setIfInBounds_toArray, List.set_cons_zero, List.set_cons_succ]
    refine take_call 24 22 [] #[] (by kernel_rfl) rfl rfl rfl rfl (fun args w => run_enter Try.func22 (by kernel_rfl) rfl args w) ?_
    refine (awake_any _).mono ?_
    rintro e w1 ⟨rfl, hb1⟩
    refine ⟨_, rfl, ?_, fun hHeld => ?_⟩
    · (try dsimp only); (first | assumption | exact keep_next (by assumption) (by assumption) (by first | exact Nat.le_refl _ | (simp; done) | (simp; omega) | omega) | exact keep_alloc (by assumption) (by first | exact Nat.le_refl _ | (simp; done) | (simp; omega) | omega) | exact keep_start (by assumption) (by first | assumption | omega) | exact keep_drew (by assumption))
    simp only [List.setIfInBounds_toArray, List.set_cons_zero, List.set_cons_succ]
    refine take_op (v := ?vu4x25) 25 (Op.pick (Operand.tmp 55) (Operand.tmp 56) (Operand.const (Value.bool false))) 4 rfl rfl rfl rfl rfl (by kernel_rfl) (by kernel_rfl) (by kernel_rfl) (fun _ _ _ h => h) ?yu4x25 (by assumption) ?ru4x25
    case yu4x25 => (intro w' hSw; (try dsimp only at hSw); go_simp; try (with_reducible rfl))
    simp only [List.setIfInBounds_toArray, List.set_cons_zero, List.set_cons_succ]
    refine take_move 26 (Operand.tmp 57) rfl rfl (by first | exact .inl rfl | exact .inr rfl) rfl (by kernel_rfl) (by kernel_rfl) (by kernel_rfl) (fun _ _ _ h => h) (by assumption) ?_
    simp only [List.setIfInBounds_toArray, List.set_cons_zero, List.set_cons_succ]
    refine wpAnyH_done (by kernel_rfl) ?_ _
    go_wp2
    go_ret
    exact ⟨rfl, (‹(∀ b o, _ → _) ∧ _ ∧ _›).2.2⟩
end SpanW
end Go.Proofs.Ytehlgpfkpagaeaa
