/- The walk of the law SpanCover. -/
import Derived.Test.YtehlgpfkpagaeaaSpanL
import Derived.Test.YtehlgpfkpagaeaaReg
import Derived.Deep.DeepCutAuto
namespace Go.Proofs.Ytehlgpfkpagaeaa
set_option linter.unusedVariables false
open Go.RowKit
namespace SpanW

set_option maxRecDepth 100000 in
set_option maxHeartbeats 4000000 in
theorem cover_law (a b : R) (n : Int) (w : World) :
    Calls Try.prog 6 #[rv a, rv b, .int .i64 n] w fun e w' => e = .returned (.bool true) ∧ Below w.heap.size w w' := by
  obtain ⟨x3, x4⟩ := cover_facts a b
  have x1 := cover_has a b n
  have x2 := cover_empty a b
  have x5 := cover_lo a b
  have x6 := cover_hi a b
  have x7 := cover_comm a b
  have x8 := cover_two a b
  have x9 := cover_two b a
  generalize hc : coverR a b = c at *
  rw [x7] at x9
  have HC := Lib.hid x8
  have HC2 := Lib.hid x9
  have HX1 := Lib.hid x1
  have HX2 := Lib.hid x2
  have HX5 := Lib.hid x5
  have HX6 := Lib.hid x6
  clear hc x1 x2 x5 x6 x7 x8 x9
  go_enter Try.func6, Try.ntmps6
  go_wp2_with fail
  refine (cover_any _ 2 2 [a, b] _ ?hr (Nat.le_refl _) (by omega) (by omega)).mono ?_
  case hr => exact (rd_two (by simpa using Blk.new (World.alloc (World.alloc w _) _) _ _)).more (by first | exact Nat.le_refl _ | (simp; done) | (simp; omega) | omega)
  rintro e wA ⟨rfl, hbA⟩
  rw [HC.out]
  have HB : Below w.heap.size w wA := (by refine Below.trans ?_ (Below.mono hbA ?_); rotate_left; (first | (simp; done) | (simp; omega) | omega); exact (by first | exact Below.refl _ _ | (repeat (first | exact Below.refl _ _ | assumption | refine Below.drew ?_ | refine Below.drewN_ ?_ _ | refine Below.alloc ?_ (by first | exact Nat.le_refl _ | (simp; done) | (simp; omega) | omega) _ | refine Below.setCell ?_ (by first | exact Nat.le_refl _ | (simp; done) | (simp; omega) | omega) _ | (refine Below.trans ?_ (Below.mono (by assumption) (by first | exact Nat.le_refl _ | (simp; done) | (simp; omega) | omega)))))))
  have g1 : Blk wA w.heap.size 23 #[.int .i64 a.1, .int .i64 a.2] := by
    refine Blk.below ?_ hbA (by first | exact Nat.le_refl _ | (simp; done) | (simp; omega) | omega)
    exact ((Blk.new _ _ _).alloc _).alloc _
  have g2 : Blk wA (w.heap.size + 1) 23 #[.int .i64 b.1, .int .i64 b.2] := by
    refine Blk.below ?_ hbA (by first | exact Nat.le_refl _ | (simp; done) | (simp; omega) | omega)
    exact (by simpa using Blk.new (World.alloc w _) _ _ : Blk ((World.alloc w _).alloc _) _ _ _).alloc _
  obtain ⟨W0, hW0⟩ : ∃ W0, W0 = wA.alloc (.cells #[.int .i64 c.1, .int .i64 c.2] 23) := ⟨_, rfl⟩
  obtain ⟨c0, c1, f0, f1, z0⟩ := blk2 (show Blk W0 w.heap.size _ _ from hW0 ▸ g1.alloc _)
  obtain ⟨d0, d1, k0, k1, z1⟩ := blk2 (show Blk W0 (w.heap.size + 1) _ _ from hW0 ▸ g2.alloc _)
  obtain ⟨e0, e1, l0, l1, z2⟩ := blk2 (show Blk W0 wA.heap.size 23 #[.int .i64 c.1, .int .i64 c.2] from hW0 ▸ Blk.new _ _ _)
  have y0 : w.heap.size < wA.heap.size := g1.lt
  have y1 : w.heap.size + 1 < wA.heap.size := g2.lt
  have hB0 : Below w.heap.size w W0 := hW0 ▸ HB.alloc HB.size _
  have HW := Lib.hid hW0
  clear hW0 g1 g2 hbA HB
  go_upto_region 2 with fail
  rw [← HW.out]
  go_cut [39] (fun s wx => s = .bool false ∧ ((∀ b o, b < W0.heap.size → wx.cell? ⟨b, o, none⟩ = W0.cell? ⟨b, o, none⟩) ∧ W0.heap.size ≤ wx.heap.size ∧ Below w.heap.size w wx))
  case first =>
    by_cases hA : hasB a.1 a.2 n = true
    · have hCn := HX1.out (by simp [hA])
      go_wp2_with (first
        | (go_at_call 29; refine (asB (within_any _ _ _) (by assumption)).mono ?_; rintro e w1 ⟨rfl, hb1⟩; first | have hHeld := keep_next hHeld hb1 (by first | exact Nat.le_refl _ | (simp; done) | (simp; omega) | omega) | have hHeld := keep_first hB0 (by first | exact Nat.le_refl _ | (simp; done) | (simp; omega) | omega) hb1 (by first | exact Nat.le_refl _ | (simp; done) | (simp; omega) | omega))
        | (go_at_call 14; refine (asB (has_any _ _ _ _) (by assumption)).mono ?_; rintro e w1 ⟨rfl, hb1⟩; first | have hHeld := keep_next hHeld hb1 (by first | exact Nat.le_refl _ | (simp; done) | (simp; omega) | omega) | have hHeld := keep_first hB0 (by first | exact Nat.le_refl _ | (simp; done) | (simp; omega) | omega) hb1 (by first | exact Nat.le_refl _ | (simp; done) | (simp; omega) | omega)))
      go_meet
      exact ⟨rfl, hHeld⟩
    · have hA' : hasB a.1 a.2 n = false := by simpa using hA
      by_cases hB : hasB b.1 b.2 n = true
      · have hCn := HX1.out (by simp [hB])
        go_wp2_with (first
          | (go_at_call 29; refine (asB (within_any _ _ _) (by assumption)).mono ?_; rintro e w1 ⟨rfl, hb1⟩; first | have hHeld := keep_next hHeld hb1 (by first | exact Nat.le_refl _ | (simp; done) | (simp; omega) | omega) | have hHeld := keep_first hB0 (by first | exact Nat.le_refl _ | (simp; done) | (simp; omega) | omega) hb1 (by first | exact Nat.le_refl _ | (simp; done) | (simp; omega) | omega))
          | (go_at_call 14; refine (asB (has_any _ _ _ _) (by assumption)).mono ?_; rintro e w1 ⟨rfl, hb1⟩; first | have hHeld := keep_next hHeld hb1 (by first | exact Nat.le_refl _ | (simp; done) | (simp; omega) | omega) | have hHeld := keep_first hB0 (by first | exact Nat.le_refl _ | (simp; done) | (simp; omega) | omega) hb1 (by first | exact Nat.le_refl _ | (simp; done) | (simp; omega) | omega)))
        go_meet
        exact ⟨rfl, hHeld⟩
      · have hB' : hasB b.1 b.2 n = false := by simpa using hB
        go_wp2_with (first
          | (go_at_call 29; refine (asB (within_any _ _ _) (by assumption)).mono ?_; rintro e w1 ⟨rfl, hb1⟩; first | have hHeld := keep_next hHeld hb1 (by first | exact Nat.le_refl _ | (simp; done) | (simp; omega) | omega) | have hHeld := keep_first hB0 (by first | exact Nat.le_refl _ | (simp; done) | (simp; omega) | omega) hb1 (by first | exact Nat.le_refl _ | (simp; done) | (simp; omega) | omega))
          | (go_at_call 14; refine (asB (has_any _ _ _ _) (by assumption)).mono ?_; rintro e w1 ⟨rfl, hb1⟩; first | have hHeld := keep_next hHeld hb1 (by first | exact Nat.le_refl _ | (simp; done) | (simp; omega) | omega) | have hHeld := keep_first hB0 (by first | exact Nat.le_refl _ | (simp; done) | (simp; omega) | omega) hb1 (by first | exact Nat.le_refl _ | (simp; done) | (simp; omega) | omega)))
        go_meet
        exact ⟨rfl, hHeld⟩
  case rest =>
    obtain ⟨rfl, hHeld⟩ := hcut
    have hEC := HX2.out
    go_upto_region 4 with fail
    go_cut [45] (fun s wx => (s = .bool true ∧ (emptyB a.1 a.2 && emptyB b.1 b.2) = true ∨ s = .bool false ∧ (emptyB a.1 a.2 && emptyB b.1 b.2) = false) ∧ ((∀ b o, b < W0.heap.size → wx.cell? ⟨b, o, none⟩ = W0.cell? ⟨b, o, none⟩) ∧ W0.heap.size ≤ wx.heap.size ∧ Below w.heap.size w wx))
    case first =>
      by_cases hA : emptyB a.1 a.2 = true
      · go_wp2_with (first | (go_at_call 16; refine (empty_any _ _ _).mono ?_; rintro e w1 ⟨rfl, hb1⟩; first | have hHeld := keep_next hHeld hb1 (by first | exact Nat.le_refl _ | (simp; done) | (simp; omega) | omega) | have hHeld := keep_first hB0 (by first | exact Nat.le_refl _ | (simp; done) | (simp; omega) | omega) hb1 (by first | exact Nat.le_refl _ | (simp; done) | (simp; omega) | omega)))
        go_meet
        exact ⟨by cases hB : emptyB b.1 b.2 <;> simp [hA], hHeld⟩
      · have hA' : emptyB a.1 a.2 = false := by simpa using hA
        go_wp2_with (first | (go_at_call 16; refine (empty_any _ _ _).mono ?_; rintro e w1 ⟨rfl, hb1⟩; first | have hHeld := keep_next hHeld hb1 (by first | exact Nat.le_refl _ | (simp; done) | (simp; omega) | omega) | have hHeld := keep_first hB0 (by first | exact Nat.le_refl _ | (simp; done) | (simp; omega) | omega) hb1 (by first | exact Nat.le_refl _ | (simp; done) | (simp; omega) | omega)))
        go_meet
        exact ⟨by simp [hA'], hHeld⟩
    clear hHeld
    obtain ⟨hs, hHeld⟩ := hcut
    rcases hs with ⟨rfl, hEE⟩ | ⟨rfl, hEE⟩
    · have hEC' : emptyB c.1 c.2 = true := hEC.trans hEE
      clear hEC hEE
      go_wp2_with (first
          | (go_at_call 16; refine (asB (empty_any _ _ _) (by assumption)).mono ?_; rintro e w1 ⟨rfl, hb1⟩; first | have hHeld := keep_next hHeld hb1 (by first | exact Nat.le_refl _ | (simp; done) | (simp; omega) | omega) | have hHeld := keep_first hB0 (by first | exact Nat.le_refl _ | (simp; done) | (simp; omega) | omega) hb1 (by first | exact Nat.le_refl _ | (simp; done) | (simp; omega) | omega))
          | (go_at_call 22; refine (awake_any _).mono ?_; rintro e w1 ⟨rfl, hb1⟩; first | have hHeld := keep_next hHeld hb1 (by first | exact Nat.le_refl _ | (simp; done) | (simp; omega) | omega) | have hHeld := keep_first hB0 (by first | exact Nat.le_refl _ | (simp; done) | (simp; omega) | omega) hb1 (by first | exact Nat.le_refl _ | (simp; done) | (simp; omega) | omega)))
      go_ret
      exact ⟨rfl, hHeld.2.2⟩
    have HEE := Lib.hid hEE
    clear hEC hEE
    go_upto_region 6 with fail
    go_cut [8] (fun s wx => s = .bool true ∧ ((∀ b o, b < W0.heap.size → wx.cell? ⟨b, o, none⟩ = W0.cell? ⟨b, o, none⟩) ∧ W0.heap.size ≤ wx.heap.size ∧ Below w.heap.size w wx))
    case first =>
      by_cases hl : (c.1 == a.1) = true
      · by_cases hA : emptyB a.1 a.2 = true
        · obtain ⟨h1, h2⟩ := HX5.out HEE.out (by simp [hA])
          go_wp2_with (first
          | (go_at_call 16; refine (asB (empty_any _ _ _) (by assumption)).mono ?_; rintro e w1 ⟨rfl, hb1⟩; first | have hHeld := keep_next hHeld hb1 (by first | exact Nat.le_refl _ | (simp; done) | (simp; omega) | omega) | have hHeld := keep_first hB0 (by first | exact Nat.le_refl _ | (simp; done) | (simp; omega) | omega) hb1 (by first | exact Nat.le_refl _ | (simp; done) | (simp; omega) | omega))
          | (go_at_call 22; refine (awake_any _).mono ?_; rintro e w1 ⟨rfl, hb1⟩; first | have hHeld := keep_next hHeld hb1 (by first | exact Nat.le_refl _ | (simp; done) | (simp; omega) | omega) | have hHeld := keep_first hB0 (by first | exact Nat.le_refl _ | (simp; done) | (simp; omega) | omega) hb1 (by first | exact Nat.le_refl _ | (simp; done) | (simp; omega) | omega)))
          go_meet
          exact ⟨rfl, hHeld⟩
        · have hA' : emptyB a.1 a.2 = false := by simpa using hA
          go_wp2_with (first
          | (go_at_call 16; refine (asB (empty_any _ _ _) (by assumption)).mono ?_; rintro e w1 ⟨rfl, hb1⟩; first | have hHeld := keep_next hHeld hb1 (by first | exact Nat.le_refl _ | (simp; done) | (simp; omega) | omega) | have hHeld := keep_first hB0 (by first | exact Nat.le_refl _ | (simp; done) | (simp; omega) | omega) hb1 (by first | exact Nat.le_refl _ | (simp; done) | (simp; omega) | omega))
          | (go_at_call 22; refine (awake_any _).mono ?_; rintro e w1 ⟨rfl, hb1⟩; first | have hHeld := keep_next hHeld hb1 (by first | exact Nat.le_refl _ | (simp; done) | (simp; omega) | omega) | have hHeld := keep_first hB0 (by first | exact Nat.le_refl _ | (simp; done) | (simp; omega) | omega) hb1 (by first | exact Nat.le_refl _ | (simp; done) | (simp; omega) | omega)))
          go_meet
          exact ⟨rfl, hHeld⟩
      · have hl' : (c.1 == a.1) = false := by simpa using hl
        obtain ⟨h1, h2⟩ := HX5.out HEE.out (by rw [hl', Bool.false_and])
        go_wp2_with (first
          | (go_at_call 16; refine (asB (empty_any _ _ _) (by assumption)).mono ?_; rintro e w1 ⟨rfl, hb1⟩; first | have hHeld := keep_next hHeld hb1 (by first | exact Nat.le_refl _ | (simp; done) | (simp; omega) | omega) | have hHeld := keep_first hB0 (by first | exact Nat.le_refl _ | (simp; done) | (simp; omega) | omega) hb1 (by first | exact Nat.le_refl _ | (simp; done) | (simp; omega) | omega))
          | (go_at_call 22; refine (awake_any _).mono ?_; rintro e w1 ⟨rfl, hb1⟩; first | have hHeld := keep_next hHeld hb1 (by first | exact Nat.le_refl _ | (simp; done) | (simp; omega) | omega) | have hHeld := keep_first hB0 (by first | exact Nat.le_refl _ | (simp; done) | (simp; omega) | omega) hb1 (by first | exact Nat.le_refl _ | (simp; done) | (simp; omega) | omega)))
        go_meet
        exact ⟨rfl, hHeld⟩
    clear hHeld
    obtain ⟨rfl, hHeld⟩ := hcut
    go_upto_region 7 with fail
    go_cut [9] (fun s wx => s = .bool true ∧ ((∀ b o, b < W0.heap.size → wx.cell? ⟨b, o, none⟩ = W0.cell? ⟨b, o, none⟩) ∧ W0.heap.size ≤ wx.heap.size ∧ Below w.heap.size w wx))
    case first =>
      by_cases hl : (c.2 == a.2) = true
      · by_cases hA : emptyB a.1 a.2 = true
        · obtain ⟨h1, h2⟩ := HX6.out HEE.out (by simp [hA])
          go_wp2_with (first
          | (go_at_call 16; refine (asB (empty_any _ _ _) (by assumption)).mono ?_; rintro e w1 ⟨rfl, hb1⟩; first | have hHeld := keep_next hHeld hb1 (by first | exact Nat.le_refl _ | (simp; done) | (simp; omega) | omega) | have hHeld := keep_first hB0 (by first | exact Nat.le_refl _ | (simp; done) | (simp; omega) | omega) hb1 (by first | exact Nat.le_refl _ | (simp; done) | (simp; omega) | omega))
          | (go_at_call 22; refine (awake_any _).mono ?_; rintro e w1 ⟨rfl, hb1⟩; first | have hHeld := keep_next hHeld hb1 (by first | exact Nat.le_refl _ | (simp; done) | (simp; omega) | omega) | have hHeld := keep_first hB0 (by first | exact Nat.le_refl _ | (simp; done) | (simp; omega) | omega) hb1 (by first | exact Nat.le_refl _ | (simp; done) | (simp; omega) | omega)))
          go_meet
          exact ⟨rfl, hHeld⟩
        · have hA' : emptyB a.1 a.2 = false := by simpa using hA
          go_wp2_with (first
          | (go_at_call 16; refine (asB (empty_any _ _ _) (by assumption)).mono ?_; rintro e w1 ⟨rfl, hb1⟩; first | have hHeld := keep_next hHeld hb1 (by first | exact Nat.le_refl _ | (simp; done) | (simp; omega) | omega) | have hHeld := keep_first hB0 (by first | exact Nat.le_refl _ | (simp; done) | (simp; omega) | omega) hb1 (by first | exact Nat.le_refl _ | (simp; done) | (simp; omega) | omega))
          | (go_at_call 22; refine (awake_any _).mono ?_; rintro e w1 ⟨rfl, hb1⟩; first | have hHeld := keep_next hHeld hb1 (by first | exact Nat.le_refl _ | (simp; done) | (simp; omega) | omega) | have hHeld := keep_first hB0 (by first | exact Nat.le_refl _ | (simp; done) | (simp; omega) | omega) hb1 (by first | exact Nat.le_refl _ | (simp; done) | (simp; omega) | omega)))
          go_meet
          exact ⟨rfl, hHeld⟩
      · have hl' : (c.2 == a.2) = false := by simpa using hl
        obtain ⟨h1, h2⟩ := HX6.out HEE.out (by rw [hl', Bool.false_and])
        go_wp2_with (first
          | (go_at_call 16; refine (asB (empty_any _ _ _) (by assumption)).mono ?_; rintro e w1 ⟨rfl, hb1⟩; first | have hHeld := keep_next hHeld hb1 (by first | exact Nat.le_refl _ | (simp; done) | (simp; omega) | omega) | have hHeld := keep_first hB0 (by first | exact Nat.le_refl _ | (simp; done) | (simp; omega) | omega) hb1 (by first | exact Nat.le_refl _ | (simp; done) | (simp; omega) | omega))
          | (go_at_call 22; refine (awake_any _).mono ?_; rintro e w1 ⟨rfl, hb1⟩; first | have hHeld := keep_next hHeld hb1 (by first | exact Nat.le_refl _ | (simp; done) | (simp; omega) | omega) | have hHeld := keep_first hB0 (by first | exact Nat.le_refl _ | (simp; done) | (simp; omega) | omega) hb1 (by first | exact Nat.le_refl _ | (simp; done) | (simp; omega) | omega)))
        go_meet
        exact ⟨rfl, hHeld⟩
    clear hHeld
    obtain ⟨rfl, hHeld⟩ := hcut
    go_wp2_with fail
    refine wp_region_held_drew (S := (fun w' => (∀ b o, b < W0.heap.size → w'.cell? ⟨b, o, none⟩ = W0.cell? ⟨b, o, none⟩) ∧ W0.heap.size ≤ w'.heap.size ∧ Below w.heap.size w w')) (by kernel_rfl) ?_ (fun hHeld => ?_)
    · (try dsimp only); (first | assumption | exact keep_next (by assumption) (by assumption) (by first | exact Nat.le_refl _ | (simp; done) | (simp; omega) | omega) | exact keep_alloc (by assumption) (by first | exact Nat.le_refl _ | (simp; done) | (simp; omega) | omega) | exact keep_start (by assumption) (by first | assumption | omega) | exact keep_drew (by assumption))
    refine take_move 0 (Operand.tmp 8) rfl rfl (by first | exact .inl rfl | exact .inr rfl) rfl (by kernel_rfl) (by kernel_rfl) (by kernel_rfl) (fun _ _ _ h => h) (by assumption) ?_
    simp only [List.setIfInBounds_toArray, List.set_cons_zero, List.set_cons_succ]
    refine take_move 1 (Operand.tmp 95) rfl rfl (by first | exact .inl rfl | exact .inr rfl) rfl (by kernel_rfl) (by kernel_rfl) (by kernel_rfl) (fun _ _ _ h => h) (by assumption) ?_
    simp only [List.setIfInBounds_toArray, List.set_cons_zero, List.set_cons_succ]
    refine take_move 2 (Operand.tmp 9) rfl rfl (by first | exact .inl rfl | exact .inr rfl) rfl (by kernel_rfl) (by kernel_rfl) (by kernel_rfl) (fun _ _ _ h => h) (by assumption) ?_
    simp only [List.setIfInBounds_toArray, List.set_cons_zero, List.set_cons_succ]
    refine take_op (v := ?vu5x3) 3 (Op.pick (Operand.tmp 96) (Operand.tmp 97) (Operand.const (Value.bool false))) 4 rfl rfl rfl rfl rfl (by kernel_rfl) (by kernel_rfl) (by kernel_rfl) (fun _ _ _ h => h) ?yu5x3 (by assumption) ?ru5x3
    case yu5x3 => (intro w' hSw; (try dsimp only at hSw); go_simp; try (with_reducible rfl))
    simp only [List.setIfInBounds_toArray, List.set_cons_zero, List.set_cons_succ]
    refine take_move 4 (Operand.tmp 98) rfl rfl (by first | exact .inl rfl | exact .inr rfl) rfl (by kernel_rfl) (by kernel_rfl) (by kernel_rfl) (fun _ _ _ h => h) (by assumption) ?_
    simp only [List.setIfInBounds_toArray, List.set_cons_zero, List.set_cons_succ]
    refine take_op (v := ?vu5x5) 5 (Op.load 23 (Operand.tmp 4)) 23 rfl rfl rfl rfl rfl (by kernel_rfl) (by kernel_rfl) (by kernel_rfl) (fun _ _ _ h => h) ?yu5x5 (by assumption) ?ru5x5
    case yu5x5 => (intro w' hSw; (try dsimp only at hSw); go_simp; try (with_reducible rfl))
    simp only [List.setIfInBounds_toArray, List.set_cons_zero, List.set_cons_succ]
    refine take_op (v := ?vu5x6) 6 (Op.load 23 (Operand.tmp 3)) 23 rfl rfl rfl rfl rfl (by kernel_rfl) (by kernel_rfl) (by kernel_rfl) (fun _ _ _ h => h) ?yu5x6 (by assumption) ?ru5x6
    case yu5x6 => (intro w' hSw; (try dsimp only at hSw); go_simp; try (with_reducible rfl))
    simp only [List.setIfInBounds_toArray, List.set_cons_zero, List.set_cons_succ]
    refine take_op (v := ?vu5x9) 9 (Op.load 23 (Operand.tmp 7)) 23 rfl rfl rfl rfl rfl (by kernel_rfl) (by kernel_rfl) (by kernel_rfl) (fun _ _ _ h => h) ?yu5x9 (by assumption) ?ru5x9
    case yu5x9 => (intro w' hSw; (try dsimp only at hSw); go_simp; try (with_reducible rfl))
    simp only [List.setIfInBounds_toArray, List.set_cons_zero, List.set_cons_succ]
    refine' take_run 7 (Op.buildSlice 29 2 #[(0, Operand.tmp 100), (1, Operand.tmp 101)]) 29 (by kernel_rfl) rfl rfl rfl rfl rfl ?eu5x7 ?su5x7 (fun hHeld => ?ru5x7)
    case eu5x7 => (go_simp; try (first | with_reducible rfl | exact ⟨rfl, rfl⟩))
    case su5x7 => ((try dsimp only); (first | assumption | exact keep_next (by assumption) (by assumption) (by first | exact Nat.le_refl _ | (simp; done) | (simp; omega) | omega) | exact keep_alloc (by assumption) (by first | exact Nat.le_refl _ | (simp; done) | (simp; omega) | omega) | exact keep_start (by assumption) (by first | assumption | omega) | exact keep_drew (by assumption)))
    simp only [List.setIfInBounds_toArray, List.set_cons_zero, List.set_cons_succ]
    refine take_call 8 25 [Operand.tmp 102] #[29] (by kernel_rfl) rfl rfl rfl rfl (fun args w => run_enter Try.func25 (by kernel_rfl) rfl args w) ?_
    refine (asV (cover_any _ 2 2 [b, a] _ (by exact (rd_two (by repeat (first | with_reducible assumption | exact Blk.new _ _ _ | (simpa using Blk.new _ _ _) | with_reducible apply Blk.drewN | with_reducible apply Blk.drew | with_reducible apply Blk.alloc))).more (by first | exact Nat.le_refl _ | (simp; done) | (simp; omega) | omega)) (Nat.le_refl _) (by omega) (by omega)) (congrArg rv HC2.out)).mono ?_
    rintro e w1 ⟨rfl, hb1⟩
    refine ⟨_, rfl, ?_, fun hHeld => ?_⟩
    · (try dsimp only); (first | assumption | exact keep_next (by assumption) (by assumption) (by first | exact Nat.le_refl _ | (simp; done) | (simp; omega) | omega) | exact keep_alloc (by assumption) (by first | exact Nat.le_refl _ | (simp; done) | (simp; omega) | omega) | exact keep_start (by assumption) (by first | assumption | omega) | exact keep_drew (by assumption))
    simp only [List.setIfInBounds_toArray, List.set_cons_zero, List.set_cons_succ]
    refine take_op (v := ?vu5x10) 10 (Op.binOp BinOp.eql 23 (Operand.tmp 103) (Operand.tmp 104) 23) 4 rfl rfl rfl rfl rfl (by kernel_rfl) (by kernel_rfl) (by kernel_rfl) (fun _ _ _ h => h) ?yu5x10 (by assumption) ?ru5x10
    case yu5x10 => (intro w' hSw; (try dsimp only at hSw); go_simp; try (with_reducible rfl))
    simp only [List.setIfInBounds_toArray, List.set_cons_zero, List.set_cons_succ]
    refine take_op (v := ?vu5x11) 11 (Op.pick (Operand.tmp 99) (Operand.tmp 105) (Operand.const (Value.bool false))) 4 rfl rfl rfl rfl rfl (by kernel_rfl) (by kernel_rfl) (by kernel_rfl) (fun _ _ _ h => h) ?yu5x11 (by assumption) ?ru5x11
    case yu5x11 => (intro w' hSw; (try dsimp only at hSw); go_simp; try (with_reducible rfl))
    simp only [List.setIfInBounds_toArray, List.set_cons_zero, List.set_cons_succ]
    refine take_move 12 (Operand.tmp 106) rfl rfl (by first | exact .inl rfl | exact .inr rfl) rfl (by kernel_rfl) (by kernel_rfl) (by kernel_rfl) (fun _ _ _ h => h) (by assumption) ?_
    simp only [List.setIfInBounds_toArray, List.set_cons_zero, List.set_cons_succ]
    refine take_call 13 22 [] #[] (by kernel_rfl) rfl rfl rfl rfl (fun args w => run_enter Try.func22 (by kernel_rfl) rfl args w) ?_
    refine (awake_any _).mono ?_
    rintro e w1 ⟨rfl, hb1⟩
    refine ⟨_, rfl, ?_, fun hHeld => ?_⟩
    · (try dsimp only); (first | assumption | exact keep_next (by assumption) (by assumption) (by first | exact Nat.le_refl _ | (simp; done) | (simp; omega) | omega) | exact keep_alloc (by assumption) (by first | exact Nat.le_refl _ | (simp; done) | (simp; omega) | omega) | exact keep_start (by assumption) (by first | assumption | omega) | exact keep_drew (by assumption))
    simp only [List.setIfInBounds_toArray, List.set_cons_zero, List.set_cons_succ]
    refine take_op (v := ?vu5x14) 14 (Op.pick (Operand.tmp 107) (Operand.tmp 108) (Operand.const (Value.bool false))) 4 rfl rfl rfl rfl rfl (by kernel_rfl) (by kernel_rfl) (by kernel_rfl) (fun _ _ _ h => h) ?yu5x14 (by assumption) ?ru5x14
    case yu5x14 => (intro w' hSw; (try dsimp only at hSw); go_simp; try (with_reducible rfl))
    simp only [List.setIfInBounds_toArray, List.set_cons_zero, List.set_cons_succ]
    refine take_move 15 (Operand.tmp 109) rfl rfl (by first | exact .inl rfl | exact .inr rfl) rfl (by kernel_rfl) (by kernel_rfl) (by kernel_rfl) (fun _ _ _ h => h) (by assumption) ?_
    simp only [List.setIfInBounds_toArray, List.set_cons_zero, List.set_cons_succ]
    refine wpAnyH_done (by kernel_rfl) ?_ _
    go_wp2
    go_ret
    exact ⟨rfl, (‹(∀ b o, _ → _) ∧ _ ∧ _›).2.2⟩
end SpanW
end Go.Proofs.Ytehlgpfkpagaeaa
