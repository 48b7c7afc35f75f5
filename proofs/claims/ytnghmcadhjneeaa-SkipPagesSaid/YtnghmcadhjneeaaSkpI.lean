/- The reference's walks on entries. The reference's walks on entries: numbers, times. -/
import Derived.Test.YtnghmcadhjneeaaSkpE
namespace Go.Proofs.Ytnghmcadhjneeaa
set_option linter.unusedVariables false
set_option linter.unusedSimpArgs false
set_option linter.unnecessarySimpa false
open Go.RowKit
namespace SkpW
open SpanW (R rv)

theorem zero_cases (e : En) : (zeroB e = false ∧ ((e.count != 0) = true ∨ (e.count = 0 ∧ (e.blocks != 0) = true) ∨ (e.count = 0 ∧ e.blocks = 0 ∧ (e.early != 0) = true) ∨ (e.count = 0 ∧ e.blocks = 0 ∧ e.early = 0 ∧ (e.late != 0) = true) ∨ (e.count = 0 ∧ e.blocks = 0 ∧ e.early = 0 ∧ e.late = 0 ∧ (e.bytes != 0) = true))) ∨
    (zeroB e = true ∧ e.count = 0 ∧ e.blocks = 0 ∧ e.early = 0 ∧ e.late = 0 ∧ e.bytes = 0) := by
  unfold zeroB
  simp only [bne_iff_ne, ne_eq, decide_eq_false_iff_not, decide_eq_true_eq]
  omega
theorem rseal_cases (e : En) : (sealB e = false ∧ (e.blocks < 1 ∨ (¬ e.blocks < 1 ∧ 1000 < e.blocks) ∨ (¬ e.blocks < 1 ∧ ¬ 1000 < e.blocks ∧ e.count < e.blocks) ∨ (¬ e.blocks < 1 ∧ ¬ 1000 < e.blocks ∧ ¬ e.count < e.blocks ∧ 1000000000 < e.count) ∨
    ((¬ e.blocks < 1 ∧ ¬ 1000 < e.blocks ∧ ¬ e.count < e.blocks ∧ ¬ 1000000000 < e.count) ∧ 1000000001 < e.frst + e.count) ∨
    ((¬ e.blocks < 1 ∧ ¬ 1000 < e.blocks ∧ ¬ e.count < e.blocks ∧ ¬ 1000000000 < e.count ∧ ¬ 1000000001 < e.frst + e.count) ∧ (e.early < 0 ∨ (¬ e.early < 0 ∧ e.late < e.early) ∨ (¬ e.early < 0 ∧ ¬ e.late < e.early ∧ 1000000000 < e.late) ∨
      (¬ e.early < 0 ∧ ¬ e.late < e.early ∧ ¬ 1000000000 < e.late ∧ e.bytes < 1) ∨ (¬ e.early < 0 ∧ ¬ e.late < e.early ∧ ¬ 1000000000 < e.late ∧ ¬ e.bytes < 1 ∧ 1000000 < e.bytes))))) ∨
    (sealB e = true ∧ (¬ e.blocks < 1 ∧ ¬ 1000 < e.blocks ∧ ¬ e.count < e.blocks ∧ ¬ 1000000000 < e.count ∧ ¬ 1000000001 < e.frst + e.count) ∧ ¬ e.early < 0 ∧ ¬ e.late < e.early ∧ ¬ 1000000000 < e.late ∧ ¬ e.bytes < 1 ∧ ¬ 1000000 < e.bytes) := by
  rcases seal_cases e with ⟨h, h2⟩ | ⟨h, h2⟩
  · refine .inl ⟨h, ?_⟩
    omega
  · refine .inr ⟨h, ?_⟩
    omega
set_option maxRecDepth 100000 in
set_option maxHeartbeats 8000000 in
theorem refEcheck_any (e0 : En) (v : Int) (hv : chkE e0 = v) (w : World) :
    Calls Try.prog 86 #[.agg (ec e0)] w fun e w' => e = .returned (.int .i64 v) ∧ Below w.heap.size w w' := by
  unfold chkE at hv
  have C0 := fun w => refHcheck_any e0 _ rfl w
  have HS := rseal_cases e0
  have HZ := zero_cases e0
  have HH : headB e0 = true → 1 ≤ e0.frst ∧ e0.frst ≤ 1000000000 := by
    unfold headB
    simp only [Bool.and_eq_true, decide_eq_true_eq]
    omega
  unfold chkH at C0
  generalize headB e0 = hd at *
  generalize sealB e0 = sl at *
  generalize zeroB e0 = zr at *
  obtain ⟨i, g, f, s, co, bl, ea, la, bs⟩ := e0
  dsimp only at hv HZ HS HH
  have b1 := Blk.new w 82 (ec ⟨i, g, f, s, co, bl, ea, la, bs⟩)
  have HB : Below w.heap.size w (w.alloc (.cells (ec ⟨i, g, f, s, co, bl, ea, la, bs⟩) 82)) := (Below.refl _ w).alloc (Nat.le_refl _) _
  have b1' := b1
  obtain ⟨⟨c0, c1, c2, c3, c4, c5, c6, c7, c8⟩, _⟩ := blk9 b1'
  clear b1'
  cases hd with
  | false =>
    subst hv
    clear HZ HS HH
    go_enter Try.func86, Try.ntmps86
    go_wp2_with fail
    refine (C0 _).mono ?_
    clear C0
    rintro e w1 ⟨rfl, hb1⟩
    replace HB := HB.trans (hb1.mono HB.size)
    clear hb1 c0 c1 c2 c3 c4 c5 c6 c7 c8
    go_wp2_with fail
    go_ret
    exact ⟨rfl, HB⟩
  | true =>
    cases s with
    | false =>
      clear HS HH
      have hv : (if zr = true then (0 : Int) else 240) = v := by simpa using hv
      subst hv
      rcases HZ with ⟨rfl, h | ⟨rfl, h⟩ | ⟨rfl, rfl, h⟩ | ⟨rfl, rfl, rfl, h⟩ | ⟨rfl, rfl, rfl, rfl, h⟩⟩ | ⟨rfl, rfl, rfl, rfl, rfl, rfl⟩
      all_goals
        clear c0 c1 c2 c3 c4 c5 c6 c7 c8
        go_enter Try.func86, Try.ntmps86
        go_wp2_with fail
        refine (C0 _).mono ?_
        clear C0
        rintro e w1 ⟨rfl, hb1⟩
        replace b1 := b1.below hb1 b1.lt
        replace HB := HB.trans (hb1.mono HB.size)
        clear hb1
        obtain ⟨⟨c0, c1, c2, c3, c4, c5, c6, c7, c8⟩, _⟩ := blk9 b1
        go_wp2_with fail
        go_ret
        exact ⟨rfl, HB⟩
    | true =>
      clear HZ
      obtain ⟨hf1, hf2⟩ := HH rfl
      clear HH
      have hv : (if sl = true then (0 : Int) else 240) = v := by simpa using hv
      subst hv
      rcases HS with ⟨rfl, h | ⟨h1, h⟩ | ⟨h1, h2, h⟩ | ⟨h1, h2, h3, h⟩ | ⟨⟨h1, h2, h3, h4⟩, h5⟩ | ⟨⟨h1, h2, h3, h4, h5⟩, h | ⟨g1, h⟩ | ⟨g1, g2, h⟩ | ⟨g1, g2, g3, h⟩ | ⟨g1, g2, g3, g4, h⟩⟩⟩ | ⟨rfl, ⟨h1, h2, h3, h4, h5⟩, g1, g2, g3, g4, h⟩
      iterate 4
        · clear hf1 hf2 c0 c1 c2 c3 c4 c5 c6 c7 c8
          go_enter Try.func86, Try.ntmps86
          go_wp2_with fail
          refine (C0 _).mono ?_
          clear C0
          rintro e w1 ⟨rfl, hb1⟩
          replace b1 := b1.below hb1 b1.lt
          replace HB := HB.trans (hb1.mono HB.size)
          clear hb1
          obtain ⟨⟨c0, c1, c2, c3, c4, c5, c6, c7, c8⟩, _⟩ := blk9 b1
          go_wp2_with fail
          go_ret
          exact ⟨rfl, HB⟩
      all_goals
        have hw1 : wrap64 (f + co) = f + co := by unfold wrap64; omega
        clear hf1 hf2 c0 c1 c2 c3 c4 c5 c6 c7 c8
        go_enter Try.func86, Try.ntmps86
        go_wp2_with fail
        refine (C0 _).mono ?_
        clear C0
        rintro e w1 ⟨rfl, hb1⟩
        replace b1 := b1.below hb1 b1.lt
        replace HB := HB.trans (hb1.mono HB.size)
        clear hb1
        obtain ⟨⟨c0, c1, c2, c3, c4, c5, c6, c7, c8⟩, _⟩ := blk9 b1
        go_wp2_with fail
        go_ret
        exact ⟨rfl, HB⟩
end SkpW
end Go.Proofs.Ytnghmcadhjneeaa

namespace Go.Proofs.Ytnghmcadhjneeaa
set_option linter.unusedVariables false
set_option linter.unusedSimpArgs false
set_option linter.unnecessarySimpa false
open Go.RowKit
namespace SkpW
open SpanW (R rv)

theorem sE_no (e : En) (h : ¬ (e.shut = true ∧ chkE e = 0)) : sE e = (1, 0) ∧ tE e = (1, 0) := by
  unfold sE tE metE
  have : ¬ (e.shut && decide (chkE e = 0)) = true := by simpa using h
  rw [if_neg this]
  exact ⟨rfl, rfl⟩
theorem sE_yes (e : En) (h1 : e.shut = true) (h2 : chkE e = 0) : sE e = (e.frst, wrap64 (wrap64 (e.frst + e.count) - 1)) ∧ tE e = (e.early, e.late) := by
  unfold sE tE metE
  have : (e.shut && decide (chkE e = 0)) = true := by simp [h1, h2]
  rw [if_pos this]
  have hb := chkE_le e h1 h2
  dsimp only
  unfold sM tM
  rw [if_neg (by omega), if_neg (by omega), if_neg (by omega)]
  refine ⟨?_, rfl⟩
  congr 1
  unfold wrap64
  omega
set_option maxRecDepth 100000 in
set_option maxHeartbeats 4000000 in
theorem refEseqs_any (e0 : En) (w : World) :
    Calls Try.prog 87 #[.agg (ec e0)] w fun e w' => e = .returned (rv (sE e0)) ∧ Below w.heap.size w w' := by
  have C0 := fun w => refEcheck_any e0 _ rfl w
  have HN := fun h => (sE_no e0 h).1
  have HY := fun h h' => (sE_yes e0 h h').1
  generalize sE e0 = rr at *
  generalize chkE e0 = v at *
  obtain ⟨i, g, f, s, co, bl, ea, la, bs⟩ := e0
  dsimp only at HN HY
  have b0 := (Blk.new w 82 (ec ⟨i, g, f, s, co, bl, ea, la, bs⟩)).alloc (.cells #[.int .i64 0, .int .i64 0] 65)
  have b1 := Blk.new (w.alloc (.cells (ec ⟨i, g, f, s, co, bl, ea, la, bs⟩) 82)) 65 #[.int .i64 0, .int .i64 0]
  rw [World.size_alloc] at b1
  have HB : Below w.heap.size w ((w.alloc (.cells (ec ⟨i, g, f, s, co, bl, ea, la, bs⟩) 82)).alloc (.cells #[.int .i64 0, .int .i64 0] 65)) := hb2 w _ _
  cases s with
  | false =>
    obtain rfl := HN (by simp)
    go_enter Try.func87, Try.ntmps87
    go_wp2_with fail
    refine bodyPost_ret (results_row1 rfl _ _ (w.heap.size + 1) 65 #[.int .i64 1, .int .i64 0] (0, 0) _ rfl (new2 _ _ _ _ _) Try.underlying65 rfl (by kernel_rfl)) rfl ?_
    exact ⟨rfl, hb2 _ _ _⟩
  | true =>
    go_enter Try.func87, Try.ntmps87
    go_wp2_with fail
    refine (C0 _).mono ?_
    clear C0
    rintro e w1 ⟨rfl, hb1⟩
    replace b0 := b0.below hb1 b0.lt
    replace b1 := b1.below hb1 b1.lt
    replace HB := HB.trans (hb1.mono HB.size)
    clear hb1
    obtain ⟨⟨c0, c1, c2, c3, c4, c5, c6, c7, c8⟩, _⟩ := blk9 b0
    have b1' := b1
    obtain ⟨k0, k1, f0, f1, _⟩ := blk2 b1'
    clear b1'
    by_cases hz : v = 0
    · subst hz
      obtain rfl := HY (by trivial) (by trivial)
      clear HN HY
      go_wp2_with fail
      refine bodyPost_ret (results_row1 rfl _ _ (w.heap.size + 1) 65 #[.int .i64 f, .int .i64 (wrap64 (wrap64 (f + co) - 1))] (0, 0) _ rfl (ret_rng (w := w) b1) Try.underlying65 rfl (by kernel_rfl)) rfl ?_
      exact ⟨rfl, (HB.setCell (p := ⟨w.heap.size + 1, 0, none⟩) (by simp) _).setCell (p := ⟨w.heap.size + 1, 1, none⟩) (by simp) _⟩
    · have hzI : (v != 0) = true := by simp [hz]
      obtain rfl := HN (by simp [hz])
      clear HN HY
      go_wp2_with fail
      refine bodyPost_ret (results_row1 rfl _ _ (w.heap.size + 1) 65 #[.int .i64 1, .int .i64 0] (0, 0) _ rfl (ret_rng (w := w) b1) Try.underlying65 rfl (by kernel_rfl)) rfl ?_
      exact ⟨rfl, (HB.setCell (p := ⟨w.heap.size + 1, 0, none⟩) (by simp) _).setCell (p := ⟨w.heap.size + 1, 1, none⟩) (by simp) _⟩
set_option maxRecDepth 100000 in
set_option maxHeartbeats 4000000 in
theorem refEticks_any (e0 : En) (w : World) :
    Calls Try.prog 88 #[.agg (ec e0)] w fun e w' => e = .returned (rv (tE e0)) ∧ Below w.heap.size w w' := by
  have C0 := fun w => refEcheck_any e0 _ rfl w
  have HN := fun h => (sE_no e0 h).2
  have HY := fun h h' => (sE_yes e0 h h').2
  generalize tE e0 = rr at *
  generalize chkE e0 = v at *
  obtain ⟨i, g, f, s, co, bl, ea, la, bs⟩ := e0
  dsimp only at HN HY
  have b0 := (Blk.new w 82 (ec ⟨i, g, f, s, co, bl, ea, la, bs⟩)).alloc (.cells #[.int .i64 0, .int .i64 0] 65)
  have b1 := Blk.new (w.alloc (.cells (ec ⟨i, g, f, s, co, bl, ea, la, bs⟩) 82)) 65 #[.int .i64 0, .int .i64 0]
  rw [World.size_alloc] at b1
  have HB : Below w.heap.size w ((w.alloc (.cells (ec ⟨i, g, f, s, co, bl, ea, la, bs⟩) 82)).alloc (.cells #[.int .i64 0, .int .i64 0] 65)) := hb2 w _ _
  cases s with
  | false =>
    obtain rfl := HN (by simp)
    go_enter Try.func88, Try.ntmps88
    go_wp2_with fail
    refine bodyPost_ret (results_row1 rfl _ _ (w.heap.size + 1) 65 #[.int .i64 1, .int .i64 0] (0, 0) _ rfl (new2 _ _ _ _ _) Try.underlying65 rfl (by kernel_rfl)) rfl ?_
    exact ⟨rfl, hb2 _ _ _⟩
  | true =>
    go_enter Try.func88, Try.ntmps88
    go_wp2_with fail
    refine (C0 _).mono ?_
    clear C0
    rintro e w1 ⟨rfl, hb1⟩
    replace b0 := b0.below hb1 b0.lt
    replace b1 := b1.below hb1 b1.lt
    replace HB := HB.trans (hb1.mono HB.size)
    clear hb1
    obtain ⟨⟨c0, c1, c2, c3, c4, c5, c6, c7, c8⟩, _⟩ := blk9 b0
    have b1' := b1
    obtain ⟨k0, k1, f0, f1, _⟩ := blk2 b1'
    clear b1'
    by_cases hz : v = 0
    · subst hz
      obtain rfl := HY (by trivial) (by trivial)
      clear HN HY
      go_wp2_with fail
      refine bodyPost_ret (results_row1 rfl _ _ (w.heap.size + 1) 65 #[.int .i64 ea, .int .i64 la] (0, 0) _ rfl (ret_rng (w := w) b1) Try.underlying65 rfl (by kernel_rfl)) rfl ?_
      exact ⟨rfl, (HB.setCell (p := ⟨w.heap.size + 1, 0, none⟩) (by simp) _).setCell (p := ⟨w.heap.size + 1, 1, none⟩) (by simp) _⟩
    · have hzI : (v != 0) = true := by simp [hz]
      obtain rfl := HN (by simp [hz])
      clear HN HY
      go_wp2_with fail
      refine bodyPost_ret (results_row1 rfl _ _ (w.heap.size + 1) 65 #[.int .i64 1, .int .i64 0] (0, 0) _ rfl (ret_rng (w := w) b1) Try.underlying65 rfl (by kernel_rfl)) rfl ?_
      exact ⟨rfl, (HB.setCell (p := ⟨w.heap.size + 1, 0, none⟩) (by simp) _).setCell (p := ⟨w.heap.size + 1, 1, none⟩) (by simp) _⟩
end SkpW
end Go.Proofs.Ytnghmcadhjneeaa
