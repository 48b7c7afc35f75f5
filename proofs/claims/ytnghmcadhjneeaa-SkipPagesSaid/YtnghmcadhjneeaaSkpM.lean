/- The walks of package skip: does what is asked meet numbers and times? The reference's walk of package skip: its numbers. The walks of package skip: need a block be read? -/
import Derived.Test.YtnghmcadhjneeaaSkpB
import Derived.Test.YtnghmcadhjneeaaSkpO
import Derived.Test.YtnghmcadhjneeaaSpanP
namespace Go.Proofs.Ytnghmcadhjneeaa
set_option linter.unusedVariables false
set_option linter.unusedSimpArgs false
set_option linter.unnecessarySimpa false
open Go.RowKit
namespace SkpW
open SpanW (R rv meetsB)

theorem sMeets_eq (p q : R) (v : Bool) (h : meetsB p q = v) (w : World) :
    Calls Try.prog 85 #[rv p, rv q] w fun e w' => e = .returned (.bool v) ∧ Below w.heap.size w w' := h ▸ SpanW.meets_any p q w
def meetsA (a : Qy × R) (s t : R) : Bool := meetsB a.2 s && meetsB (a.1.t1, a.1.t2) t
set_option maxRecDepth 100000 in
set_option maxHeartbeats 2000000 in
theorem meetsA_any (a : Qy × R) (s t : R) (b : Bool) (hb : meetsA a s t = b) (w : World) :
    Calls Try.prog 77 #[av a, rv s, rv t] w fun e w' => e = .returned (.bool b) ∧ Below w.heap.size w w' := by
  obtain ⟨⟨s1, s2, t1, t2, fd, li, fr⟩, r1, r2⟩ := a
  obtain ⟨u1, u2⟩ := s
  obtain ⟨v1, v2⟩ := t
  dsimp only [meetsA] at hb
  obtain ⟨x, hx⟩ : ∃ x, meetsB (r1, r2) (u1, u2) = x := ⟨_, rfl⟩
  obtain ⟨y, hy⟩ : ∃ y, meetsB (t1, t2) (v1, v2) = y := ⟨_, rfl⟩
  have C1 := fun w => sMeets_eq (r1, r2) (u1, u2) x hx w
  have C2 := fun w => sMeets_eq (t1, t2) (v1, v2) y hy w
  rw [hx, hy] at hb
  subst hb
  clear hx hy
  have b0 := ((Blk.new w 119 #[.int .i64 s1, .int .i64 s2, .int .i64 t1, .int .i64 t2, str fd, .int .i64 li, .int .i64 fr, .int .i64 r1, .int .i64 r2]).alloc (.cells #[.int .i64 u1, .int .i64 u2] 65)).alloc (.cells #[.int .i64 v1, .int .i64 v2] 65)
  have b1 := (Blk.new (w.alloc (.cells #[.int .i64 s1, .int .i64 s2, .int .i64 t1, .int .i64 t2, str fd, .int .i64 li, .int .i64 fr, .int .i64 r1, .int .i64 r2] 119)) 65 #[.int .i64 u1, .int .i64 u2]).alloc (.cells #[.int .i64 v1, .int .i64 v2] 65)
  have b2 := Blk.new ((w.alloc (.cells #[.int .i64 s1, .int .i64 s2, .int .i64 t1, .int .i64 t2, str fd, .int .i64 li, .int .i64 fr, .int .i64 r1, .int .i64 r2] 119)).alloc (.cells #[.int .i64 u1, .int .i64 u2] 65)) 65 #[.int .i64 v1, .int .i64 v2]
  simp only [World.size_alloc] at b1 b2
  have HB : Below w.heap.size w (((w.alloc (.cells #[.int .i64 s1, .int .i64 s2, .int .i64 t1, .int .i64 t2, str fd, .int .i64 li, .int .i64 fr, .int .i64 r1, .int .i64 r2] 119)).alloc (.cells #[.int .i64 u1, .int .i64 u2] 65)).alloc (.cells #[.int .i64 v1, .int .i64 v2] 65)) := (((Below.refl _ w).alloc (Nat.le_refl _) _).alloc (by simp) _).alloc (by simp only [World.size_alloc]; omega) _
  go_enter Try.func77, Try.ntmps77
  go_wp2_with fail
  refine (C1 _).mono ?_
  clear C1
  rintro e w1 ⟨rfl, hb1⟩
  replace b0 := b0.below hb1 b0.lt
  replace b2 := b2.below hb1 b2.lt
  replace HB := HB.trans (hb1.mono HB.size)
  clear hb1 b1
  cases x with
  | false =>
    go_wp2_with fail
    go_ret
    exact ⟨rfl, HB⟩
  | true =>
    obtain ⟨⟨c0, c1, c2, c3, c4, c5, c6, c7, c8⟩, _⟩ := blk9 b0
    obtain ⟨k0, k1, _, _, _⟩ := blk2 b2
    go_wp2_with fail
    refine (C2 _).mono ?_
    clear C2
    rintro e w2 ⟨rfl, hb2⟩
    replace HB := HB.trans (hb2.mono HB.size)
    go_wp2_with fail
    go_ret
    exact ⟨rfl, HB⟩
end SkpW
end Go.Proofs.Ytnghmcadhjneeaa

namespace Go.Proofs.Ytnghmcadhjneeaa
set_option linter.unusedVariables false
set_option linter.unusedSimpArgs false
set_option linter.unnecessarySimpa false
open Go.RowKit
namespace SkpW
open SpanW (R rv trimR)

theorem trim_norm (p : R) (f : Int) (h : p.2 ≤ 9223372036854775807) : trimR p f = SpanW.norm (max p.1 f, p.2) := by
  unfold trimR SpanW.norm
  rw [SpanW.both_two]
  dsimp only
  rw [show min p.2 9223372036854775807 = p.2 from by omega]
set_option maxRecDepth 100000 in
set_option maxHeartbeats 2000000 in
theorem refSeqs_any (q : Qy) (w : World) (h2 : q.s2 ≤ 9223372036854775807) :
    Calls Try.prog 40 #[qv q] w fun e w' => e = .returned (rv (ofQ q).2) ∧ Below w.heap.size w w' := by
  obtain ⟨e0, he⟩ : ∃ e, chkQ q = e := ⟨_, rfl⟩
  have C0 := fun w => refCheck_any q e0 he w
  have b0 := (Blk.new w 67 (qc q)).alloc (.cells #[.int .i64 0, .int .i64 0] 65)
  have b1 := Blk.new (w.alloc (.cells (qc q) 67)) 65 #[.int .i64 0, .int .i64 0]
  rw [World.size_alloc] at b1
  have HB : Below w.heap.size w ((w.alloc (.cells (qc q) 67)).alloc (.cells #[.int .i64 0, .int .i64 0] 65)) := hb2 w _ _
  by_cases hz : e0 = 0
  · subst hz
    rw [show (ofQ q).2 = trimR (q.s1, q.s2) q.frm from by unfold ofQ; rw [if_pos he]]
    have C1 := fun w => SpanW.refTrim_any (q.s1, q.s2) q.frm w
    rw [trim_norm (q.s1, q.s2) q.frm h2]
    dsimp only
    generalize SpanW.norm (max q.s1 q.frm, q.s2) = t at *
    obtain ⟨r1, r2⟩ := t
    go_enter Try.func40, Try.ntmps40
    go_wp2_with fail
    refine (C0 _).mono ?_
    clear C0
    rintro e w1 ⟨rfl, hb1⟩
    replace b0 := b0.below hb1 b0.lt
    replace b1 := b1.below hb1 b1.lt
    replace HB := HB.trans (hb1.mono HB.size)
    clear hb1
    obtain ⟨c0, c1, c2, c3, c4, c5, c6⟩ := blk7 b0
    go_wp2_with fail
    refine (C1 _).mono ?_
    clear C1
    rintro e w2 ⟨rfl, hb2⟩
    replace b1 := b1.below hb2 b1.lt
    replace HB := HB.trans (hb2.mono HB.size)
    clear hb2
    have b1' := b1
    obtain ⟨k0, k1, f0, f1, _⟩ := blk2 b1'
    clear b1'
    go_wp2_with fail
    refine bodyPost_ret (results_row1 rfl _ _ (w.heap.size + 1) 65 #[.int .i64 r1, .int .i64 r2] (0, 0) _ rfl (ret_rng (w := w) b1) Try.underlying65 rfl (by kernel_rfl)) rfl ?_
    exact ⟨rfl, (HB.setCell (p := ⟨w.heap.size + 1, 0, none⟩) (by simp) _).setCell (p := ⟨w.heap.size + 1, 1, none⟩) (by simp) _⟩
  · rw [show (ofQ q).2 = (1, 0) from by unfold ofQ; rw [if_neg (by rw [he]; exact hz)]]
    have hzI : (e0 != 0) = true := by simp [hz]
    go_enter Try.func40, Try.ntmps40
    go_wp2_with fail
    refine (C0 _).mono ?_
    clear C0
    rintro e w1 ⟨rfl, hb1⟩
    replace b1 := b1.below hb1 b1.lt
    replace HB := HB.trans (hb1.mono HB.size)
    clear hb1 b0
    have b1' := b1
    obtain ⟨k0, k1, f0, f1, _⟩ := blk2 b1'
    clear b1'
    go_wp2_with fail
    refine bodyPost_ret (results_row1 rfl _ _ (w.heap.size + 1) 65 #[.int .i64 1, .int .i64 0] (0, 0) _ rfl (ret_rng (w := w) b1) Try.underlying65 rfl (by kernel_rfl)) rfl ?_
    exact ⟨rfl, (HB.setCell (p := ⟨w.heap.size + 1, 0, none⟩) (by simp) _).setCell (p := ⟨w.heap.size + 1, 1, none⟩) (by simp) _⟩
end SkpW
end Go.Proofs.Ytnghmcadhjneeaa

namespace Go.Proofs.Ytnghmcadhjneeaa
set_option linter.unusedVariables false
set_option linter.unusedSimpArgs false
set_option linter.unnecessarySimpa false
open Go.RowKit
namespace SkpW
open SpanW (R rv meetsB emptyB)

theorem rMeets_eq (p q : R) (v : Bool) (h : meetsB p q = v) (w : World) :
    Calls Try.prog 80 #[rv p, rv q] w fun e w' => e = .returned (.bool v) ∧ Below w.heap.size w w' := by
  rw [← h, SpanW.meets_eq]
  exact SpanW.refMeets_any p q w
def blockB (q : Qy) (m : Me) : Bool := meetsA (ofQ q) (sM m.count m.first) (tM m.count m.early m.late)
theorem meets_no (s : R) : meetsB (1, 0) s = false := by rw [SpanW.meets_eq]; rfl
theorem meetsA_no (q : Qy) (h : ¬ chkQ q = 0) (s t : R) : meetsA (ofQ q) s t = false := by
  unfold meetsA ofQ
  rw [if_neg h]
  dsimp only
  rw [meets_no]
  rfl
theorem meetsA_yes (q : Qy) (h : chkQ q = 0) (s t : R) : meetsA (ofQ q) s t = (meetsB (ofQ q).2 s && meetsB (q.t1, q.t2) t) := by
  unfold meetsA ofQ
  rw [if_pos h]

set_option maxRecDepth 100000 in
set_option maxHeartbeats 4000000 in
theorem block_any (q : Qy) (m : Me) (v : Bool) (hv : blockB q m = v) (w : World) (hc : I64 m.count) (hf : I64 m.first) :
    Calls Try.prog 44 #[qv q, .agg (mc m)] w fun e w' => e = .returned (.bool v) ∧ Below w.heap.size w w' := by
  have C1 := Lib.hid (fun w => of_any q w)
  have C2 := Lib.hid (fun w => bseqs_any m w hc hf)
  have C3 := Lib.hid (fun w => ticks_any m w)
  unfold blockB at hv
  have C4 := Lib.hid (fun w => meetsA_any (ofQ q) (sM m.count m.first) (tM m.count m.early m.late) v hv w)
  clear hv
  generalize ofQ q = a at *
  generalize sM m.count m.first = s at *
  generalize tM m.count m.early m.late = t at *
  obtain ⟨m0, m1, m2, m3, m4, m5, m6⟩ := m
  have b0 := (Blk.new w 67 (qc q)).alloc (.cells (mc ⟨m0, m1, m2, m3, m4, m5, m6⟩) 78)
  have b1 := Blk.new (w.alloc (.cells (qc q) 67)) 78 (mc ⟨m0, m1, m2, m3, m4, m5, m6⟩)
  rw [World.size_alloc] at b1
  have HB : Below w.heap.size w ((w.alloc (.cells (qc q) 67)).alloc (.cells (mc ⟨m0, m1, m2, m3, m4, m5, m6⟩) 78)) := hb2 w _ _
  go_enter Try.func44, Try.ntmps44
  go_wp2_with fail
  refine wp_region_held_drew (S := (fun w' => (w'.cell? ⟨w.heap.size, 0, none⟩ = some (.int .i64 q.s1) ∧ w'.cell? ⟨w.heap.size, 1, none⟩ = some (.int .i64 q.s2) ∧ w'.cell? ⟨w.heap.size, 2, none⟩ = some (.int .i64 q.t1) ∧ w'.cell? ⟨w.heap.size, 3, none⟩ = some (.int .i64 q.t2) ∧ w'.cell? ⟨w.heap.size, 4, none⟩ = some (str q.find) ∧ w'.cell? ⟨w.heap.size, 5, none⟩ = some (.int .i64 q.limit) ∧ w'.cell? ⟨w.heap.size, 6, none⟩ = some (.int .i64 q.frm)) ∧ (w'.cell? ⟨w.heap.size + 1, 0, none⟩ = some (.int .i64 m0) ∧ w'.cell? ⟨w.heap.size + 1, 1, none⟩ = some (.int .i64 m1) ∧ w'.cell? ⟨w.heap.size + 1, 2, none⟩ = some (.int .i64 m2) ∧ w'.cell? ⟨w.heap.size + 1, 3, none⟩ = some (.int .i64 m3) ∧ w'.cell? ⟨w.heap.size + 1, 4, none⟩ = some (.int .i64 m4) ∧ w'.cell? ⟨w.heap.size + 1, 5, none⟩ = some (.int .i64 m5) ∧ w'.cell? ⟨w.heap.size + 1, 6, none⟩ = some (.int .i64 m6)))) (by kernel_rfl) ?_ (fun hHeld => ?_)
  · replace HB := Below.drew HB; replace b0 := Blk.drew b0; replace b1 := Blk.drew b1; (try dsimp only); exact ⟨blk7 b0, blk7 b1⟩
  replace HB := Below.drew HB
  replace b0 := Blk.drew b0
  replace b1 := Blk.drew b1
  have zHB := HB.size
  refine take_op (v := ?vu1x0) 0 (Op.load 67 (Operand.tmp 2)) 67 rfl rfl rfl rfl rfl (by kernel_rfl) (by kernel_rfl) (by kernel_rfl) (fun _ _ _ h => h) ?yu1x0 (by assumption) ?ru1x0
  case yu1x0 => (intro w' hSw; (try dsimp only at hSw); go_simp; try (with_reducible rfl))
  simp only [List.setIfInBounds_toArray, List.set_cons_zero, List.set_cons_succ]
  refine take_op (v := ?vu1x2) 2 (Op.load 78 (Operand.tmp 3)) 78 rfl rfl rfl rfl rfl (by kernel_rfl) (by kernel_rfl) (by kernel_rfl) (fun _ _ _ h => h) ?yu1x2 (by assumption) ?ru1x2
  case yu1x2 => (intro w' hSw; (try dsimp only at hSw); go_simp; try (with_reducible rfl))
  simp only [List.setIfInBounds_toArray, List.set_cons_zero, List.set_cons_succ]
  refine take_op (v := ?vu1x4) 4 (Op.load 78 (Operand.tmp 3)) 78 rfl rfl rfl rfl rfl (by kernel_rfl) (by kernel_rfl) (by kernel_rfl) (fun _ _ _ h => h) ?yu1x4 (by assumption) ?ru1x4
  case yu1x4 => (intro w' hSw; (try dsimp only at hSw); go_simp; try (with_reducible rfl))
  simp only [List.setIfInBounds_toArray, List.set_cons_zero, List.set_cons_succ]
  refine wpAnyH_ready (rs := [1]) (by kernel_rfl) (by simp) (AllReadyH.cons rfl (fun K1 hK1 => ?ku1x1) AllReadyH.nil)
  refine take_calls 1 69 [Operand.tmp 5] #[67] rfl rfl (by kernel_rfl) (fun args w => run_enter Try.func69 (by kernel_rfl) rfl args w) ?_
  refine (C1.out _).mono ?_
  rintro e w1 ⟨rfl, hb1⟩
  refine ⟨_, rfl, ?_⟩
  have z1 := hb1.size
  try simp only [World.size_drew] at z1
  replace HB := HB.trans (hb1.mono HB.size)
  have zHB1 := HB.size
  replace b0 := Blk.below b0 hb1 (by first | exact Nat.le_refl _ | (simp only [World.size_alloc, World.size_setCell, World.size_drew] at *; omega) | omega)
  replace b1 := Blk.below b1 hb1 (by first | exact Nat.le_refl _ | (simp only [World.size_alloc, World.size_setCell, World.size_drew] at *; omega) | omega)
  refine hK1.out _ _ ?su1x1 (fun hHeld => ?ru1x1)
  case su1x1 => ((try dsimp only); exact ⟨blk7 b0, blk7 b1⟩)
  try simp only [List.setIfInBounds_toArray, List.set_cons_zero, List.set_cons_succ]
  refine wpAnyH_ready (rs := [3]) (by kernel_rfl) (by simp) (AllReadyH.cons rfl (fun K3 hK3 => ?ku1x3) AllReadyH.nil)
  refine take_calls 3 78 [Operand.tmp 7] #[78] rfl rfl (by kernel_rfl) (fun args w => run_enter Try.func78 (by kernel_rfl) rfl args w) ?_
  refine (C2.out _).mono ?_
  rintro e w3 ⟨rfl, hb3⟩
  refine ⟨_, rfl, ?_⟩
  have z3 := hb3.size
  try simp only [World.size_drew] at z3
  replace HB := HB.trans (hb3.mono HB.size)
  have zHB3 := HB.size
  replace b0 := Blk.below b0 hb3 (by first | exact Nat.le_refl _ | (simp only [World.size_alloc, World.size_setCell, World.size_drew] at *; omega) | omega)
  replace b1 := Blk.below b1 hb3 (by first | exact Nat.le_refl _ | (simp only [World.size_alloc, World.size_setCell, World.size_drew] at *; omega) | omega)
  refine hK3.out _ _ ?su1x3 (fun hHeld => ?ru1x3)
  case su1x3 => ((try dsimp only); exact ⟨blk7 b0, blk7 b1⟩)
  try simp only [List.setIfInBounds_toArray, List.set_cons_zero, List.set_cons_succ]
  refine wpAnyH_ready (rs := [5]) (by kernel_rfl) (by simp) (AllReadyH.cons rfl (fun K5 hK5 => ?ku1x5) AllReadyH.nil)
  refine take_calls 5 79 [Operand.tmp 9] #[78] rfl rfl (by kernel_rfl) (fun args w => run_enter Try.func79 (by kernel_rfl) rfl args w) ?_
  refine (C3.out _).mono ?_
  rintro e w5 ⟨rfl, hb5⟩
  refine ⟨_, rfl, ?_⟩
  have z5 := hb5.size
  try simp only [World.size_drew] at z5
  replace HB := HB.trans (hb5.mono HB.size)
  have zHB5 := HB.size
  replace b0 := Blk.below b0 hb5 (by first | exact Nat.le_refl _ | (simp only [World.size_alloc, World.size_setCell, World.size_drew] at *; omega) | omega)
  replace b1 := Blk.below b1 hb5 (by first | exact Nat.le_refl _ | (simp only [World.size_alloc, World.size_setCell, World.size_drew] at *; omega) | omega)
  refine hK5.out _ _ ?su1x5 (fun hHeld => ?ru1x5)
  case su1x5 => ((try dsimp only); exact ⟨blk7 b0, blk7 b1⟩)
  try simp only [List.setIfInBounds_toArray, List.set_cons_zero, List.set_cons_succ]
  refine wpAnyH_ready (rs := [6]) (by kernel_rfl) (by simp) (AllReadyH.cons rfl (fun K6 hK6 => ?ku1x6) AllReadyH.nil)
  refine take_calls 6 77 [Operand.tmp 6, Operand.tmp 8, Operand.tmp 10] #[119, 65, 65] rfl rfl (by kernel_rfl) (fun args w => run_enter Try.func77 (by kernel_rfl) rfl args w) ?_
  refine (C4.out _).mono ?_
  rintro e w6 ⟨rfl, hb6⟩
  refine ⟨_, rfl, ?_⟩
  have z6 := hb6.size
  try simp only [World.size_drew] at z6
  replace HB := HB.trans (hb6.mono HB.size)
  have zHB6 := HB.size
  replace b0 := Blk.below b0 hb6 (by first | exact Nat.le_refl _ | (simp only [World.size_alloc, World.size_setCell, World.size_drew] at *; omega) | omega)
  replace b1 := Blk.below b1 hb6 (by first | exact Nat.le_refl _ | (simp only [World.size_alloc, World.size_setCell, World.size_drew] at *; omega) | omega)
  refine hK6.out _ _ ?su1x6 (fun hHeld => ?ru1x6)
  case su1x6 => ((try dsimp only); exact ⟨blk7 b0, blk7 b1⟩)
  try simp only [List.setIfInBounds_toArray, List.set_cons_zero, List.set_cons_succ]
  refine take_op (v := ?vu1x7) 7 (Op.assign (Operand.tmp 11)) 4 rfl rfl rfl rfl rfl (by kernel_rfl) (by kernel_rfl) (by kernel_rfl) (fun _ _ _ h => h) ?yu1x7 (by assumption) ?ru1x7
  case yu1x7 => (intro w' hSw; (try dsimp only at hSw); go_simp; try (with_reducible rfl))
  simp only [List.setIfInBounds_toArray, List.set_cons_zero, List.set_cons_succ]
  refine wpAnyH_done (by kernel_rfl) ?_ _
  go_wp2_with fail
  go_ret
  exact ⟨rfl, HB⟩

set_option maxRecDepth 100000 in
set_option maxHeartbeats 4000000 in
theorem refBlock_any (q : Qy) (m : Me) (v : Bool) (hv : blockB q m = v) (w : World) (h2 : q.s2 ≤ 9223372036854775807) (hc : I64 m.count) (hf : I64 m.first) :
    Calls Try.prog 45 #[qv q, .agg (mc m)] w fun e w' => e = .returned (.bool v) ∧ Below w.heap.size w w' := by
  have b0 := (Blk.new w 67 (qc q)).alloc (.cells (mc m) 78)
  have b1 := Blk.new (w.alloc (.cells (qc q) 67)) 78 (mc m)
  rw [World.size_alloc] at b1
  have HB : Below w.heap.size w ((w.alloc (.cells (qc q) 67)).alloc (.cells (mc m) 78)) := hb2 w _ _
  obtain ⟨e0, he⟩ : ∃ e, chkQ q = e := ⟨_, rfl⟩
  have C0 := Lib.hid (fun w => refCheck_any q e0 he w)
  unfold blockB at hv
  by_cases hz : e0 = 0
  · subst hz
    have C1 := Lib.hid (fun w => refSeqs_any q w h2)
    have C2 := Lib.hid (fun w => rseqs_any m w hc hf)
    have C3 := Lib.hid (fun w => refTicks_any m w)
    rw [meetsA_yes q he] at hv
    generalize (ofQ q).2 = a at *
    generalize sM m.count m.first = s at *
    generalize tM m.count m.early m.late = t at *
    obtain ⟨x, hx⟩ : ∃ x, meetsB a s = x := ⟨_, rfl⟩
    obtain ⟨y, hy⟩ : ∃ y, meetsB (q.t1, q.t2) t = y := ⟨_, rfl⟩
    have C4 := Lib.hid (fun w => rMeets_eq a s x hx w)
    have C5 := Lib.hid (fun w => rMeets_eq (q.t1, q.t2) t y hy w)
    rw [hx, hy] at hv
    subst hv
    clear hx hy he
    obtain ⟨m0, m1, m2, m3, m4, m5, m6⟩ := m
    cases x with
    | true =>
      go_enter Try.func45, Try.ntmps45
      go_wp2_with fail
      refine wp_region_held_drew (S := (fun w' => (w'.cell? ⟨w.heap.size, 0, none⟩ = some (.int .i64 q.s1) ∧ w'.cell? ⟨w.heap.size, 1, none⟩ = some (.int .i64 q.s2) ∧ w'.cell? ⟨w.heap.size, 2, none⟩ = some (.int .i64 q.t1) ∧ w'.cell? ⟨w.heap.size, 3, none⟩ = some (.int .i64 q.t2) ∧ w'.cell? ⟨w.heap.size, 4, none⟩ = some (str q.find) ∧ w'.cell? ⟨w.heap.size, 5, none⟩ = some (.int .i64 q.limit) ∧ w'.cell? ⟨w.heap.size, 6, none⟩ = some (.int .i64 q.frm)) ∧ (w'.cell? ⟨w.heap.size + 1, 0, none⟩ = some (.int .i64 m0) ∧ w'.cell? ⟨w.heap.size + 1, 1, none⟩ = some (.int .i64 m1) ∧ w'.cell? ⟨w.heap.size + 1, 2, none⟩ = some (.int .i64 m2) ∧ w'.cell? ⟨w.heap.size + 1, 3, none⟩ = some (.int .i64 m3) ∧ w'.cell? ⟨w.heap.size + 1, 4, none⟩ = some (.int .i64 m4) ∧ w'.cell? ⟨w.heap.size + 1, 5, none⟩ = some (.int .i64 m5) ∧ w'.cell? ⟨w.heap.size + 1, 6, none⟩ = some (.int .i64 m6)))) (by kernel_rfl) ?_ (fun hHeld => ?_)
      · replace HB := Below.drew HB; replace b0 := Blk.drew b0; replace b1 := Blk.drew b1; (try dsimp only); exact ⟨blk7 b0, blk7 b1⟩
      replace HB := Below.drew HB
      replace b0 := Blk.drew b0
      replace b1 := Blk.drew b1
      have zHB := HB.size
      refine take_op (v := ?vu2x0) 0 (Op.load 67 (Operand.tmp 2)) 67 rfl rfl rfl rfl rfl (by kernel_rfl) (by kernel_rfl) (by kernel_rfl) (fun _ _ _ h => h) ?yu2x0 (by assumption) ?ru2x0
      case yu2x0 => (intro w' hSw; (try dsimp only at hSw); go_simp; try (with_reducible rfl))
      simp only [List.setIfInBounds_toArray, List.set_cons_zero, List.set_cons_succ]
      refine wpAnyH_ready (rs := [1]) (by kernel_rfl) (by simp) (AllReadyH.cons rfl (fun K1 hK1 => ?ku2x1) AllReadyH.nil)
      refine take_calls 1 38 [Operand.tmp 5] #[67] rfl rfl (by kernel_rfl) (fun args w => run_enter Try.func38 (by kernel_rfl) rfl args w) ?_
      refine (C0.out _).mono ?_
      rintro e w1 ⟨rfl, hb1⟩
      refine ⟨_, rfl, ?_⟩
      have z1 := hb1.size
      try simp only [World.size_drew] at z1
      replace HB := HB.trans (hb1.mono HB.size)
      have zHB1 := HB.size
      replace b0 := Blk.below b0 hb1 (by first | exact Nat.le_refl _ | (simp only [World.size_alloc, World.size_setCell, World.size_drew] at *; omega) | omega)
      replace b1 := Blk.below b1 hb1 (by first | exact Nat.le_refl _ | (simp only [World.size_alloc, World.size_setCell, World.size_drew] at *; omega) | omega)
      refine hK1.out _ _ ?su2x1 (fun hHeld => ?ru2x1)
      case su2x1 => ((try dsimp only); exact ⟨blk7 b0, blk7 b1⟩)
      try simp only [List.setIfInBounds_toArray, List.set_cons_zero, List.set_cons_succ]
      refine take_op (v := ?vu2x2) 2 (Op.binOp BinOp.eql 3 (Operand.tmp 6) (Operand.const (Value.int IntKind.i64 0)) 3) 4 rfl rfl rfl rfl rfl (by kernel_rfl) (by kernel_rfl) (by kernel_rfl) (fun _ _ _ h => h) ?yu2x2 (by assumption) ?ru2x2
      case yu2x2 => (intro w' hSw; (try dsimp only at hSw); go_simp; try (with_reducible rfl))
      simp only [List.setIfInBounds_toArray, List.set_cons_zero, List.set_cons_succ]
      refine take_move 3 (Operand.tmp 7) rfl rfl (by first | exact .inl rfl | exact .inr rfl) rfl (by kernel_rfl) (by kernel_rfl) (by kernel_rfl) (fun _ _ _ h => h) (by assumption) ?_
      simp only [List.setIfInBounds_toArray, List.set_cons_zero, List.set_cons_succ]
      refine take_op (v := ?vu2x4) 4 (Op.load 67 (Operand.tmp 2)) 67 rfl rfl rfl rfl rfl (by kernel_rfl) (by kernel_rfl) (by kernel_rfl) (fun _ _ _ h => h) ?yu2x4 (by assumption) ?ru2x4
      case yu2x4 => (intro w' hSw; (try dsimp only at hSw); go_simp; try (with_reducible rfl))
      simp only [List.setIfInBounds_toArray, List.set_cons_zero, List.set_cons_succ]
      refine take_op (v := ?vu2x6) 6 (Op.load 78 (Operand.tmp 3)) 78 rfl rfl rfl rfl rfl (by kernel_rfl) (by kernel_rfl) (by kernel_rfl) (fun _ _ _ h => h) ?yu2x6 (by assumption) ?ru2x6
      case yu2x6 => (intro w' hSw; (try dsimp only at hSw); go_simp; try (with_reducible rfl))
      simp only [List.setIfInBounds_toArray, List.set_cons_zero, List.set_cons_succ]
      refine wpAnyH_ready (rs := [5]) (by kernel_rfl) (by simp) (AllReadyH.cons rfl (fun K5 hK5 => ?ku2x5) AllReadyH.nil)
      refine take_calls 5 40 [Operand.tmp 9] #[67] rfl rfl (by kernel_rfl) (fun args w => run_enter Try.func40 (by kernel_rfl) rfl args w) ?_
      refine (C1.out _).mono ?_
      rintro e w5 ⟨rfl, hb5⟩
      refine ⟨_, rfl, ?_⟩
      have z5 := hb5.size
      try simp only [World.size_drew] at z5
      replace HB := HB.trans (hb5.mono HB.size)
      have zHB5 := HB.size
      replace b0 := Blk.below b0 hb5 (by first | exact Nat.le_refl _ | (simp only [World.size_alloc, World.size_setCell, World.size_drew] at *; omega) | omega)
      replace b1 := Blk.below b1 hb5 (by first | exact Nat.le_refl _ | (simp only [World.size_alloc, World.size_setCell, World.size_drew] at *; omega) | omega)
      refine hK5.out _ _ ?su2x5 (fun hHeld => ?ru2x5)
      case su2x5 => ((try dsimp only); exact ⟨blk7 b0, blk7 b1⟩)
      try simp only [List.setIfInBounds_toArray, List.set_cons_zero, List.set_cons_succ]
      refine wpAnyH_ready (rs := [7]) (by kernel_rfl) (by simp) (AllReadyH.cons rfl (fun K7 hK7 => ?ku2x7) AllReadyH.nil)
      refine take_calls 7 81 [Operand.tmp 11] #[78] rfl rfl (by kernel_rfl) (fun args w => run_enter Try.func81 (by kernel_rfl) rfl args w) ?_
      refine (C2.out _).mono ?_
      rintro e w7 ⟨rfl, hb7⟩
      refine ⟨_, rfl, ?_⟩
      have z7 := hb7.size
      try simp only [World.size_drew] at z7
      replace HB := HB.trans (hb7.mono HB.size)
      have zHB7 := HB.size
      replace b0 := Blk.below b0 hb7 (by first | exact Nat.le_refl _ | (simp only [World.size_alloc, World.size_setCell, World.size_drew] at *; omega) | omega)
      replace b1 := Blk.below b1 hb7 (by first | exact Nat.le_refl _ | (simp only [World.size_alloc, World.size_setCell, World.size_drew] at *; omega) | omega)
      refine hK7.out _ _ ?su2x7 (fun hHeld => ?ru2x7)
      case su2x7 => ((try dsimp only); exact ⟨blk7 b0, blk7 b1⟩)
      try simp only [List.setIfInBounds_toArray, List.set_cons_zero, List.set_cons_succ]
      refine wpAnyH_ready (rs := [8]) (by kernel_rfl) (by simp) (AllReadyH.cons rfl (fun K8 hK8 => ?ku2x8) AllReadyH.nil)
      refine take_calls 8 80 [Operand.tmp 10, Operand.tmp 12] #[65, 65] rfl rfl (by kernel_rfl) (fun args w => run_enter Try.func80 (by kernel_rfl) rfl args w) ?_
      refine (C4.out _).mono ?_
      rintro e w8 ⟨rfl, hb8⟩
      refine ⟨_, rfl, ?_⟩
      have z8 := hb8.size
      try simp only [World.size_drew] at z8
      replace HB := HB.trans (hb8.mono HB.size)
      have zHB8 := HB.size
      replace b0 := Blk.below b0 hb8 (by first | exact Nat.le_refl _ | (simp only [World.size_alloc, World.size_setCell, World.size_drew] at *; omega) | omega)
      replace b1 := Blk.below b1 hb8 (by first | exact Nat.le_refl _ | (simp only [World.size_alloc, World.size_setCell, World.size_drew] at *; omega) | omega)
      refine hK8.out _ _ ?su2x8 (fun hHeld => ?ru2x8)
      case su2x8 => ((try dsimp only); exact ⟨blk7 b0, blk7 b1⟩)
      try simp only [List.setIfInBounds_toArray, List.set_cons_zero, List.set_cons_succ]
      refine take_op (v := ?vu2x9) 9 (Op.pick (Operand.tmp 8) (Operand.tmp 13) (Operand.const (Value.bool false))) 4 rfl rfl rfl rfl rfl (by kernel_rfl) (by kernel_rfl) (by kernel_rfl) (fun _ _ _ h => h) ?yu2x9 (by assumption) ?ru2x9
      case yu2x9 => (intro w' hSw; (try dsimp only at hSw); go_simp; try (with_reducible rfl))
      simp only [List.setIfInBounds_toArray, List.set_cons_zero, List.set_cons_succ]
      refine take_move 10 (Operand.tmp 14) rfl rfl (by first | exact .inl rfl | exact .inr rfl) rfl (by kernel_rfl) (by kernel_rfl) (by kernel_rfl) (fun _ _ _ h => h) (by assumption) ?_
      simp only [List.setIfInBounds_toArray, List.set_cons_zero, List.set_cons_succ]
      refine take_op (v := ?vu2x11) 11 (Op.fieldAddr 67 (Operand.tmp 2) 1) 0 rfl rfl rfl rfl rfl (by kernel_rfl) (by kernel_rfl) (by kernel_rfl) (fun _ _ _ h => h) ?yu2x11 (by assumption) ?ru2x11
      case yu2x11 => (intro w' hSw; (try dsimp only at hSw); go_simp; try (with_reducible rfl))
      simp only [List.setIfInBounds_toArray, List.set_cons_zero, List.set_cons_succ]
      refine take_op (v := ?vu2x12) 12 (Op.load 65 (Operand.tmp 16)) 65 rfl rfl rfl rfl rfl (by kernel_rfl) (by kernel_rfl) (by kernel_rfl) (fun _ _ _ h => h) ?yu2x12 (by assumption) ?ru2x12
      case yu2x12 => (intro w' hSw; (try dsimp only at hSw); go_simp; try (with_reducible rfl))
      simp only [List.setIfInBounds_toArray, List.set_cons_zero, List.set_cons_succ]
      refine take_op (v := ?vu2x13) 13 (Op.load 78 (Operand.tmp 3)) 78 rfl rfl rfl rfl rfl (by kernel_rfl) (by kernel_rfl) (by kernel_rfl) (fun _ _ _ h => h) ?yu2x13 (by assumption) ?ru2x13
      case yu2x13 => (intro w' hSw; (try dsimp only at hSw); go_simp; try (with_reducible rfl))
      simp only [List.setIfInBounds_toArray, List.set_cons_zero, List.set_cons_succ]
      refine wpAnyH_ready (rs := [14]) (by kernel_rfl) (by simp) (AllReadyH.cons rfl (fun K14 hK14 => ?ku2x14) AllReadyH.nil)
      refine take_calls 14 82 [Operand.tmp 18] #[78] rfl rfl (by kernel_rfl) (fun args w => run_enter Try.func82 (by kernel_rfl) rfl args w) ?_
      refine (C3.out _).mono ?_
      rintro e w14 ⟨rfl, hb14⟩
      refine ⟨_, rfl, ?_⟩
      have z14 := hb14.size
      try simp only [World.size_drew] at z14
      replace HB := HB.trans (hb14.mono HB.size)
      have zHB14 := HB.size
      replace b0 := Blk.below b0 hb14 (by first | exact Nat.le_refl _ | (simp only [World.size_alloc, World.size_setCell, World.size_drew] at *; omega) | omega)
      replace b1 := Blk.below b1 hb14 (by first | exact Nat.le_refl _ | (simp only [World.size_alloc, World.size_setCell, World.size_drew] at *; omega) | omega)
      refine hK14.out _ _ ?su2x14 (fun hHeld => ?ru2x14)
      case su2x14 => ((try dsimp only); exact ⟨blk7 b0, blk7 b1⟩)
      try simp only [List.setIfInBounds_toArray, List.set_cons_zero, List.set_cons_succ]
      refine wpAnyH_ready (rs := [15]) (by kernel_rfl) (by simp) (AllReadyH.cons rfl (fun K15 hK15 => ?ku2x15) AllReadyH.nil)
      refine take_calls 15 80 [Operand.tmp 17, Operand.tmp 19] #[65, 65] rfl rfl (by kernel_rfl) (fun args w => run_enter Try.func80 (by kernel_rfl) rfl args w) ?_
      refine (C5.out _).mono ?_
      rintro e w15 ⟨rfl, hb15⟩
      refine ⟨_, rfl, ?_⟩
      have z15 := hb15.size
      try simp only [World.size_drew] at z15
      replace HB := HB.trans (hb15.mono HB.size)
      have zHB15 := HB.size
      replace b0 := Blk.below b0 hb15 (by first | exact Nat.le_refl _ | (simp only [World.size_alloc, World.size_setCell, World.size_drew] at *; omega) | omega)
      replace b1 := Blk.below b1 hb15 (by first | exact Nat.le_refl _ | (simp only [World.size_alloc, World.size_setCell, World.size_drew] at *; omega) | omega)
      refine hK15.out _ _ ?su2x15 (fun hHeld => ?ru2x15)
      case su2x15 => ((try dsimp only); exact ⟨blk7 b0, blk7 b1⟩)
      try simp only [List.setIfInBounds_toArray, List.set_cons_zero, List.set_cons_succ]
      refine take_op (v := ?vu2x16) 16 (Op.pick (Operand.tmp 15) (Operand.tmp 20) (Operand.const (Value.bool false))) 4 rfl rfl rfl rfl rfl (by kernel_rfl) (by kernel_rfl) (by kernel_rfl) (fun _ _ _ h => h) ?yu2x16 (by assumption) ?ru2x16
      case yu2x16 => (intro w' hSw; (try dsimp only at hSw); go_simp; try (with_reducible rfl))
      simp only [List.setIfInBounds_toArray, List.set_cons_zero, List.set_cons_succ]
      refine take_op (v := ?vu2x17) 17 (Op.assign (Operand.tmp 21)) 4 rfl rfl rfl rfl rfl (by kernel_rfl) (by kernel_rfl) (by kernel_rfl) (fun _ _ _ h => h) ?yu2x17 (by assumption) ?ru2x17
      case yu2x17 => (intro w' hSw; (try dsimp only at hSw); go_simp; try (with_reducible rfl))
      simp only [List.setIfInBounds_toArray, List.set_cons_zero, List.set_cons_succ]
      refine wpAnyH_done (by kernel_rfl) ?_ _
      go_wp2_with fail
      go_ret
      exact ⟨rfl, HB⟩
    | false =>
      go_enter Try.func45, Try.ntmps45
      go_wp2_with fail
      refine wp_region_held_drew (S := (fun w' => (w'.cell? ⟨w.heap.size, 0, none⟩ = some (.int .i64 q.s1) ∧ w'.cell? ⟨w.heap.size, 1, none⟩ = some (.int .i64 q.s2) ∧ w'.cell? ⟨w.heap.size, 2, none⟩ = some (.int .i64 q.t1) ∧ w'.cell? ⟨w.heap.size, 3, none⟩ = some (.int .i64 q.t2) ∧ w'.cell? ⟨w.heap.size, 4, none⟩ = some (str q.find) ∧ w'.cell? ⟨w.heap.size, 5, none⟩ = some (.int .i64 q.limit) ∧ w'.cell? ⟨w.heap.size, 6, none⟩ = some (.int .i64 q.frm)) ∧ (w'.cell? ⟨w.heap.size + 1, 0, none⟩ = some (.int .i64 m0) ∧ w'.cell? ⟨w.heap.size + 1, 1, none⟩ = some (.int .i64 m1) ∧ w'.cell? ⟨w.heap.size + 1, 2, none⟩ = some (.int .i64 m2) ∧ w'.cell? ⟨w.heap.size + 1, 3, none⟩ = some (.int .i64 m3) ∧ w'.cell? ⟨w.heap.size + 1, 4, none⟩ = some (.int .i64 m4) ∧ w'.cell? ⟨w.heap.size + 1, 5, none⟩ = some (.int .i64 m5) ∧ w'.cell? ⟨w.heap.size + 1, 6, none⟩ = some (.int .i64 m6)))) (by kernel_rfl) ?_ (fun hHeld => ?_)
      · replace HB := Below.drew HB; replace b0 := Blk.drew b0; replace b1 := Blk.drew b1; (try dsimp only); exact ⟨blk7 b0, blk7 b1⟩
      replace HB := Below.drew HB
      replace b0 := Blk.drew b0
      replace b1 := Blk.drew b1
      have zHB := HB.size
      refine take_op (v := ?vu3x0) 0 (Op.load 67 (Operand.tmp 2)) 67 rfl rfl rfl rfl rfl (by kernel_rfl) (by kernel_rfl) (by kernel_rfl) (fun _ _ _ h => h) ?yu3x0 (by assumption) ?ru3x0
      case yu3x0 => (intro w' hSw; (try dsimp only at hSw); go_simp; try (with_reducible rfl))
      simp only [List.setIfInBounds_toArray, List.set_cons_zero, List.set_cons_succ]
      refine wpAnyH_ready (rs := [1]) (by kernel_rfl) (by simp) (AllReadyH.cons rfl (fun K1 hK1 => ?ku3x1) AllReadyH.nil)
      refine take_calls 1 38 [Operand.tmp 5] #[67] rfl rfl (by kernel_rfl) (fun args w => run_enter Try.func38 (by kernel_rfl) rfl args w) ?_
      refine (C0.out _).mono ?_
      rintro e w1 ⟨rfl, hb1⟩
      refine ⟨_, rfl, ?_⟩
      have z1 := hb1.size
      try simp only [World.size_drew] at z1
      replace HB := HB.trans (hb1.mono HB.size)
      have zHB1 := HB.size
      replace b0 := Blk.below b0 hb1 (by first | exact Nat.le_refl _ | (simp only [World.size_alloc, World.size_setCell, World.size_drew] at *; omega) | omega)
      replace b1 := Blk.below b1 hb1 (by first | exact Nat.le_refl _ | (simp only [World.size_alloc, World.size_setCell, World.size_drew] at *; omega) | omega)
      refine hK1.out _ _ ?su3x1 (fun hHeld => ?ru3x1)
      case su3x1 => ((try dsimp only); exact ⟨blk7 b0, blk7 b1⟩)
      try simp only [List.setIfInBounds_toArray, List.set_cons_zero, List.set_cons_succ]
      refine take_op (v := ?vu3x2) 2 (Op.binOp BinOp.eql 3 (Operand.tmp 6) (Operand.const (Value.int IntKind.i64 0)) 3) 4 rfl rfl rfl rfl rfl (by kernel_rfl) (by kernel_rfl) (by kernel_rfl) (fun _ _ _ h => h) ?yu3x2 (by assumption) ?ru3x2
      case yu3x2 => (intro w' hSw; (try dsimp only at hSw); go_simp; try (with_reducible rfl))
      simp only [List.setIfInBounds_toArray, List.set_cons_zero, List.set_cons_succ]
      refine take_move 3 (Operand.tmp 7) rfl rfl (by first | exact .inl rfl | exact .inr rfl) rfl (by kernel_rfl) (by kernel_rfl) (by kernel_rfl) (fun _ _ _ h => h) (by assumption) ?_
      simp only [List.setIfInBounds_toArray, List.set_cons_zero, List.set_cons_succ]
      refine take_op (v := ?vu3x4) 4 (Op.load 67 (Operand.tmp 2)) 67 rfl rfl rfl rfl rfl (by kernel_rfl) (by kernel_rfl) (by kernel_rfl) (fun _ _ _ h => h) ?yu3x4 (by assumption) ?ru3x4
      case yu3x4 => (intro w' hSw; (try dsimp only at hSw); go_simp; try (with_reducible rfl))
      simp only [List.setIfInBounds_toArray, List.set_cons_zero, List.set_cons_succ]
      refine take_op (v := ?vu3x6) 6 (Op.load 78 (Operand.tmp 3)) 78 rfl rfl rfl rfl rfl (by kernel_rfl) (by kernel_rfl) (by kernel_rfl) (fun _ _ _ h => h) ?yu3x6 (by assumption) ?ru3x6
      case yu3x6 => (intro w' hSw; (try dsimp only at hSw); go_simp; try (with_reducible rfl))
      simp only [List.setIfInBounds_toArray, List.set_cons_zero, List.set_cons_succ]
      refine wpAnyH_ready (rs := [5]) (by kernel_rfl) (by simp) (AllReadyH.cons rfl (fun K5 hK5 => ?ku3x5) AllReadyH.nil)
      refine take_calls 5 40 [Operand.tmp 9] #[67] rfl rfl (by kernel_rfl) (fun args w => run_enter Try.func40 (by kernel_rfl) rfl args w) ?_
      refine (C1.out _).mono ?_
      rintro e w5 ⟨rfl, hb5⟩
      refine ⟨_, rfl, ?_⟩
      have z5 := hb5.size
      try simp only [World.size_drew] at z5
      replace HB := HB.trans (hb5.mono HB.size)
      have zHB5 := HB.size
      replace b0 := Blk.below b0 hb5 (by first | exact Nat.le_refl _ | (simp only [World.size_alloc, World.size_setCell, World.size_drew] at *; omega) | omega)
      replace b1 := Blk.below b1 hb5 (by first | exact Nat.le_refl _ | (simp only [World.size_alloc, World.size_setCell, World.size_drew] at *; omega) | omega)
      refine hK5.out _ _ ?su3x5 (fun hHeld => ?ru3x5)
      case su3x5 => ((try dsimp only); exact ⟨blk7 b0, blk7 b1⟩)
      try simp only [List.setIfInBounds_toArray, List.set_cons_zero, List.set_cons_succ]
      refine wpAnyH_ready (rs := [7]) (by kernel_rfl) (by simp) (AllReadyH.cons rfl (fun K7 hK7 => ?ku3x7) AllReadyH.nil)
      refine take_calls 7 81 [Operand.tmp 11] #[78] rfl rfl (by kernel_rfl) (fun args w => run_enter Try.func81 (by kernel_rfl) rfl args w) ?_
      refine (C2.out _).mono ?_
      rintro e w7 ⟨rfl, hb7⟩
      refine ⟨_, rfl, ?_⟩
      have z7 := hb7.size
      try simp only [World.size_drew] at z7
      replace HB := HB.trans (hb7.mono HB.size)
      have zHB7 := HB.size
      replace b0 := Blk.below b0 hb7 (by first | exact Nat.le_refl _ | (simp only [World.size_alloc, World.size_setCell, World.size_drew] at *; omega) | omega)
      replace b1 := Blk.below b1 hb7 (by first | exact Nat.le_refl _ | (simp only [World.size_alloc, World.size_setCell, World.size_drew] at *; omega) | omega)
      refine hK7.out _ _ ?su3x7 (fun hHeld => ?ru3x7)
      case su3x7 => ((try dsimp only); exact ⟨blk7 b0, blk7 b1⟩)
      try simp only [List.setIfInBounds_toArray, List.set_cons_zero, List.set_cons_succ]
      refine wpAnyH_ready (rs := [8]) (by kernel_rfl) (by simp) (AllReadyH.cons rfl (fun K8 hK8 => ?ku3x8) AllReadyH.nil)
      refine take_calls 8 80 [Operand.tmp 10, Operand.tmp 12] #[65, 65] rfl rfl (by kernel_rfl) (fun args w => run_enter Try.func80 (by kernel_rfl) rfl args w) ?_
      refine (C4.out _).mono ?_
      rintro e w8 ⟨rfl, hb8⟩
      refine ⟨_, rfl, ?_⟩
      have z8 := hb8.size
      try simp only [World.size_drew] at z8
      replace HB := HB.trans (hb8.mono HB.size)
      have zHB8 := HB.size
      replace b0 := Blk.below b0 hb8 (by first | exact Nat.le_refl _ | (simp only [World.size_alloc, World.size_setCell, World.size_drew] at *; omega) | omega)
      replace b1 := Blk.below b1 hb8 (by first | exact Nat.le_refl _ | (simp only [World.size_alloc, World.size_setCell, World.size_drew] at *; omega) | omega)
      refine hK8.out _ _ ?su3x8 (fun hHeld => ?ru3x8)
      case su3x8 => ((try dsimp only); exact ⟨blk7 b0, blk7 b1⟩)
      try simp only [List.setIfInBounds_toArray, List.set_cons_zero, List.set_cons_succ]
      refine take_op (v := ?vu3x9) 9 (Op.pick (Operand.tmp 8) (Operand.tmp 13) (Operand.const (Value.bool false))) 4 rfl rfl rfl rfl rfl (by kernel_rfl) (by kernel_rfl) (by kernel_rfl) (fun _ _ _ h => h) ?yu3x9 (by assumption) ?ru3x9
      case yu3x9 => (intro w' hSw; (try dsimp only at hSw); go_simp; try (with_reducible rfl))
      simp only [List.setIfInBounds_toArray, List.set_cons_zero, List.set_cons_succ]
      refine take_move 10 (Operand.tmp 14) rfl rfl (by first | exact .inl rfl | exact .inr rfl) rfl (by kernel_rfl) (by kernel_rfl) (by kernel_rfl) (fun _ _ _ h => h) (by assumption) ?_
      simp only [List.setIfInBounds_toArray, List.set_cons_zero, List.set_cons_succ]
      refine take_skip 11 rfl rfl rfl (by kernel_rfl) (by kernel_rfl) (by kernel_rfl) (fun _ _ _ h => h) (by assumption) ?_
      simp only [List.setIfInBounds_toArray, List.set_cons_zero, List.set_cons_succ]
      refine take_skip 12 rfl rfl rfl (by kernel_rfl) (by kernel_rfl) (by kernel_rfl) (fun _ _ _ h => h) (by assumption) ?_
      simp only [List.setIfInBounds_toArray, List.set_cons_zero, List.set_cons_succ]
      refine take_skip 13 rfl rfl rfl (by kernel_rfl) (by kernel_rfl) (by kernel_rfl) (fun _ _ _ h => h) (by assumption) ?_
      simp only [List.setIfInBounds_toArray, List.set_cons_zero, List.set_cons_succ]
      refine take_skip 14 rfl rfl rfl (by kernel_rfl) (by kernel_rfl) (by kernel_rfl) (fun _ _ _ h => h) (by assumption) ?_
      simp only [List.setIfInBounds_toArray, List.set_cons_zero, List.set_cons_succ]
      refine take_skip 15 rfl rfl rfl (by kernel_rfl) (by kernel_rfl) (by kernel_rfl) (fun _ _ _ h => h) (by assumption) ?_
      simp only [List.setIfInBounds_toArray, List.set_cons_zero, List.set_cons_succ]
      refine take_op (v := ?vu3x16) 16 (Op.pick (Operand.tmp 15) (Operand.tmp 20) (Operand.const (Value.bool false))) 4 rfl rfl rfl rfl rfl (by kernel_rfl) (by kernel_rfl) (by kernel_rfl) (fun _ _ _ h => h) ?yu3x16 (by assumption) ?ru3x16
      case yu3x16 => (intro w' hSw; (try dsimp only at hSw); go_simp; try (with_reducible rfl))
      simp only [List.setIfInBounds_toArray, List.set_cons_zero, List.set_cons_succ]
      refine take_op (v := ?vu3x17) 17 (Op.assign (Operand.tmp 21)) 4 rfl rfl rfl rfl rfl (by kernel_rfl) (by kernel_rfl) (by kernel_rfl) (fun _ _ _ h => h) ?yu3x17 (by assumption) ?ru3x17
      case yu3x17 => (intro w' hSw; (try dsimp only at hSw); go_simp; try (with_reducible rfl))
      simp only [List.setIfInBounds_toArray, List.set_cons_zero, List.set_cons_succ]
      refine wpAnyH_done (by kernel_rfl) ?_ _
      go_wp2_with fail
      go_ret
      exact ⟨rfl, HB⟩
  · rw [meetsA_no q (by rw [he]; exact hz)] at hv
    subst hv
    have hzI : (e0 == 0) = false := by simp [hz]
    clear he
    obtain ⟨m0, m1, m2, m3, m4, m5, m6⟩ := m
    go_enter Try.func45, Try.ntmps45
    go_wp2_with fail
    refine wp_region_held_drew (S := (fun w' => (w'.cell? ⟨w.heap.size, 0, none⟩ = some (.int .i64 q.s1) ∧ w'.cell? ⟨w.heap.size, 1, none⟩ = some (.int .i64 q.s2) ∧ w'.cell? ⟨w.heap.size, 2, none⟩ = some (.int .i64 q.t1) ∧ w'.cell? ⟨w.heap.size, 3, none⟩ = some (.int .i64 q.t2) ∧ w'.cell? ⟨w.heap.size, 4, none⟩ = some (str q.find) ∧ w'.cell? ⟨w.heap.size, 5, none⟩ = some (.int .i64 q.limit) ∧ w'.cell? ⟨w.heap.size, 6, none⟩ = some (.int .i64 q.frm)) ∧ (w'.cell? ⟨w.heap.size + 1, 0, none⟩ = some (.int .i64 m0) ∧ w'.cell? ⟨w.heap.size + 1, 1, none⟩ = some (.int .i64 m1) ∧ w'.cell? ⟨w.heap.size + 1, 2, none⟩ = some (.int .i64 m2) ∧ w'.cell? ⟨w.heap.size + 1, 3, none⟩ = some (.int .i64 m3) ∧ w'.cell? ⟨w.heap.size + 1, 4, none⟩ = some (.int .i64 m4) ∧ w'.cell? ⟨w.heap.size + 1, 5, none⟩ = some (.int .i64 m5) ∧ w'.cell? ⟨w.heap.size + 1, 6, none⟩ = some (.int .i64 m6)))) (by kernel_rfl) ?_ (fun hHeld => ?_)
    · replace HB := Below.drew HB; replace b0 := Blk.drew b0; replace b1 := Blk.drew b1; (try dsimp only); exact ⟨blk7 b0, blk7 b1⟩
    replace HB := Below.drew HB
    replace b0 := Blk.drew b0
    replace b1 := Blk.drew b1
    have zHB := HB.size
    refine take_op (v := ?vu4x0) 0 (Op.load 67 (Operand.tmp 2)) 67 rfl rfl rfl rfl rfl (by kernel_rfl) (by kernel_rfl) (by kernel_rfl) (fun _ _ _ h => h) ?yu4x0 (by assumption) ?ru4x0
    case yu4x0 => (intro w' hSw; (try dsimp only at hSw); go_simp; try (with_reducible rfl))
    simp only [List.setIfInBounds_toArray, List.set_cons_zero, List.set_cons_succ]
    refine wpAnyH_ready (rs := [1]) (by kernel_rfl) (by simp) (AllReadyH.cons rfl (fun K1 hK1 => ?ku4x1) AllReadyH.nil)
    refine take_calls 1 38 [Operand.tmp 5] #[67] rfl rfl (by kernel_rfl) (fun args w => run_enter Try.func38 (by kernel_rfl) rfl args w) ?_
    refine (C0.out _).mono ?_
    rintro e w1 ⟨rfl, hb1⟩
    refine ⟨_, rfl, ?_⟩
    have z1 := hb1.size
    try simp only [World.size_drew] at z1
    replace HB := HB.trans (hb1.mono HB.size)
    have zHB1 := HB.size
    replace b0 := Blk.below b0 hb1 (by first | exact Nat.le_refl _ | (simp only [World.size_alloc, World.size_setCell, World.size_drew] at *; omega) | omega)
    replace b1 := Blk.below b1 hb1 (by first | exact Nat.le_refl _ | (simp only [World.size_alloc, World.size_setCell, World.size_drew] at *; omega) | omega)
    refine hK1.out _ _ ?su4x1 (fun hHeld => ?ru4x1)
    case su4x1 => ((try dsimp only); exact ⟨blk7 b0, blk7 b1⟩)
    try simp only [List.setIfInBounds_toArray, List.set_cons_zero, List.set_cons_succ]
    refine take_op (v := ?vu4x2) 2 (Op.binOp BinOp.eql 3 (Operand.tmp 6) (Operand.const (Value.int IntKind.i64 0)) 3) 4 rfl rfl rfl rfl rfl (by kernel_rfl) (by kernel_rfl) (by kernel_rfl) (fun _ _ _ h => h) ?yu4x2 (by assumption) ?ru4x2
    case yu4x2 => (intro w' hSw; (try dsimp only at hSw); go_simp; try (with_reducible rfl))
    simp only [List.setIfInBounds_toArray, List.set_cons_zero, List.set_cons_succ]
    refine take_move 3 (Operand.tmp 7) rfl rfl (by first | exact .inl rfl | exact .inr rfl) rfl (by kernel_rfl) (by kernel_rfl) (by kernel_rfl) (fun _ _ _ h => h) (by assumption) ?_
    simp only [List.setIfInBounds_toArray, List.set_cons_zero, List.set_cons_succ]
    refine take_skip 4 rfl rfl rfl (by kernel_rfl) (by kernel_rfl) (by kernel_rfl) (fun _ _ _ h => h) (by assumption) ?_
    simp only [List.setIfInBounds_toArray, List.set_cons_zero, List.set_cons_succ]
    refine take_skip 5 rfl rfl rfl (by kernel_rfl) (by kernel_rfl) (by kernel_rfl) (fun _ _ _ h => h) (by assumption) ?_
    simp only [List.setIfInBounds_toArray, List.set_cons_zero, List.set_cons_succ]
    refine take_skip 6 rfl rfl rfl (by kernel_rfl) (by kernel_rfl) (by kernel_rfl) (fun _ _ _ h => h) (by assumption) ?_
    simp only [List.setIfInBounds_toArray, List.set_cons_zero, List.set_cons_succ]
    refine take_skip 7 rfl rfl rfl (by kernel_rfl) (by kernel_rfl) (by kernel_rfl) (fun _ _ _ h => h) (by assumption) ?_
    simp only [List.setIfInBounds_toArray, List.set_cons_zero, List.set_cons_succ]
    refine take_skip 8 rfl rfl rfl (by kernel_rfl) (by kernel_rfl) (by kernel_rfl) (fun _ _ _ h => h) (by assumption) ?_
    simp only [List.setIfInBounds_toArray, List.set_cons_zero, List.set_cons_succ]
    refine take_op (v := ?vu4x9) 9 (Op.pick (Operand.tmp 8) (Operand.tmp 13) (Operand.const (Value.bool false))) 4 rfl rfl rfl rfl rfl (by kernel_rfl) (by kernel_rfl) (by kernel_rfl) (fun _ _ _ h => h) ?yu4x9 (by assumption) ?ru4x9
    case yu4x9 => (intro w' hSw; (try dsimp only at hSw); go_simp; try (with_reducible rfl))
    simp only [List.setIfInBounds_toArray, List.set_cons_zero, List.set_cons_succ]
    refine take_move 10 (Operand.tmp 14) rfl rfl (by first | exact .inl rfl | exact .inr rfl) rfl (by kernel_rfl) (by kernel_rfl) (by kernel_rfl) (fun _ _ _ h => h) (by assumption) ?_
    simp only [List.setIfInBounds_toArray, List.set_cons_zero, List.set_cons_succ]
    refine take_skip 11 rfl rfl rfl (by kernel_rfl) (by kernel_rfl) (by kernel_rfl) (fun _ _ _ h => h) (by assumption) ?_
    simp only [List.setIfInBounds_toArray, List.set_cons_zero, List.set_cons_succ]
    refine take_skip 12 rfl rfl rfl (by kernel_rfl) (by kernel_rfl) (by kernel_rfl) (fun _ _ _ h => h) (by assumption) ?_
    simp only [List.setIfInBounds_toArray, List.set_cons_zero, List.set_cons_succ]
    refine take_skip 13 rfl rfl rfl (by kernel_rfl) (by kernel_rfl) (by kernel_rfl) (fun _ _ _ h => h) (by assumption) ?_
    simp only [List.setIfInBounds_toArray, List.set_cons_zero, List.set_cons_succ]
    refine take_skip 14 rfl rfl rfl (by kernel_rfl) (by kernel_rfl) (by kernel_rfl) (fun _ _ _ h => h) (by assumption) ?_
    simp only [List.setIfInBounds_toArray, List.set_cons_zero, List.set_cons_succ]
    refine take_skip 15 rfl rfl rfl (by kernel_rfl) (by kernel_rfl) (by kernel_rfl) (fun _ _ _ h => h) (by assumption) ?_
    simp only [List.setIfInBounds_toArray, List.set_cons_zero, List.set_cons_succ]
    refine take_op (v := ?vu4x16) 16 (Op.pick (Operand.tmp 15) (Operand.tmp 20) (Operand.const (Value.bool false))) 4 rfl rfl rfl rfl rfl (by kernel_rfl) (by kernel_rfl) (by kernel_rfl) (fun _ _ _ h => h) ?yu4x16 (by assumption) ?ru4x16
    case yu4x16 => (intro w' hSw; (try dsimp only at hSw); go_simp; try (with_reducible rfl))
    simp only [List.setIfInBounds_toArray, List.set_cons_zero, List.set_cons_succ]
    refine take_op (v := ?vu4x17) 17 (Op.assign (Operand.tmp 21)) 4 rfl rfl rfl rfl rfl (by kernel_rfl) (by kernel_rfl) (by kernel_rfl) (fun _ _ _ h => h) ?yu4x17 (by assumption) ?ru4x17
    case yu4x17 => (intro w' hSw; (try dsimp only at hSw); go_simp; try (with_reducible rfl))
    simp only [List.setIfInBounds_toArray, List.set_cons_zero, List.set_cons_succ]
    refine wpAnyH_done (by kernel_rfl) ?_ _
    go_wp2_with fail
    go_ret
    exact ⟨rfl, HB⟩
end SkpW
end Go.Proofs.Ytnghmcadhjneeaa
