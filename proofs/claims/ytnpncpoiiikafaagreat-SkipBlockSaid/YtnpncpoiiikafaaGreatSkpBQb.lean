/- The walks of package block: a block's numbers and times. -/
import Derived.Test.YtnpncpoiiikafaaGreatQyWQb
import Derived.Test.YtnpncpoiiikafaaGreatSpanWQb
namespace Go.Proofs.YtnpncpoiiikafaaGreat
set_option linter.unusedVariables false
set_option linter.unusedSimpArgs false
set_option linter.unnecessarySimpa false
open Go.RowKit
namespace SkpW
open SpanW (R rv)

/-- A block's directory entry: at, size, raw, count, first, early, late. -/
structure Me where
  at_ : Int
  size : Int
  raw : Int
  count : Int
  first : Int
  early : Int
  late : Int
abbrev mc (m : Me) : Array Value := #[.int .i64 m.at_, .int .i64 m.size, .int .i64 m.raw, .int .i64 m.count, .int .i64 m.first, .int .i64 m.early, .int .i64 m.late]
def sM (c f : Int) : R := if c < 1 then (1, 0) else if 9223372036854775807 - (c - 1) < f then (f, 9223372036854775807) else (f, f + (c - 1))
def tM (c a b : Int) : R := if c < 1 then (1, 0) else (a, b)
theorem new2 (w : World) (o : Obj) (t : TypeId) (a b : Value) : Blk ((w.alloc o).alloc (.cells #[a, b] t)) (w.heap.size + 1) t #[a, b] := by
  have := Blk.new (w.alloc o) t #[a, b]
  rwa [World.size_alloc] at this
theorem hb2 (w : World) (o p : Obj) : Below w.heap.size w ((w.alloc o).alloc p) := ((Below.refl _ w).alloc (Nat.le_refl _) _).alloc (by simp) _
theorem ret_rng {w w1 : World} {g : Nat} {a b c d : Value} (h : Blk w1 g 56 #[c, d]) : Blk ((w1.setCell ⟨g, 0, none⟩ a).setCell ⟨g, 1, none⟩ b) g 56 #[a, b] := blk_eq ((h.set 0 a).set 1 b) (by simp)

set_option maxRecDepth 100000 in
set_option maxHeartbeats 2000000 in
theorem ticks_any (m : Me) (w : World) :
    Calls Tryz.prog 74 #[.agg (mc m)] w fun e w' => e = .returned (rv (tM m.count m.early m.late)) ∧ Below w.heap.size w w' := by
  obtain ⟨m0, m1, m2, co, fi, ea, la⟩ := m
  have b0 := (Blk.new w 33 (mc ⟨m0, m1, m2, co, fi, ea, la⟩)).alloc (.cells #[.int .i64 0, .int .i64 0] 56)
  by_cases h : co < 1
  · rw [show tM co ea la = (1, 0) from by unfold tM; rw [if_pos h]]
    go_enter Tryz.func74, Tryz.ntmps74
    go_wp2_with fail
    refine bodyPost_ret (results_row1 rfl _ _ (w.heap.size + 1) 56 #[.int .i64 1, .int .i64 0] (0, 0) _ rfl (new2 _ _ _ _ _) Tryz.underlying56 rfl (by kernel_rfl)) rfl ?_
    exact ⟨rfl, hb2 _ _ _⟩
  · rw [show tM co ea la = (ea, la) from by unfold tM; rw [if_neg h]]
    go_enter Tryz.func74, Tryz.ntmps74
    go_wp2_with fail
    refine bodyPost_ret (results_row1 rfl _ _ (w.heap.size + 1) 56 #[.int .i64 ea, .int .i64 la] (0, 0) _ rfl (new2 _ _ _ _ _) Tryz.underlying56 rfl (by kernel_rfl)) rfl ?_
    exact ⟨rfl, hb2 _ _ _⟩
theorem bseqs_cases (c f : Int) (hc : I64 c) (hf : I64 f) : (c < 1 ∧ sM c f = (1, 0)) ∨ (¬ c < 1 ∧ 9223372036854775807 - (c - 1) < f ∧ sM c f = (f, 9223372036854775807)) ∨ (¬ c < 1 ∧ ¬ 9223372036854775807 - (c - 1) < f ∧ sM c f = (f, f + (c - 1)) ∧ wrap64 (f + (c - 1)) = f + (c - 1)) := by
  obtain ⟨_, _⟩ := hc
  obtain ⟨_, _⟩ := hf
  unfold sM
  by_cases h1 : c < 1
  · exact .inl ⟨h1, if_pos h1⟩
  · by_cases h2 : 9223372036854775807 - (c - 1) < f
    · exact .inr (.inl ⟨h1, h2, by rw [if_neg h1, if_pos h2]⟩)
    · exact .inr (.inr ⟨h1, h2, by rw [if_neg h1, if_neg h2], by unfold wrap64; omega⟩)
set_option maxRecDepth 100000 in
set_option maxHeartbeats 2000000 in
theorem bseqs_any (m : Me) (w : World) (hc : I64 m.count) (hf : I64 m.first) :
    Calls Tryz.prog 73 #[.agg (mc m)] w fun e w' => e = .returned (rv (sM m.count m.first)) ∧ Below w.heap.size w w' := by
  obtain ⟨m0, m1, m2, co, fi, ea, la⟩ := m
  have b0 := (Blk.new w 33 (mc ⟨m0, m1, m2, co, fi, ea, la⟩)).alloc (.cells #[.int .i64 0, .int .i64 0] 56)
  dsimp only at hc hf
  rcases bseqs_cases co fi hc hf with ⟨h, hs⟩ | ⟨h, h2, hs⟩ | ⟨h, h2, hs, hw⟩
  · obtain ⟨_, _⟩ := hc
    rw [hs]
    go_enter Tryz.func73, Tryz.ntmps73
    go_wp2_with fail
    refine bodyPost_ret (results_row1 rfl _ _ (w.heap.size + 1) 56 #[.int .i64 1, .int .i64 0] (0, 0) _ rfl (new2 _ _ _ _ _) Tryz.underlying56 rfl (by kernel_rfl)) rfl ?_
    exact ⟨rfl, hb2 _ _ _⟩
  · obtain ⟨hc1, hc2⟩ := hc
    have hw1 : wrap64 (co - 1) = co - 1 := by unfold wrap64; omega
    have hw2 : wrap64 (9223372036854775807 - (co - 1)) = 9223372036854775807 - (co - 1) := by unfold wrap64; omega
    rw [hs]
    go_enter Tryz.func73, Tryz.ntmps73
    go_wp2_with fail
    refine bodyPost_ret (results_row1 rfl _ _ (w.heap.size + 1) 56 #[.int .i64 fi, .int .i64 9223372036854775807] (0, 0) _ rfl (new2 _ _ _ _ _) Tryz.underlying56 rfl (by kernel_rfl)) rfl ?_
    exact ⟨rfl, hb2 _ _ _⟩
  · obtain ⟨hc1, hc2⟩ := hc
    have hw1 : wrap64 (co - 1) = co - 1 := by unfold wrap64; omega
    have hw2 : wrap64 (9223372036854775807 - (co - 1)) = 9223372036854775807 - (co - 1) := by unfold wrap64; omega
    rw [hs]
    go_enter Tryz.func73, Tryz.ntmps73
    go_wp2_with fail
    refine bodyPost_ret (results_row1 rfl _ _ (w.heap.size + 1) 56 #[.int .i64 fi, .int .i64 (fi + (co - 1))] (0, 0) _ rfl (new2 _ _ _ _ _) Tryz.underlying56 rfl (by kernel_rfl)) rfl ?_
    exact ⟨rfl, hb2 _ _ _⟩
end SkpW
end Go.Proofs.YtnpncpoiiikafaaGreat

namespace Go.Proofs.YtnpncpoiiikafaaGreat
set_option linter.unusedVariables false
open Go.RowKit
namespace SpanW

theorem both_two (p q : R) : foldR narrow [p, q] = if min p.2 q.2 < max p.1 q.1 then (1, 0) else (max p.1 q.1, min p.2 q.2) := rfl

theorem meets_eq (p q : R) : meetsB p q = (!emptyB p.1 p.2 && (!emptyB q.1 q.2 && (decide (p.1 ≤ q.2) && decide (q.1 ≤ p.2)))) := by
  simp only [meetsB, both_two, emptyB]
  rw [Bool.eq_iff_iff]
  split <;> simp <;> omega

end SpanW
end Go.Proofs.YtnpncpoiiikafaaGreat

namespace Go.Proofs.YtnpncpoiiikafaaGreat
set_option linter.unusedVariables false
set_option linter.unusedSimpArgs false
set_option linter.unnecessarySimpa false
open Go.RowKit
namespace SkpW
open SpanW (R rv meetsB)

theorem sMeets_eq (p q : R) (v : Bool) (h : meetsB p q = v) (w : World) :
    Calls Tryz.prog 120 #[rv p, rv q] w fun e w' => e = .returned (.bool v) ∧ Below w.heap.size w w' := h ▸ SpanW.meets_any p q w
def meetsA (a : Qy × R) (s t : R) : Bool := meetsB a.2 s && meetsB (a.1.t1, a.1.t2) t
set_option maxRecDepth 100000 in
set_option maxHeartbeats 2000000 in
theorem meetsA_any (a : Qy × R) (s t : R) (b : Bool) (hb : meetsA a s t = b) (w : World) :
    Calls Tryz.prog 72 #[av a, rv s, rv t] w fun e w' => e = .returned (.bool b) ∧ Below w.heap.size w w' := by
  obtain ⟨⟨s1, s2, t1, t2, fd, li, fr⟩, r1, r2⟩ := a
  obtain ⟨u1, u2⟩ := s
  obtain ⟨v1, v2⟩ := t
  dsimp only [meetsA] at hb
  obtain ⟨x, hx⟩ : ∃ x, meetsB (r1, r2) (u1, u2) = x := ⟨_, rfl⟩
  obtain ⟨y, hy⟩ : ∃ y, meetsB (t1, t2) (v1, v2) = y := ⟨_, rfl⟩
  have C1 := fun w => sMeets_eq (r1, r2) (u1, u2) x hx w
  have C2 := fun w => sMeets_eq (t1, t2) (v1, v2) y hy w
  rw [hx, hy] at hb
  subst hb
  clear hx hy
  have b0 := ((Blk.new w 129 #[.int .i64 s1, .int .i64 s2, .int .i64 t1, .int .i64 t2, str fd, .int .i64 li, .int .i64 fr, .int .i64 r1, .int .i64 r2]).alloc (.cells #[.int .i64 u1, .int .i64 u2] 56)).alloc (.cells #[.int .i64 v1, .int .i64 v2] 56)
  have b1 := (Blk.new (w.alloc (.cells #[.int .i64 s1, .int .i64 s2, .int .i64 t1, .int .i64 t2, str fd, .int .i64 li, .int .i64 fr, .int .i64 r1, .int .i64 r2] 129)) 56 #[.int .i64 u1, .int .i64 u2]).alloc (.cells #[.int .i64 v1, .int .i64 v2] 56)
  have b2 := Blk.new ((w.alloc (.cells #[.int .i64 s1, .int .i64 s2, .int .i64 t1, .int .i64 t2, str fd, .int .i64 li, .int .i64 fr, .int .i64 r1, .int .i64 r2] 129)).alloc (.cells #[.int .i64 u1, .int .i64 u2] 56)) 56 #[.int .i64 v1, .int .i64 v2]
  simp only [World.size_alloc] at b1 b2
  have HB : Below w.heap.size w (((w.alloc (.cells #[.int .i64 s1, .int .i64 s2, .int .i64 t1, .int .i64 t2, str fd, .int .i64 li, .int .i64 fr, .int .i64 r1, .int .i64 r2] 129)).alloc (.cells #[.int .i64 u1, .int .i64 u2] 56)).alloc (.cells #[.int .i64 v1, .int .i64 v2] 56)) := (((Below.refl _ w).alloc (Nat.le_refl _) _).alloc (by simp) _).alloc (by simp only [World.size_alloc]; omega) _
  go_enter Tryz.func72, Tryz.ntmps72
  go_wp2_with fail
  refine (C1 _).mono ?_
  clear C1
  rintro e w1 ⟨rfl, hb1⟩
  replace b0 := b0.below hb1 b0.lt
  replace b2 := b2.below hb1 b2.lt
  replace HB := HB.trans (hb1.mono HB.size)
  clear hb1 b1
  cases x with
  | false =>
    go_wp2_with fail
    go_ret
    exact ⟨rfl, HB⟩
  | true =>
    obtain ⟨⟨c0, c1, c2, c3, c4, c5, c6, c7, c8⟩, _⟩ := blk9 b0
    obtain ⟨k0, k1, _, _, _⟩ := blk2 b2
    go_wp2_with fail
    refine (C2 _).mono ?_
    clear C2
    rintro e w2 ⟨rfl, hb2⟩
    replace HB := HB.trans (hb2.mono HB.size)
    go_wp2_with fail
    go_ret
    exact ⟨rfl, HB⟩
end SkpW
end Go.Proofs.YtnpncpoiiikafaaGreat

namespace Go.Proofs.YtnpncpoiiikafaaGreat
set_option linter.unusedVariables false
set_option linter.unusedSimpArgs false
set_option linter.unnecessarySimpa false
open Go.RowKit
namespace SkpW
open SpanW (R rv trimR)

end SkpW
end Go.Proofs.YtnpncpoiiikafaaGreat

namespace Go.Proofs.YtnpncpoiiikafaaGreat
set_option linter.unusedVariables false
set_option linter.unusedSimpArgs false
set_option linter.unnecessarySimpa false
open Go.RowKit
namespace SkpW
open SpanW (R rv meetsB emptyB)

def blockB (q : Qy) (m : Me) : Bool := meetsA (ofQ q) (sM m.count m.first) (tM m.count m.early m.late)
set_option maxRecDepth 100000 in
set_option maxHeartbeats 4000000 in
theorem block_any (q : Qy) (m : Me) (v : Bool) (hv : blockB q m = v) (w : World) (hc : I64 m.count) (hf : I64 m.first) :
    Calls Tryz.prog 26 #[qv q, .agg (mc m)] w fun e w' => e = .returned (.bool v) ∧ Below w.heap.size w w' := by
  have C1 := Lib.hid (fun w => of_any q w)
  have C2 := Lib.hid (fun w => bseqs_any m w hc hf)
  have C3 := Lib.hid (fun w => ticks_any m w)
  unfold blockB at hv
  have C4 := Lib.hid (fun w => meetsA_any (ofQ q) (sM m.count m.first) (tM m.count m.early m.late) v hv w)
  clear hv
  generalize ofQ q = a at *
  generalize sM m.count m.first = s at *
  generalize tM m.count m.early m.late = t at *
  obtain ⟨m0, m1, m2, m3, m4, m5, m6⟩ := m
  have b0 := (Blk.new w 58 (qc q)).alloc (.cells (mc ⟨m0, m1, m2, m3, m4, m5, m6⟩) 33)
  have b1 := Blk.new (w.alloc (.cells (qc q) 58)) 33 (mc ⟨m0, m1, m2, m3, m4, m5, m6⟩)
  rw [World.size_alloc] at b1
  have HB : Below w.heap.size w ((w.alloc (.cells (qc q) 58)).alloc (.cells (mc ⟨m0, m1, m2, m3, m4, m5, m6⟩) 33)) := hb2 w _ _
  go_enter Tryz.func26, Tryz.ntmps26
  go_wp2_with fail
  refine wp_region_held_drew (S := (fun w' => (w'.cell? ⟨w.heap.size, 0, none⟩ = some (.int .i64 q.s1) ∧ w'.cell? ⟨w.heap.size, 1, none⟩ = some (.int .i64 q.s2) ∧ w'.cell? ⟨w.heap.size, 2, none⟩ = some (.int .i64 q.t1) ∧ w'.cell? ⟨w.heap.size, 3, none⟩ = some (.int .i64 q.t2) ∧ w'.cell? ⟨w.heap.size, 4, none⟩ = some (str q.find) ∧ w'.cell? ⟨w.heap.size, 5, none⟩ = some (.int .i64 q.limit) ∧ w'.cell? ⟨w.heap.size, 6, none⟩ = some (.int .i64 q.frm)) ∧ (w'.cell? ⟨w.heap.size + 1, 0, none⟩ = some (.int .i64 m0) ∧ w'.cell? ⟨w.heap.size + 1, 1, none⟩ = some (.int .i64 m1) ∧ w'.cell? ⟨w.heap.size + 1, 2, none⟩ = some (.int .i64 m2) ∧ w'.cell? ⟨w.heap.size + 1, 3, none⟩ = some (.int .i64 m3) ∧ w'.cell? ⟨w.heap.size + 1, 4, none⟩ = some (.int .i64 m4) ∧ w'.cell? ⟨w.heap.size + 1, 5, none⟩ = some (.int .i64 m5) ∧ w'.cell? ⟨w.heap.size + 1, 6, none⟩ = some (.int .i64 m6)))) (by kernel_rfl) ?_ (fun hHeld => ?_)
  · replace HB := Below.drew HB; replace b0 := Blk.drew b0; replace b1 := Blk.drew b1; (try dsimp only); exact ⟨blk7 b0, blk7 b1⟩
  replace HB := Below.drew HB
  replace b0 := Blk.drew b0
  replace b1 := Blk.drew b1
  have zHB := HB.size
  refine take_op (v := ?vu1x0) 0 (Op.load 58 (Operand.tmp 2)) 58 rfl rfl rfl rfl rfl (by kernel_rfl) (by kernel_rfl) (by kernel_rfl) (fun _ _ _ h => h) ?yu1x0 (by assumption) ?ru1x0
  case yu1x0 => (intro w' hSw; (try dsimp only at hSw); go_simp; try (with_reducible rfl))
  simp only [List.setIfInBounds_toArray, List.set_cons_zero, List.set_cons_succ]
  refine take_op (v := ?vu1x2) 2 (Op.load 33 (Operand.tmp 3)) 33 rfl rfl rfl rfl rfl (by kernel_rfl) (by kernel_rfl) (by kernel_rfl) (fun _ _ _ h => h) ?yu1x2 (by assumption) ?ru1x2
  case yu1x2 => (intro w' hSw; (try dsimp only at hSw); go_simp; try (with_reducible rfl))
  simp only [List.setIfInBounds_toArray, List.set_cons_zero, List.set_cons_succ]
  refine take_op (v := ?vu1x4) 4 (Op.load 33 (Operand.tmp 3)) 33 rfl rfl rfl rfl rfl (by kernel_rfl) (by kernel_rfl) (by kernel_rfl) (fun _ _ _ h => h) ?yu1x4 (by assumption) ?ru1x4
  case yu1x4 => (intro w' hSw; (try dsimp only at hSw); go_simp; try (with_reducible rfl))
  simp only [List.setIfInBounds_toArray, List.set_cons_zero, List.set_cons_succ]
  refine wpAnyH_ready (rs := [1]) (by kernel_rfl) (by simp) (AllReadyH.cons rfl (fun K1 hK1 => ?ku1x1) AllReadyH.nil)
  refine take_calls 1 67 [Operand.tmp 5] #[58] rfl rfl (by kernel_rfl) (fun args w => run_enter Tryz.func67 (by kernel_rfl) rfl args w) ?_
  refine (C1.out _).mono ?_
  rintro e w1 ⟨rfl, hb1⟩
  refine ⟨_, rfl, ?_⟩
  have z1 := hb1.size
  try simp only [World.size_drew] at z1
  replace HB := HB.trans (hb1.mono (by first | exact HB.size | omega))
  have zHB1 := HB.size
  replace b0 := Blk.below b0 hb1 (by first | exact Nat.le_refl _ | (simp only [World.size_alloc, World.size_setCell, World.size_drew] at *; omega) | omega)
  replace b1 := Blk.below b1 hb1 (by first | exact Nat.le_refl _ | (simp only [World.size_alloc, World.size_setCell, World.size_drew] at *; omega) | omega)
  refine hK1.out _ _ ?su1x1 (fun hHeld => ?ru1x1)
  case su1x1 => ((try dsimp only); exact ⟨blk7 b0, blk7 b1⟩)
  try simp only [List.setIfInBounds_toArray, List.set_cons_zero, List.set_cons_succ]
  refine wpAnyH_ready (rs := [3]) (by kernel_rfl) (by simp) (AllReadyH.cons rfl (fun K3 hK3 => ?ku1x3) AllReadyH.nil)
  refine take_calls 3 73 [Operand.tmp 7] #[33] rfl rfl (by kernel_rfl) (fun args w => run_enter Tryz.func73 (by kernel_rfl) rfl args w) ?_
  refine (C2.out _).mono ?_
  rintro e w3 ⟨rfl, hb3⟩
  refine ⟨_, rfl, ?_⟩
  have z3 := hb3.size
  try simp only [World.size_drew] at z3
  replace HB := HB.trans (hb3.mono (by first | exact HB.size | omega))
  have zHB3 := HB.size
  replace b0 := Blk.below b0 hb3 (by first | exact Nat.le_refl _ | (simp only [World.size_alloc, World.size_setCell, World.size_drew] at *; omega) | omega)
  replace b1 := Blk.below b1 hb3 (by first | exact Nat.le_refl _ | (simp only [World.size_alloc, World.size_setCell, World.size_drew] at *; omega) | omega)
  refine hK3.out _ _ ?su1x3 (fun hHeld => ?ru1x3)
  case su1x3 => ((try dsimp only); exact ⟨blk7 b0, blk7 b1⟩)
  try simp only [List.setIfInBounds_toArray, List.set_cons_zero, List.set_cons_succ]
  refine wpAnyH_ready (rs := [5]) (by kernel_rfl) (by simp) (AllReadyH.cons rfl (fun K5 hK5 => ?ku1x5) AllReadyH.nil)
  refine take_calls 5 74 [Operand.tmp 9] #[33] rfl rfl (by kernel_rfl) (fun args w => run_enter Tryz.func74 (by kernel_rfl) rfl args w) ?_
  refine (C3.out _).mono ?_
  rintro e w5 ⟨rfl, hb5⟩
  refine ⟨_, rfl, ?_⟩
  have z5 := hb5.size
  try simp only [World.size_drew] at z5
  replace HB := HB.trans (hb5.mono (by first | exact HB.size | omega))
  have zHB5 := HB.size
  replace b0 := Blk.below b0 hb5 (by first | exact Nat.le_refl _ | (simp only [World.size_alloc, World.size_setCell, World.size_drew] at *; omega) | omega)
  replace b1 := Blk.below b1 hb5 (by first | exact Nat.le_refl _ | (simp only [World.size_alloc, World.size_setCell, World.size_drew] at *; omega) | omega)
  refine hK5.out _ _ ?su1x5 (fun hHeld => ?ru1x5)
  case su1x5 => ((try dsimp only); exact ⟨blk7 b0, blk7 b1⟩)
  try simp only [List.setIfInBounds_toArray, List.set_cons_zero, List.set_cons_succ]
  refine wpAnyH_ready (rs := [6]) (by kernel_rfl) (by simp) (AllReadyH.cons rfl (fun K6 hK6 => ?ku1x6) AllReadyH.nil)
  refine take_calls 6 72 [Operand.tmp 6, Operand.tmp 8, Operand.tmp 10] #[129, 56, 56] rfl rfl (by kernel_rfl) (fun args w => run_enter Tryz.func72 (by kernel_rfl) rfl args w) ?_
  refine (C4.out _).mono ?_
  rintro e w6 ⟨rfl, hb6⟩
  refine ⟨_, rfl, ?_⟩
  have z6 := hb6.size
  try simp only [World.size_drew] at z6
  replace HB := HB.trans (hb6.mono (by first | exact HB.size | omega))
  have zHB6 := HB.size
  replace b0 := Blk.below b0 hb6 (by first | exact Nat.le_refl _ | (simp only [World.size_alloc, World.size_setCell, World.size_drew] at *; omega) | omega)
  replace b1 := Blk.below b1 hb6 (by first | exact Nat.le_refl _ | (simp only [World.size_alloc, World.size_setCell, World.size_drew] at *; omega) | omega)
  refine hK6.out _ _ ?su1x6 (fun hHeld => ?ru1x6)
  case su1x6 => ((try dsimp only); exact ⟨blk7 b0, blk7 b1⟩)
  try simp only [List.setIfInBounds_toArray, List.set_cons_zero, List.set_cons_succ]
  refine take_op (v := ?vu1x7) 7 (Op.assign (Operand.tmp 11)) 4 rfl rfl rfl rfl rfl (by kernel_rfl) (by kernel_rfl) (by kernel_rfl) (fun _ _ _ h => h) ?yu1x7 (by assumption) ?ru1x7
  case yu1x7 => (intro w' hSw; (try dsimp only at hSw); go_simp; try (with_reducible rfl))
  simp only [List.setIfInBounds_toArray, List.set_cons_zero, List.set_cons_succ]
  refine wpAnyH_done (by kernel_rfl) ?_ _
  go_wp2_with fail
  go_ret
  exact ⟨rfl, HB⟩

end SkpW
end Go.Proofs.YtnpncpoiiikafaaGreat
