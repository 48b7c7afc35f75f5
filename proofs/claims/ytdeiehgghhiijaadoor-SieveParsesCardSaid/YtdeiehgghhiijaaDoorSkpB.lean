/- The walks of package block: a block's numbers and times. -/
import Derived.Test.YtdeiehgghhiijaaDoorSkpO
namespace Go.Proofs.YtdeiehgghhiijaaDoor
set_option linter.unusedVariables false
set_option linter.unusedSimpArgs false
set_option linter.unnecessarySimpa false
open Go.RowKit
namespace SkpW
open SpanW (R rv)

/-- A block's directory entry: at, size, raw, count, first, early, late. -/
structure Me where
  at_ : Int
  size : Int
  raw : Int
  count : Int
  first : Int
  early : Int
  late : Int
abbrev mc (m : Me) : Array Value := #[.int .i64 m.at_, .int .i64 m.size, .int .i64 m.raw, .int .i64 m.count, .int .i64 m.first, .int .i64 m.early, .int .i64 m.late]
def sM (c f : Int) : R := if c < 1 then (1, 0) else if 9223372036854775807 - (c - 1) < f then (f, 9223372036854775807) else (f, f + (c - 1))
def tM (c a b : Int) : R := if c < 1 then (1, 0) else (a, b)
theorem new2 (w : World) (o : Obj) (t : TypeId) (a b : Value) : Blk ((w.alloc o).alloc (.cells #[a, b] t)) (w.heap.size + 1) t #[a, b] := by
  have := Blk.new (w.alloc o) t #[a, b]
  rwa [World.size_alloc] at this
theorem hb2 (w : World) (o p : Obj) : Below w.heap.size w ((w.alloc o).alloc p) := ((Below.refl _ w).alloc (Nat.le_refl _) _).alloc (by simp) _
theorem ret_rng {w w1 : World} {g : Nat} {a b c d : Value} (h : Blk w1 g 72 #[c, d]) : Blk ((w1.setCell ⟨g, 0, none⟩ a).setCell ⟨g, 1, none⟩ b) g 72 #[a, b] := blk_eq ((h.set 0 a).set 1 b) (by simp)

set_option maxRecDepth 100000 in
set_option maxHeartbeats 2000000 in
theorem ticks_any (m : Me) (w : World) :
    Calls Tryd.prog 37 #[.agg (mc m)] w fun e w' => e = .returned (rv (tM m.count m.early m.late)) ∧ Below w.heap.size w w' := by
  obtain ⟨m0, m1, m2, co, fi, ea, la⟩ := m
  have b0 := (Blk.new w 39 (mc ⟨m0, m1, m2, co, fi, ea, la⟩)).alloc (.cells #[.int .i64 0, .int .i64 0] 72)
  by_cases h : co < 1
  · rw [show tM co ea la = (1, 0) from by unfold tM; rw [if_pos h]]
    go_enter Tryd.func37, Tryd.ntmps37
    go_wp2_with fail
    refine bodyPost_ret (results_row1 rfl _ _ (w.heap.size + 1) 72 #[.int .i64 1, .int .i64 0] (0, 0) _ rfl (new2 _ _ _ _ _) Tryd.underlying72 rfl (by kernel_rfl)) rfl ?_
    exact ⟨rfl, hb2 _ _ _⟩
  · rw [show tM co ea la = (ea, la) from by unfold tM; rw [if_neg h]]
    go_enter Tryd.func37, Tryd.ntmps37
    go_wp2_with fail
    refine bodyPost_ret (results_row1 rfl _ _ (w.heap.size + 1) 72 #[.int .i64 ea, .int .i64 la] (0, 0) _ rfl (new2 _ _ _ _ _) Tryd.underlying72 rfl (by kernel_rfl)) rfl ?_
    exact ⟨rfl, hb2 _ _ _⟩
theorem bseqs_cases (c f : Int) (hc : I64 c) (hf : I64 f) : (c < 1 ∧ sM c f = (1, 0)) ∨ (¬ c < 1 ∧ 9223372036854775807 - (c - 1) < f ∧ sM c f = (f, 9223372036854775807)) ∨ (¬ c < 1 ∧ ¬ 9223372036854775807 - (c - 1) < f ∧ sM c f = (f, f + (c - 1)) ∧ wrap64 (f + (c - 1)) = f + (c - 1)) := by
  obtain ⟨_, _⟩ := hc
  obtain ⟨_, _⟩ := hf
  unfold sM
  by_cases h1 : c < 1
  · exact .inl ⟨h1, if_pos h1⟩
  · by_cases h2 : 9223372036854775807 - (c - 1) < f
    · exact .inr (.inl ⟨h1, h2, by rw [if_neg h1, if_pos h2]⟩)
    · exact .inr (.inr ⟨h1, h2, by rw [if_neg h1, if_neg h2], by unfold wrap64; omega⟩)
set_option maxRecDepth 100000 in
set_option maxHeartbeats 2000000 in
theorem bseqs_any (m : Me) (w : World) (hc : I64 m.count) (hf : I64 m.first) :
    Calls Tryd.prog 38 #[.agg (mc m)] w fun e w' => e = .returned (rv (sM m.count m.first)) ∧ Below w.heap.size w w' := by
  obtain ⟨m0, m1, m2, co, fi, ea, la⟩ := m
  have b0 := (Blk.new w 39 (mc ⟨m0, m1, m2, co, fi, ea, la⟩)).alloc (.cells #[.int .i64 0, .int .i64 0] 72)
  dsimp only at hc hf
  rcases bseqs_cases co fi hc hf with ⟨h, hs⟩ | ⟨h, h2, hs⟩ | ⟨h, h2, hs, hw⟩
  · obtain ⟨_, _⟩ := hc
    rw [hs]
    go_enter Tryd.func38, Tryd.ntmps38
    go_wp2_with fail
    refine bodyPost_ret (results_row1 rfl _ _ (w.heap.size + 1) 72 #[.int .i64 1, .int .i64 0] (0, 0) _ rfl (new2 _ _ _ _ _) Tryd.underlying72 rfl (by kernel_rfl)) rfl ?_
    exact ⟨rfl, hb2 _ _ _⟩
  · obtain ⟨hc1, hc2⟩ := hc
    have hw1 : wrap64 (co - 1) = co - 1 := by unfold wrap64; omega
    have hw2 : wrap64 (9223372036854775807 - (co - 1)) = 9223372036854775807 - (co - 1) := by unfold wrap64; omega
    rw [hs]
    go_enter Tryd.func38, Tryd.ntmps38
    go_wp2_with fail
    refine bodyPost_ret (results_row1 rfl _ _ (w.heap.size + 1) 72 #[.int .i64 fi, .int .i64 9223372036854775807] (0, 0) _ rfl (new2 _ _ _ _ _) Tryd.underlying72 rfl (by kernel_rfl)) rfl ?_
    exact ⟨rfl, hb2 _ _ _⟩
  · obtain ⟨hc1, hc2⟩ := hc
    have hw1 : wrap64 (co - 1) = co - 1 := by unfold wrap64; omega
    have hw2 : wrap64 (9223372036854775807 - (co - 1)) = 9223372036854775807 - (co - 1) := by unfold wrap64; omega
    rw [hs]
    go_enter Tryd.func38, Tryd.ntmps38
    go_wp2_with fail
    refine bodyPost_ret (results_row1 rfl _ _ (w.heap.size + 1) 72 #[.int .i64 fi, .int .i64 (fi + (co - 1))] (0, 0) _ rfl (new2 _ _ _ _ _) Tryd.underlying72 rfl (by kernel_rfl)) rfl ?_
    exact ⟨rfl, hb2 _ _ _⟩
theorem rseqs_cases (c f : Int) (hc : I64 c) (hf : I64 f) : (c < 1 ∧ sM c f = (1, 0)) ∨ (¬ c < 1 ∧ 0 < f ∧ 9223372036854775807 - f < c - 1 ∧ sM c f = (f, 9223372036854775807)) ∨
    (¬ c < 1 ∧ 0 < f ∧ ¬ 9223372036854775807 - f < c - 1 ∧ sM c f = (f, f + (c - 1)) ∧ wrap64 (wrap64 (f + c) - 1) = f + (c - 1)) ∨ (¬ c < 1 ∧ ¬ 0 < f ∧ sM c f = (f, f + (c - 1)) ∧ wrap64 (wrap64 (f + c) - 1) = f + (c - 1)) := by
  obtain ⟨_, _⟩ := hc
  obtain ⟨_, _⟩ := hf
  unfold sM
  by_cases h1 : c < 1
  · exact .inl ⟨h1, if_pos h1⟩
  · by_cases h0 : 0 < f
    · by_cases h2 : 9223372036854775807 - f < c - 1
      · exact .inr (.inl ⟨h1, h0, h2, by rw [if_neg h1, if_pos (by omega)]⟩)
      · exact .inr (.inr (.inl ⟨h1, h0, h2, by rw [if_neg h1, if_neg (by omega)], by unfold wrap64; omega⟩))
    · exact .inr (.inr (.inr ⟨h1, h0, by rw [if_neg h1, if_neg (by omega)], by unfold wrap64; omega⟩))
end SkpW
end Go.Proofs.YtdeiehgghhiijaaDoor
