/- Plain: rows of pieces in two parts; the pieces cover what stands ahead of the place. -/
import Derived.Test.YtjdmbpkabeaccaaTakP
namespace Go.Proofs.Ytjdmbpkabeaccaa
set_option linter.unusedVariables false
set_option linter.unusedSimpArgs false
set_option linter.unnecessarySimpa false

theorem drop_lt {s : List UInt8} {a p : Nat} (h : p < (s.drop a).length) : p + a < s.length := by rw [List.length_drop] at h; omega
theorem getV_shift (s : List UInt8) (a p : Nat) (h : p + a ≤ s.length) :
    getV (s.drop a) p = if (getV s (p + a : Nat)).2.2 = 0 then ((getV s (p + a : Nat)).1, (getV s (p + a : Nat)).2.1 - a, 0) else (0, 0, (getV s (p + a : Nat)).2.2) := by
  rw [getV_in (show p ≤ (s.drop a).length by rw [List.length_drop]; omega), getV_in h, List.drop_drop, Nat.add_comm a p]
  unfold resV
  by_cases h2 : (vdec 9 true (s.drop (p + a))).2.2 = 0
  · rw [if_pos h2, if_pos h2, if_pos rfl]
    simp only [Prod.mk.injEq, and_true, true_and]
    omega
  · rw [if_neg h2, if_neg h2, if_neg h2]
theorem unfixV_shift (s : List UInt8) (a p : Nat) (n : Int) (h : p + a ≤ s.length) :
    unfixV (s.drop a) p n = if (unfixV s (p + a : Nat) n).2.2 = 0 then ((unfixV s (p + a : Nat) n).1, (unfixV s (p + a : Nat) n).2.1 - a, 0) else (0, 0, (unfixV s (p + a : Nat) n).2.2) := by
  have e : (s.drop a).drop p = s.drop (p + a) := by rw [List.drop_drop, Nat.add_comm]
  have hl : (s.drop a).length = s.length - a := List.length_drop
  by_cases h1 : n < 1 ∨ 8 < n
  · have e1 : unfixV (s.drop a) p n = (0, 0, 2) := by unfold unfixV; rw [if_pos (by omega)]
    have e2 : unfixV s (p + a : Nat) n = (0, 0, 2) := by unfold unfixV; rw [if_pos (by omega)]
    rw [e1, e2]
    rfl
  · by_cases h2 : (s.length : Int) < ((p + a : Nat) : Int) + n
    · have e1 : unfixV (s.drop a) p n = (0, 0, 4) := by unfold unfixV; rw [hl, if_neg (by omega), if_pos (by omega)]
      have e2 : unfixV s (p + a : Nat) n = (0, 0, 4) := by unfold unfixV; rw [if_neg (by omega), if_pos (by omega)]
      rw [e1, e2]
      rfl
    · by_cases h3 : 9223372036854775808 ≤ fval ((s.drop (p + a)).take n.toNat)
      · have e1 : unfixV (s.drop a) p n = (0, 0, 5) := by unfold unfixV; rw [hl, if_neg (by omega), if_neg (by omega), Int.toNat_natCast, e, if_pos h3]
        have e2 : unfixV s (p + a : Nat) n = (0, 0, 5) := by unfold unfixV; rw [if_neg (by omega), if_neg (by omega), Int.toNat_natCast, if_pos h3]
        rw [e1, e2]
        rfl
      · have e1 : unfixV (s.drop a) p n = ((fval ((s.drop (p + a)).take n.toNat) : Int), p + n, 0) := by unfold unfixV; rw [hl, if_neg (by omega), if_neg (by omega), Int.toNat_natCast, e, if_neg h3]
        have e2 : unfixV s (p + a : Nat) n = ((fval ((s.drop (p + a)).take n.toNat) : Int), (p + a : Nat) + n, 0) := by unfold unfixV; rw [if_neg (by omega), if_neg (by omega), Int.toNat_natCast, if_neg h3]
        rw [e1, e2, if_pos rfl]
        simp only [Prod.mk.injEq, and_true, true_and]
        omega
theorem oneV_shift (s : List UInt8) (a p : Nat) (k n : Int) (h : p + a ≤ s.length) :
    oneV (s.drop a) p k n = ((oneV s (p + a : Nat) k n).1, (oneV s (p + a : Nat) k n).2.1 - a, (oneV s (p + a : Nat) k n).2.2) := by
  have hl : (s.drop a).length = s.length - a := List.length_drop
  have e : (s.drop a).drop p = s.drop (p + a) := by rw [List.drop_drop, Nat.add_comm]
  unfold oneV
  rw [getV_shift s a p h, unfixV_shift s a p n h, Int.toNat_natCast, Int.toNat_natCast, e]
  by_cases h1 : k = 1
  · rw [if_pos h1, if_pos h1]
    by_cases h2 : p < (s.drop a).length
    · rw [dif_pos h2, dif_pos (drop_lt h2)]
      simp only [List.getElem_drop, Prod.mk.injEq, and_true, true_and]
      refine ⟨by congr 2; simp only [Nat.add_comm a p], by omega⟩
    · rw [dif_neg h2, dif_neg (by omega)]
      simp only [Prod.mk.injEq, and_true, true_and]
      omega
  rw [if_neg h1, if_neg h1]
  by_cases h2 : k = 2
  · rw [if_pos h2, if_pos h2]
    split
    · simp
    · rename_i hne
      try rw [if_neg (by simpa using hne)]
      simp only [Prod.mk.injEq, and_true, true_and]
      omega
  rw [if_neg h2, if_neg h2]
  by_cases h3 : k = 3
  · rw [if_pos h3, if_pos h3]
    split
    · simp
    · rename_i hne
      try rw [if_neg (by simpa using hne)]
      simp only [Prod.mk.injEq, and_true, true_and]
      omega
  rw [if_neg h3, if_neg h3]
  by_cases h4 : k = 4
  · rw [if_pos h4, if_pos h4, hl]
    by_cases h5 : n < 0
    · rw [if_pos h5, if_pos h5]
      simp only [Prod.mk.injEq, and_true, true_and]
      omega
    · rw [if_neg h5, if_neg h5]
      by_cases h6 : (s.length : Int) - ((p + a : Nat) : Int) < n
      · rw [if_pos (by omega), if_pos h6]
        simp only [Prod.mk.injEq, and_true, true_and]
        omega
      · rw [if_neg (by omega), if_neg h6]
        simp only [Prod.mk.injEq, and_true, true_and]
        omega
  rw [if_neg h4, if_neg h4]
  by_cases h5 : k = 5
  · rw [if_pos h5, if_pos h5, hl]
    simp only [Prod.mk.injEq, and_true, true_and]
    omega
  rw [if_neg h5, if_neg h5]
  by_cases h6 : k = 6
  · rw [if_pos h6, if_pos h6, hl]
    by_cases h7 : ((p + a : Nat) : Int) < (s.length : Int)
    · rw [if_pos (by omega), if_pos h7]
      simp only [Prod.mk.injEq, and_true, true_and]
      omega
    · rw [if_neg (by omega), if_neg h7]
      simp only [Prod.mk.injEq, and_true, true_and]
      omega
  rw [if_neg h6, if_neg h6]
  simp only [Prod.mk.injEq, and_true, true_and]
  omega
theorem runV_shift (s : List UInt8) (a : Nat) (l : List (Int × Int)) : ∀ (p : Nat), p + a ≤ s.length →
    runV (s.drop a) l p = ((runV s l (p + a : Nat)).1, (runV s l (p + a : Nat)).2.1 - a, (runV s l (p + a : Nat)).2.2) := by
  induction l with
  | nil => intro p h; simp only [runV, Prod.mk.injEq, and_true, true_and]; omega
  | cons x r ih =>
    intro p h
    rw [runV, runV, oneV_shift s a p x.1 x.2 h]
    by_cases h0 : (oneV s (p + a : Nat) x.1 x.2).2.2 = 0
    · rw [if_pos h0, if_pos h0]
      have hk := oneV_ok (by omega) (by omega) h0
      obtain ⟨q, hq⟩ : ∃ q : Nat, (oneV s (p + a : Nat) x.1 x.2).2.1 = (q + a : Nat) := ⟨((oneV s (p + a : Nat) x.1 x.2).2.1 - a).toNat, by omega⟩
      have e : (oneV s (p + a : Nat) x.1 x.2).2.1 - a = (q : Int) := by omega
      rw [e, hq, ih q (by omega)]
    · rw [if_neg h0, if_neg h0]
      simp only [Prod.mk.injEq, and_true, true_and]
      omega
theorem runV_app (s : List UInt8) (a b : List (Int × Int)) : ∀ (p : Int), (runV s a p).2.2 = 0 →
    runV s (a ++ b) p = ((runV s a p).1 ++ (runV s b (runV s a p).2.1).1, (runV s b (runV s a p).2.1).2) := by
  induction a with
  | nil => intro p _; rfl
  | cons x r ih =>
    intro p h
    rw [List.cons_append, runV, runV]
    rw [runV] at h
    by_cases h0 : (oneV s p x.1 x.2).2.2 = 0
    · rw [if_pos h0] at h ⊢
      rw [if_pos h0, ih _ h]
      rfl
    · rw [if_neg h0] at h
      exact absurd h h0
theorem runV_full (s : List UInt8) (a : List (Int × Int)) : ∀ (p : Int), (runV s a p).2.2 = 0 → (runV s a p).1.length = a.length := by
  induction a with
  | nil => intro p _; rfl
  | cons x r ih =>
    intro p h
    rw [runV] at h ⊢
    by_cases h0 : (oneV s p x.1 x.2).2.2 = 0
    · rw [if_pos h0] at h ⊢
      simp [ih _ h]
    · rw [if_neg h0] at h
      exact absurd h h0
theorem runV_short (s : List UInt8) (a : List (Int × Int)) : ∀ (p : Int), (runV s a p).2.2 ≠ 0 → (runV s a p).1.length < a.length := by
  induction a with
  | nil => intro p h; exact absurd rfl h
  | cons x r ih =>
    intro p h
    rw [runV] at h ⊢
    by_cases h0 : (oneV s p x.1 x.2).2.2 = 0
    · rw [if_pos h0] at h ⊢
      simpa using ih _ h
    · rw [if_neg h0]
      simp
/-- Two parts: the second one of what the first one left. -/
theorem runV_parts {s : List UInt8} {a b : List (Int × Int)} {n : Nat} {l m : List (Int × List UInt8)} {to f : Int} (ha : runV s a 0 = (l, (n : Int), 0)) (hn : n ≤ s.length) (hb : runV (s.drop n) b 0 = (m, to, f)) :
    runV s (a ++ b) 0 = (l ++ m, n + to, f) := by
  rw [runV_app s a b 0 (by rw [ha]), ha]
  have := runV_shift s n b 0 (by omega)
  rw [show ((0 : Nat) : Int) = 0 from rfl, hb, Nat.zero_add] at this
  simp only [Prod.mk.injEq] at this ⊢
  obtain ⟨h1, h2, h3⟩ := this
  rw [h1]
  refine ⟨rfl, Prod.ext ?_ ?_⟩
  · dsimp only; omega
  · exact h3.symm

/-- The pieces that sizes want. -/
def wl (zs : List Int) : List (Int × Int) := zs.map fun z => if z < 0 then (1, 0) else (4, z)
theorem wl_snoc (zs : List Int) (k : Nat) (h : k < zs.length) : wl (zs.take (k + 1)) = wl (zs.take k) ++ [if zs[k] < 0 then (1, 0) else (4, zs[k])] := by
  unfold wl
  rw [List.take_succ_eq_append_getElem h, List.map_append]
  rfl
theorem wl_len (zs : List Int) : (wl zs).length = zs.length := by simp [wl]
/-- A piece's bytes. -/
def pc (w : Int × Int) (g : Int × List UInt8) : List UInt8 := (if w.1 = 1 then [UInt8.ofNat g.1.toNat] else []) ++ g.2
theorem one1 (s : List UInt8) (p : Nat) (h : (oneV s p 1 0).2.2 = 0) : ∃ hp : p < s.length, oneV s p 1 0 = (((s[p].toNat : Int), []), ((p + 1 : Nat) : Int), 0) := by
  unfold oneV at h ⊢
  rw [if_pos rfl, Int.toNat_natCast] at h ⊢
  by_cases h1 : p < s.length
  · rw [dif_pos h1]
    exact ⟨h1, rfl⟩
  · rw [dif_neg h1] at h
    cases h
theorem one4 (s : List UInt8) (p : Nat) (z : Int) (hp : p ≤ s.length) (h : (oneV s p 4 z).2.2 = 0) : ∃ n : Nat, z = n ∧ p + n ≤ s.length ∧ oneV s p 4 z = (((0 : Int), (s.drop p).take n), ((p + n : Nat) : Int), 0) := by
  unfold oneV at h ⊢
  rw [if_neg (by omega), if_neg (by omega), if_neg (by omega), if_pos rfl, Int.toNat_natCast] at h ⊢
  by_cases h1 : z < 0
  · rw [if_pos h1] at h; cases h
  · rw [if_neg h1] at h ⊢
    by_cases h2 : (s.length : Int) - p < z
    · rw [if_pos h2] at h; cases h
    · rw [if_neg h2]
      obtain ⟨n, rfl⟩ := Int.eq_ofNat_of_zero_le (show 0 ≤ z by omega)
      exact ⟨n, rfl, by omega, rfl⟩
theorem cov_run (s : List UInt8) (zs : List Int) : ∀ (p : Nat), p ≤ s.length →
    (List.zipWith pc (wl zs) (runV s (wl zs) p).1).flatten = (s.drop p).take ((runV s (wl zs) p).2.1.toNat - p) := by
  induction zs with
  | nil => intro p _; simp [wl, runV]
  | cons z r ih =>
    intro p hp
    rw [show wl (z :: r) = (if z < 0 then (1, 0) else (4, z)) :: wl r from rfl, runV]
    by_cases h0 : (oneV s p (if z < 0 then (1, 0) else (4, z)).1 (if z < 0 then ((1 : Int), (0 : Int)) else (4, z)).2).2.2 = 0
    · rw [if_pos h0]
      by_cases hz : z < 0
      · rw [if_pos hz] at h0 ⊢
        obtain ⟨h1, h2⟩ := one1 s p h0
        rw [h2]
        dsimp only
        have hq := (runV_place (s := s) (wl r) (p + 1 : Nat) (by omega) (by omega))
        rw [List.zipWith_cons_cons, List.flatten_cons, ih (p + 1) (by omega)]
        rw [show (runV s (wl r) (p + 1 : Nat)).2.1.toNat - p = (runV s (wl r) (p + 1 : Nat)).2.1.toNat - (p + 1) + 1 from by omega, List.drop_eq_getElem_cons h1, List.take_succ_cons]
        simp [pc]
      · rw [if_neg hz] at h0 ⊢
        obtain ⟨n, h1, h3, h2⟩ := one4 s p z hp h0
        rw [h2]
        dsimp only
        have hq := (runV_place (s := s) (wl r) (p + n : Nat) (by omega) (by omega))
        rw [List.zipWith_cons_cons, List.flatten_cons, ih (p + n) (by omega)]
        rw [show (runV s (wl r) (p + n : Nat)).2.1.toNat - p = n + ((runV s (wl r) (p + n : Nat)).2.1.toNat - (p + n)) from by omega, List.take_add, List.drop_drop]
        simp [pc]
    · rw [if_neg h0]
      simp
theorem cov_byte (s : List UInt8) (zs : List Int) : ∀ (p : Nat), p ≤ s.length → ∀ k (h : k < (runV s (wl zs) p).1.length) (h2 : k < (wl zs).length), (wl zs)[k].1 = 1 → 0 ≤ (runV s (wl zs) p).1[k].1 ∧ (runV s (wl zs) p).1[k].1 < 256 := by
  induction zs with
  | nil => intro p _ k h; simp [wl, runV] at h
  | cons z r ih =>
    intro p hp k
    have hw : wl (z :: r) = (if z < 0 then (1, 0) else (4, z)) :: wl r := rfl
    by_cases h0 : (oneV s p (if z < 0 then (1, 0) else (4, z)).1 (if z < 0 then ((1 : Int), (0 : Int)) else (4, z)).2).2.2 = 0
    · have hr : runV s (wl (z :: r)) p = ((oneV s p (if z < 0 then (1, 0) else (4, z)).1 (if z < 0 then ((1 : Int), (0 : Int)) else (4, z)).2).1 :: (runV s (wl r) (oneV s p (if z < 0 then (1, 0) else (4, z)).1 (if z < 0 then ((1 : Int), (0 : Int)) else (4, z)).2).2.1).1, (runV s (wl r) (oneV s p (if z < 0 then (1, 0) else (4, z)).1 (if z < 0 then ((1 : Int), (0 : Int)) else (4, z)).2).2.1).2) := by
        rw [hw, runV, if_pos h0]
      intro h h2 h3
      simp only [hr] at h ⊢
      cases k with
      | zero =>
        simp only [List.getElem_cons_zero]
        simp only [hw, List.getElem_cons_zero] at h3
        by_cases hz : z < 0
        · simp only [if_pos hz] at h0 ⊢
          obtain ⟨h4, h5⟩ := one1 s p h0
          rw [h5]
          have := s[p].toNat_lt
          dsimp only
          omega
        · rw [if_neg hz] at h3
          simp at h3
      | succ k =>
        simp only [List.getElem_cons_succ]
        have h3' : (wl r)[k]'(by simpa [hw] using h2) = (wl (z :: r))[k + 1] := by simp [hw]
        have hok := oneV_ok (by omega) (by omega) h0
        obtain ⟨q, hq⟩ := Int.eq_ofNat_of_zero_le (show 0 ≤ (oneV s p (if z < 0 then (1, 0) else (4, z)).1 (if z < 0 then ((1 : Int), (0 : Int)) else (4, z)).2).2.1 by omega)
        simp only [hq] at h ⊢
        exact ih q (by omega) k (by simpa using h) (by simpa [hw] using h2) (by rw [h3']; exact h3)
    · have hr : (runV s (wl (z :: r)) p).1 = [] := by rw [hw, runV, if_neg h0]
      intro h
      simp [hr] at h
theorem cov_behind (s t : List UInt8) (zs : List Int) : ∀ (p : Nat), p ≤ s.length → (runV s (wl zs) p).2.2 = 0 → runV (s ++ t) (wl zs) p = runV s (wl zs) p := by
  induction zs with
  | nil => intro p _ _; rfl
  | cons z r ih =>
    intro p hp h
    rw [show wl (z :: r) = (if z < 0 then (1, 0) else (4, z)) :: wl r from rfl, runV] at h ⊢
    rw [runV]
    by_cases h0 : (oneV s p (if z < 0 then (1, 0) else (4, z)).1 (if z < 0 then ((1 : Int), (0 : Int)) else (4, z)).2).2.2 = 0
    · rw [if_pos h0] at h ⊢
      by_cases hz : z < 0
      · rw [if_pos hz] at h0 h ⊢
        obtain ⟨h1, h2⟩ := one1 s p h0
        have h3 : oneV (s ++ t) p 1 0 = oneV s p 1 0 := by
          unfold oneV
          rw [if_pos rfl, if_pos rfl, Int.toNat_natCast, dif_pos (by simp; omega), dif_pos h1]
          rw [List.getElem_append_left h1]
        dsimp only at h0 h ⊢
        rw [h3, if_pos h0, h2]
        rw [h2] at h
        dsimp only at h ⊢
        rw [ih (p + 1) (by omega) h]
      · rw [if_neg hz] at h0 h ⊢
        obtain ⟨n, h1, h3, h2⟩ := one4 s p z hp h0
        have h4 : oneV (s ++ t) p 4 z = oneV s p 4 z := by
          rw [h2]
          unfold oneV
          rw [if_neg (by omega), if_neg (by omega), if_neg (by omega), if_pos rfl, Int.toNat_natCast, if_neg (by omega), if_neg (by simp; omega), h1, Int.toNat_natCast]
          rw [List.drop_append_of_le_length hp, List.take_append_of_le_length (by simp; omega)]
          rfl
        dsimp only at h0 h ⊢
        rw [h4, if_pos h0, h2]
        rw [h2] at h
        dsimp only at h ⊢
        rw [ih (p + n) (by omega) h]
    · rw [if_neg h0] at h
      exact absurd h h0
theorem flat_take (P : List (List UInt8)) (k : Nat) (h : k < P.length) : (P.take (k + 1)).flatten = (P.take k).flatten ++ P[k] := by
  rw [List.take_succ_eq_append_getElem h, List.flatten_append]
  simp
theorem flat_le (P : List (List UInt8)) (k : Nat) : (P.take k).flatten.length ≤ P.flatten.length := by
  have := congrArg (fun l => l.flatten.length) (List.take_append_drop k P)
  simp only [List.flatten_append, List.length_append] at this
  omega
end Go.Proofs.Ytjdmbpkabeaccaa
