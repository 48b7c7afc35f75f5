/- Plain: both gettings of a symbol tell the same. -/
import Derived.Test.YtedoeplhjmkllaaCanD
import Derived.Test.YtedoeplhjmkllaaCanT
namespace Go.Proofs.Ytedoeplhjmkllaa
set_option linter.unusedVariables false
set_option linter.unusedSimpArgs false
set_option linter.unnecessarySimpa false
open Go.RowKit
namespace LenW
open Classical

theorem wordV_V {l : List Int} {s : Nat} (h : Vs l s) : wordV l s = (((nm l s : Int), (wd l s : Int)), 0) := by
  obtain ⟨h1, h2⟩ := id h
  have := wd_pos h
  rw [wordV_at l s h1, wordF_V h, if_neg (by simp; omega)]
theorem wordV_N {l : List Int} {s : Nat} (h : ¬ Vs l s) : wordV l s = ((0, 0), 70) := by
  by_cases h1 : s < l.length
  · rw [wordV_at l s h1, wordF_N h, if_pos rfl]
  · exact wordV_out l s (.inr (by omega))
theorem Vs_iff {l : List Int} {s : Nat} : (wordV l s).2 = 0 ↔ Vs l s := by
  constructor
  · intro h
    exact Decidable.byContradiction fun e => by rw [wordV_N e] at h; exact absurd h (by decide)
  · intro h; rw [wordV_V h]
theorem dgs_V {l : List Int} {s : Nat} (h : Vs l s) : dgs l s = wb l s := by
  unfold dgs wb
  rw [wordV_V h]
  rfl
theorem begF_all (D : List Nat) : ∀ (L : List Nat), (begF L D).2 = true ↔ D <+: L := by
  induction D with
  | nil => intro L; cases L <;> simp [begF]
  | cons y D ih =>
    intro L
    cases L with
    | nil => simp [begF]
    | cons x L =>
      rw [List.cons_prefix_cons, begF]
      by_cases hxy : x = y
      · rw [if_pos hxy, ih]; simp [hxy]
      · rw [if_neg hxy]; simp; intro e; exact absurd e.symm hxy
theorem begF_some (D : List Nat) : ∀ (L : List Nat), (begF L D).1 = true ↔ (D <+: L ∨ L <+: D) := by
  induction D with
  | nil => intro L; cases L <;> simp [begF]
  | cons y D ih =>
    intro L
    cases L with
    | nil => simp [begF]
    | cons x L =>
      rw [List.cons_prefix_cons, List.cons_prefix_cons, begF]
      by_cases hxy : x = y
      · rw [if_pos hxy, ih]; simp [hxy]
      · rw [if_neg hxy]; simp; exact ⟨fun e => absurd e.symm hxy, fun e => absurd e hxy⟩
theorem find_of {l : List Int} (hk : chkL l = 0) {s : Nat} (h : Vs l s) : findL l (nm l s) (wd l s) = ((s : Int), true) := by
  have h1 := rk_lt h
  unfold findL
  have e : nm l s - fstL l (wd l s) = rk l s := by unfold nm; omega
  rw [e, if_pos ⟨by unfold nm; omega, h1⟩, sortF_get h]
  rfl
theorem find_is {l : List Int} (hk : chkL l = 0) {n w : Nat} (h0 : 0 < w) (h : (findL l n w).2 = true) : ∃ s, Vs l s ∧ wd l s = w ∧ nm l s = n ∧ findL l n w = ((s : Int), true) := by
  have hc : fstL l w ≤ n ∧ n - fstL l w < cntL l w := by
    unfold findL at h
    split at h
    · assumption
    · simp at h
  obtain ⟨s, h1, h2, h3⟩ := word_ex l w n h0 hc.1 (by omega)
  refine ⟨s, h1, h2, h3, ?_⟩
  rw [← h2, ← h3]
  exact find_of hk h1
/-- What a symbol's getting tells: the one that bits begin with. -/
theorem rgo_none (l : List Int) (L : List Nat) (hno : ∀ s, Vs l s → ¬ wb l s <+: L) : ∀ (f s : Nat) (e : Int), rgo l L f s e = (0, 0, if ∃ t, s ≤ t ∧ t < s + f ∧ Vs l t ∧ L <+: wb l t then 4 else e) := by
  intro f
  induction f with
  | zero => intro s e; rw [rgo, if_neg (by rintro ⟨t, h1, h2, _⟩; omega)]
  | succ f ih =>
    intro s e
    rw [rgo]
    by_cases hV : Vs l s
    · rw [if_pos (Vs_iff.2 hV), dgs_V hV, if_neg (fun h => hno s hV ((begF_all _ _).1 h)), ih]
      by_cases h1 : L <+: wb l s
      · rw [if_pos ((begF_some _ _).2 (.inr h1)), ite_self, if_pos ⟨s, by omega, by omega, hV, h1⟩]
      · rw [if_neg (fun h => ((begF_some _ _).1 h).elim (hno s hV) h1)]
        by_cases h2 : ∃ t, s + 1 ≤ t ∧ t < s + 1 + f ∧ Vs l t ∧ L <+: wb l t
        · rw [if_pos h2, if_pos]
          obtain ⟨t, q1, q2, q3⟩ := h2
          exact ⟨t, by omega, by omega, q3⟩
        · rw [if_neg h2, if_neg]
          rintro ⟨t, q1, q2, q3, q4⟩
          by_cases hts : t = s
          · subst hts; exact h1 q4
          · exact h2 ⟨t, by omega, by omega, q3, q4⟩
    · rw [if_neg (fun h => hV (Vs_iff.1 h)), ih]
      by_cases h2 : ∃ t, s + 1 ≤ t ∧ t < s + 1 + f ∧ Vs l t ∧ L <+: wb l t
      · rw [if_pos h2, if_pos]
        obtain ⟨t, q1, q2, q3⟩ := h2
        exact ⟨t, by omega, by omega, q3⟩
      · rw [if_neg h2, if_neg]
        rintro ⟨t, q1, q2, q3, q4⟩
        by_cases hts : t = s
        · subst hts; exact hV q3
        · exact h2 ⟨t, by omega, by omega, q3, q4⟩
theorem rgo_one {l : List Int} (hk : chkL l = 0) (L : List Nat) {u : Nat} (hu : Vs l u) (hp : wb l u <+: L) : ∀ (f s : Nat) (e : Int), s ≤ u → u < s + f → rgo l L f s e = ((u : Int), wd l u, 0) := by
  intro f
  induction f with
  | zero => intro s e h1 h2; omega
  | succ f ih =>
    intro s e h1 h2
    rw [rgo]
    by_cases hsu : s = u
    · subst hsu
      rw [if_pos (Vs_iff.2 hu), dgs_V hu, if_pos ((begF_all _ _).2 hp)]
      unfold wb
      rw [dg_len]
    · by_cases hV : Vs l s
      · rw [if_pos (Vs_iff.2 hV), dgs_V hV, if_neg (fun h => hsu (wb_free hk hV hu L ((begF_all _ _).1 h) hp)), ih _ _ (by omega) (by omega)]
      · rw [if_neg (fun h => hV (Vs_iff.1 h)), ih _ _ (by omega) (by omega)]
theorem Vs_pre {l : List Int} (hk : chkL l = 0) {s : Nat} (h : Vs l s) (L : List Nat) (h2 : ∀ d ∈ L, d < 2) : wb l s <+: L ↔ wd l s ≤ L.length ∧ num (L.take (wd l s)) = nm l s := pre_word L h2 (nm_lt hk h)
theorem find_pre {l : List Int} (hk : chkL l = 0) (L : List Nat) (h2 : ∀ d ∈ L, d < 2) (w : Nat) (h0 : 0 < w) (hw : w ≤ L.length) (h : (findL l (num (L.take w)) w).2 = true) : ∃ s, Vs l s ∧ wd l s = w ∧ wb l s <+: L ∧ findL l (num (L.take w)) w = ((s : Int), true) := by
  obtain ⟨s, h1, h3, h4, h5⟩ := find_is hk h0 h
  exact ⟨s, h1, h3, (Vs_pre hk h1 L h2).2 ⟨by omega, by rw [h3, h4]⟩, h5⟩
theorem num_take_snoc (L : List Nat) (w : Nat) (h : w < L.length) : num (L.take (w + 1)) = 2 * num (L.take w) + L[w] := by
  rw [List.take_succ_eq_append_getElem h, num_snoc]
/-- The loop over widths, at width w of bits L. -/
theorem getGo_none {l : List Int} (hk : chkL l = 0) (L : List Nat) (h2 : ∀ d ∈ L, d < 2) (hno : ∀ s, Vs l s → ¬ wb l s <+: L) : ∀ (f w : Nat), w + f = 15 → w ≤ L.length → getGo l (L.drop w) (num (L.take w)) w f = (0, 0, if L.length < 15 then endedL l (num L) L.length else 40) := by
  intro f
  induction f with
  | zero => intro w h1 hw; rw [getGo, if_neg (by omega)]
  | succ f ih =>
    intro w h1 hw
    by_cases he : w = L.length
    · subst he
      rw [List.drop_length, getGo, List.take_length, if_pos (by omega)]
    · have hwl : w < L.length := by omega
      rw [List.drop_eq_getElem_cons hwl, getGo, ← num_take_snoc L w hwl, if_neg, ih (w + 1) (by omega) (by omega)]
      intro hf
      obtain ⟨s, q1, q2, q3, _⟩ := find_pre hk L h2 (w + 1) (by omega) (by omega) hf
      exact hno s q1 q3
theorem getGo_one {l : List Int} (hk : chkL l = 0) (L : List Nat) (h2 : ∀ d ∈ L, d < 2) {u : Nat} (hu : Vs l u) (hp : wb l u <+: L) : ∀ (f w : Nat), w + f = 15 → w < wd l u → getGo l (L.drop w) (num (L.take w)) w f = ((u : Int), wd l u, 0) := by
  have hup := (Vs_pre hk hu L h2).1 hp
  have hu15 := wd_le hk hu
  intro f
  induction f with
  | zero => intro w h1 hw; omega
  | succ f ih =>
    intro w h1 hw
    have hwl : w < L.length := by omega
    rw [List.drop_eq_getElem_cons hwl, getGo, ← num_take_snoc L w hwl]
    by_cases he : w + 1 = wd l u
    · have hf : findL l (num (L.take (w + 1))) (w + 1) = ((u : Int), true) := by rw [he, hup.2]; exact find_of hk hu
      rw [hf, if_pos rfl, he]
    · rw [if_neg, ih (w + 1) (by omega) (by omega)]
      intro hf
      obtain ⟨s, q1, q2, q3, _⟩ := find_pre hk L h2 (w + 1) (by omega) (by omega) hf
      have := wb_free hk q1 hu L q3 hp
      subst this
      omega
theorem getC_one {l : List Int} (hk : chkL l = 0) (L : List Nat) (h2 : ∀ d ∈ L, d < 2) {u : Nat} (hu : Vs l u) (hp : wb l u <+: L) : getC l L = ((u : Int), wd l u, 0) := by
  have := getGo_one hk L h2 hu hp 15 0 rfl (wd_pos hu)
  simpa [getC, num] using this
theorem getC_none {l : List Int} (hk : chkL l = 0) (L : List Nat) (h2 : ∀ d ∈ L, d < 2) (hno : ∀ s, Vs l s → ¬ wb l s <+: L) : getC l L = (0, 0, if L.length < 15 then endedL l (num L) L.length else 40) := by
  have := getGo_none hk L h2 hno 15 0 rfl (Nat.zero_le _)
  simpa [getC, num] using this
theorem ended_iff {l : List Int} (hk : chkL l = 0) (L : List Nat) (h2 : ∀ d ∈ L, d < 2) (h15 : L.length < 15) (hno : ∀ s, Vs l s → ¬ wb l s <+: L) : endedL l (num L) L.length = if L.length = 0 ∨ ∃ t, Vs l t ∧ L <+: wb l t then 4 else 40 := by
  unfold endedL
  have key : ((List.range 16).any (fun m => decide (L.length ≤ m) && endP l (num L) L.length m) = true) ↔ ∃ t, Vs l t ∧ L <+: wb l t := by
    rw [List.any_eq_true]
    constructor
    · rintro ⟨m, hm, he⟩
      rw [List.mem_range] at hm
      unfold endP at he
      simp only [Bool.and_eq_true, decide_eq_true_eq] at he
      obtain ⟨q0, q1, q2, q3, q4⟩ := he
      generalize hd : 2 ^ (m - L.length) = d at *
      have hd0 : 0 < d := by rw [← hd]; exact Nat.pow_pos (by omega)
      obtain ⟨N, p1, p2, p3, p4⟩ : ∃ N, fstL l m ≤ N ∧ N < fstL l m + cntL l m ∧ num L * d ≤ N ∧ N < num L * d + d := by
        rcases Nat.le_total (fstL l m) (num L * d) with h | h
        · exact ⟨num L * d, h, q3, by omega, by omega⟩
        · exact ⟨fstL l m, by omega, by omega, h, by omega⟩
      obtain ⟨t, r1, r2, r3⟩ := word_ex l m N q1 p1 p2
      refine ⟨t, r1, (word_pre L h2 (nm_lt hk r1)).2 ⟨by omega, ?_⟩⟩
      rw [r2, r3, hd]
      exact (Nat.div_eq_of_lt_le p3 (by rw [Nat.add_mul, Nat.one_mul]; exact p4)).symm
    · rintro ⟨t, ht, hp⟩
      obtain ⟨r1, r2⟩ := (word_pre L h2 (nm_lt hk ht)).1 hp
      have r3 := wd_le hk ht
      refine ⟨wd l t, List.mem_range.2 (by omega), ?_⟩
      have hrk := rk_lt ht
      have hw0 := wd_pos ht
      unfold endP
      simp only [Bool.and_eq_true, decide_eq_true_eq]
      generalize hd : 2 ^ (wd l t - L.length) = d at *
      have hd0 : 0 < d := by rw [← hd]; exact Nat.pow_pos (by omega)
      have s1 := Nat.div_mul_le_self (nm l t) d
      have s2 := Nat.lt_mul_div_succ (nm l t) hd0
      rw [← r2] at s1 s2
      have hnm : nm l t = fstL l (wd l t) + rk l t := rfl
      have s3 : d * (num L + 1) = num L * d + d := by rw [Nat.mul_add, Nat.mul_one, Nat.mul_comm]
      exact ⟨r1, hw0, by omega, by omega, by omega⟩
  by_cases h : L.length = 0 ∨ ∃ t, Vs l t ∧ L <+: wb l t
  · rw [if_pos h, if_pos]
    exact h.elim .inr (fun e => .inl (key.2 e))
  · rw [if_neg h, if_neg]
    rintro (e | e)
    · exact h (.inr (key.1 e))
    · exact h (.inl e)
/-- Both tell the same. -/
theorem get_same {l : List Int} (hk : chkL l = 0) (L : List Nat) (h2 : ∀ d ∈ L, d < 2) : getC l L = refC l L := by
  by_cases h : ∃ u, Vs l u ∧ wb l u <+: L
  · obtain ⟨u, hu, hp⟩ := h
    rw [getC_one hk L h2 hu hp, refC, rgo_one hk L hu hp _ _ _ (by omega) (by have := hu.1; omega)]
  · have hno : ∀ s, Vs l s → ¬ wb l s <+: L := fun s hs hp => h ⟨s, hs, hp⟩
    rw [getC_none hk L h2 hno, refC, rgo_none l L hno]
    congr 2
    have hiff : (∃ t, 0 ≤ t ∧ t < 0 + l.length ∧ Vs l t ∧ L <+: wb l t) ↔ ∃ t, Vs l t ∧ L <+: wb l t := ⟨fun ⟨t, _, _, q⟩ => ⟨t, q⟩, fun ⟨t, q, r⟩ => ⟨t, by omega, by have := q.1; omega, q, r⟩⟩
    by_cases h15 : L.length < 15
    · rw [if_pos h15, ended_iff hk L h2 h15 hno]
      by_cases ht : ∃ t, Vs l t ∧ L <+: wb l t
      · rw [if_pos (.inr ht), if_pos (hiff.2 ht)]
      · rw [if_neg (fun e => ht (hiff.1 e))]
        by_cases h0 : L.length = 0
        · rw [if_pos (.inl h0), if_pos h0]
        · rw [if_neg (fun e => e.elim h0 ht), if_neg h0]
    · rw [if_neg h15, if_neg, if_neg (by omega)]
      rintro ⟨t, _, _, q1, q2⟩
      have := q2.length_le
      unfold wb at this
      rw [dg_len] at this
      have hw := wd_le hk q1
      have he : L = wb l t := q2.eq_of_length (by unfold wb; rw [dg_len]; omega)
      exact hno t q1 (by rw [he]; exact List.prefix_refl _)
end LenW
end Go.Proofs.Ytedoeplhjmkllaa
