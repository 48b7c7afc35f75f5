/- Plain: symbols come back; full codes take any bits. -/
import Derived.Test.YtedoeplhjmkllaaCanE
import Derived.Test.YtedoeplhjmkllaaCanI
namespace Go.Proofs.Ytedoeplhjmkllaa
set_option linter.unusedVariables false
set_option linter.unusedSimpArgs false
set_option linter.unnecessarySimpa false
open Go.RowKit
namespace LenW
open Classical

theorem sym_nat {l : List Int} {s : Int} (h : (wordV l s).2 = 0) : ∃ u : Nat, s = (u : Int) ∧ Vs l u := by
  by_cases h0 : s < 0
  · rw [wordV_out l s (.inl h0)] at h; exact absurd h (by decide)
  · obtain ⟨u, rfl⟩ := Int.eq_ofNat_of_zero_le (show 0 ≤ s by omega)
    exact ⟨u, rfl, Vs_iff.1 h⟩
theorem symsB_cons (l : List Int) (s : Int) (r : List Int) : symsB l (s :: r) = dgs l s ++ symsB l r := rfl
theorem symsOk_cons {l : List Int} {s : Int} {r : List Int} : symsOk l (s :: r) = true ↔ (wordV l s).2 = 0 ∧ symsOk l r = true := by
  unfold symsOk
  rw [List.all_cons, Bool.and_eq_true, decide_eq_true_eq]
theorem back_at {l : List Int} (hk : chkL l = 0) (L : List Nat) (h2 : ∀ d ∈ L, d < 2) : ∀ (r : List Int) (p : Nat) (rest : List Nat), symsOk l r = true → L.drop p = symsB l r ++ rest → unpG (fun p => getC l (L.drop p)) r.length p = (r, p + (symsB l r).length, 0) := by
  intro r
  induction r with
  | nil => intro p rest _ _; simp [unpG, symsB]
  | cons s r ih =>
    intro p rest ho hd
    obtain ⟨h1, h3⟩ := symsOk_cons.1 ho
    obtain ⟨u, rfl, hu⟩ := sym_nat h1
    rw [symsB_cons, dgs_V hu, List.append_assoc] at hd
    have hg : getC l (L.drop p) = ((u : Int), wd l u, 0) := getC_one hk _ (fun d hd => h2 d (List.mem_of_mem_drop hd)) hu (by rw [hd]; exact List.prefix_append _ _)
    have hwl : (wb l u).length = wd l u := by unfold wb; rw [dg_len]
    have hd2 : L.drop (p + wd l u) = symsB l r ++ rest := by rw [← List.drop_drop, hd, List.drop_left' hwl]
    rw [List.length_cons, unpG]
    try dsimp only
    rw [hg, if_pos rfl]
    try dsimp only
    rw [ih _ rest h3 hd2, symsB_cons, dgs_V hu, List.length_append, hwl, Nat.add_assoc]
theorem pack_back {l : List Int} (hk : chkL l = 0) (r : List Int) (m : List UInt8) (ho : symsOk l r = true) : unpG (fun p => getC l ((bitsB (textB (symsB l r) ++ m)).drop p)) r.length 0 = (r, (symsB l r).length, 0) := by
  obtain ⟨k, _, hb⟩ := bits_text (symsB l r) (dgs_lt l r)
  have := back_at hk (bitsB (textB (symsB l r) ++ m)) (bitsB_lt _) r 0 (List.replicate k 0 ++ bitsB m) ho (by rw [List.drop_zero, bitsB_app, hb, List.append_assoc])
  rwa [Nat.zero_add] at this
theorem sym_len {l : List Int} {r : List Int} (k : Nat) (h : k < r.length) (ho : symsOk l r = true) : ∃ u : Nat, r[k] = (u : Int) ∧ ∃ hu : u < l.length, ∃ x : Nat, l[u] = (x : Int) ∧ (symsB l (r.take (k + 1))).length = (symsB l (r.take k)).length + x := by
  have h1 : (wordV l r[k]).2 = 0 := by
    unfold symsOk at ho
    rw [List.all_eq_true] at ho
    simpa using ho _ (List.getElem_mem h)
  obtain ⟨u, hu, hv⟩ := sym_nat h1
  obtain ⟨q1, q2, q3⟩ := Vs_int hv
  refine ⟨u, hu, q1, wd l u, q3, ?_⟩
  rw [symsB_snoc l r k h, List.length_append, dg_len, hu, wordV_V hv]
  rfl

/-- A code that is full takes any fifteen bits. -/
theorem full_ex {l : List Int} (n N : Nat) (hn : n ≤ 15) (h : N < (fstL l n + cntL l n) * 2 ^ (15 - n)) : ∃ t, Vs l t ∧ wd l t ≤ n ∧ N / 2 ^ (15 - wd l t) = nm l t := by
  induction n with
  | zero => simp [fstL, cntL_zero] at h
  | succ n ih =>
    by_cases hlo : N < (fstL l n + cntL l n) * 2 ^ (15 - n)
    · obtain ⟨t, h1, h2, h3⟩ := ih (by omega) hlo
      exact ⟨t, h1, by omega, h3⟩
    · have hp : 0 < 2 ^ (15 - (n + 1)) := Nat.pow_pos (by omega)
      have e1 : (fstL l n + cntL l n) * 2 ^ (15 - n) = fstL l (n + 1) * 2 ^ (15 - (n + 1)) := by
        rw [show 15 - n = (15 - (n + 1)) + 1 by omega, Nat.pow_succ, fstL, Nat.mul_comm 2, Nat.mul_assoc, Nat.mul_comm 2]
      rw [e1] at hlo
      obtain ⟨t, h1, h2, h3⟩ := word_ex l (n + 1) (N / 2 ^ (15 - (n + 1))) (by omega) ((Nat.le_div_iff_mul_le hp).2 (by omega)) ((Nat.div_lt_iff_lt_mul hp).2 h)
      exact ⟨t, h1, by omega, by rw [h2, h3]⟩
theorem used_sum (l : List Int) : usedL l ≤ sumL l := by
  unfold usedL sumL
  induction l with
  | nil => simp
  | cons a l ih =>
    by_cases h : 0 < a
    · rw [List.filter_cons_of_pos (by simpa using h)]
      have : 0 < partL a := by unfold partL; rw [if_pos h]; exact Nat.pow_pos (by omega)
      simp only [List.length_cons, List.map_cons, List.sum_cons]
      omega
    · rw [List.filter_cons_of_neg (by simpa using h)]
      simp only [List.map_cons, List.sum_cons]
      omega
theorem full_sum {l : List Int} (hk : chkL l = 0) (hu : 2 ≤ usedL l) : (fstL l 15 + cntL l 15) * 2 ^ (15 - 15) = 32768 := by
  have h1 := used_sum l
  rcases chkL_cases l with ⟨h2, _⟩ | ⟨h2, _⟩ | ⟨h2, _⟩ | ⟨_, h2, h3, h4⟩
  · omega
  · omega
  · omega
  · rw [kraft l 15 (by omega), psum_top l h3]
    omega
theorem full_pre {l : List Int} (hk : chkL l = 0) (hu : 2 ≤ usedL l) (L : List Nat) (h2 : ∀ d ∈ L, d < 2) (h15 : 15 ≤ L.length) : ∃ t, Vs l t ∧ wb l t <+: L := by
  have hT : (L.take 15).length = 15 := by rw [List.length_take]; omega
  have h2T : ∀ d ∈ L.take 15, d < 2 := fun d hd => h2 d (List.mem_of_mem_take hd)
  have hn := num_lt (L.take 15) h2T
  rw [hT] at hn
  obtain ⟨t, h1, h3, h4⟩ := full_ex (l := l) 15 (num (L.take 15)) (by omega) (by rw [full_sum hk hu]; exact hn)
  refine ⟨t, h1, (Vs_pre hk h1 L h2).2 ⟨by omega, ?_⟩⟩
  have e := num_app ((L.take 15).take (wd l t)) ((L.take 15).drop (wd l t))
  rw [List.take_append_drop, List.take_take, Nat.min_eq_left h3, List.length_drop, hT] at e
  have hlt := num_lt ((L.take 15).drop (wd l t)) (fun d hd => h2T d (List.mem_of_mem_drop hd))
  rw [List.length_drop, hT] at hlt
  rw [e, Nat.add_comm, Nat.add_mul_div_right _ _ (Nat.pow_pos (by omega)), Nat.div_eq_of_lt hlt, Nat.zero_add] at h4
  exact h4
theorem full_get {l : List Int} (hk : chkL l = 0) (hu : 2 ≤ usedL l) (L : List Nat) (h2 : ∀ d ∈ L, d < 2) (he : (getC l L).2.2 ≠ 0) : L.length < 15 ∧ (getC l L).2.2 = 4 := by
  by_cases h : ∃ u, Vs l u ∧ wb l u <+: L
  · obtain ⟨u, hu, hp⟩ := h
    rw [getC_one hk L h2 hu hp] at he
    exact absurd rfl he
  · have hno : ∀ s, Vs l s → ¬ wb l s <+: L := fun s hs hp => h ⟨s, hs, hp⟩
    have h15 : L.length < 15 := Decidable.byContradiction fun e => by
      obtain ⟨t, q1, q2⟩ := full_pre hk hu L h2 (by omega)
      exact hno t q1 q2
    refine ⟨h15, ?_⟩
    rw [getC_none hk L h2 hno, if_pos h15, ended_iff hk L h2 h15 hno, if_pos]
    obtain ⟨t, q1, q2⟩ := full_pre hk hu (L ++ List.replicate 15 0) (by intro d hd; rw [List.mem_append] at hd; rcases hd with hd | hd; exact h2 d hd; have := List.eq_of_mem_replicate hd; omega) (by simp)
    rcases Nat.le_total (wb l t).length L.length with hle | hle
    · exact absurd (List.prefix_of_prefix_length_le q2 (List.prefix_append _ _) hle) (hno t q1)
    · exact .inr ⟨t, q1, List.prefix_of_prefix_length_le (List.prefix_append _ _) q2 hle⟩
theorem get_word {l : List Int} (hk : chkL l = 0) (L : List Nat) (h2 : ∀ d ∈ L, d < 2) (he : (getC l L).2.2 = 0) : ∃ u, Vs l u ∧ wb l u <+: L ∧ getC l L = ((u : Int), wd l u, 0) := by
  by_cases h : ∃ u, Vs l u ∧ wb l u <+: L
  · obtain ⟨u, hu, hp⟩ := h
    exact ⟨u, hu, hp, getC_one hk L h2 hu hp⟩
  · have hno : ∀ s, Vs l s → ¬ wb l s <+: L := fun s hs hp => h ⟨s, hs, hp⟩
    rw [getC_none hk L h2 hno] at he
    exfalso
    unfold endedL at he
    split at he
    · split at he <;> exact absurd he (by decide)
    · exact absurd he (by decide)
/-- What symbols one behind the other take. -/
theorem unp_bits {l : List Int} (hk : chkL l = 0) (L : List Nat) (h2 : ∀ d ∈ L, d < 2) : ∀ (n p : Nat) (x : List Int × Nat × Int), p ≤ L.length → unpG (fun p => getC l (L.drop p)) n p = x →
    symsOk l x.1 = true ∧ p + x.1.length ≤ x.2.1 ∧ x.2.1 ≤ L.length ∧ symsB l x.1 = (L.drop p).take (x.2.1 - p) ∧ (x.2.2 = 0 → x.1.length = n) ∧ (x.2.2 ≠ 0 → x.2.2 = (getC l (L.drop x.2.1)).2.2) := by
  intro n
  induction n with
  | zero =>
    intro p x hp hx
    subst hx
    simp [unpG, symsOk, symsB]
    exact hp
  | succ n ih =>
    intro p x hp hx
    have h2d : ∀ d ∈ L.drop p, d < 2 := fun d hd => h2 d (List.mem_of_mem_drop hd)
    rw [unpG] at hx
    try dsimp only at hx
    by_cases he : (getC l (L.drop p)).2.2 = 0
    · rw [if_pos he] at hx
      obtain ⟨u, hu, hpre, hg⟩ := get_word hk (L.drop p) h2d he
      rw [hg] at hx
      dsimp only at hx
      have hwl : (wb l u).length = wd l u := by unfold wb; rw [dg_len]
      have hle := hpre.length_le
      rw [hwl, List.length_drop] at hle
      have hw0 := wd_pos hu
      obtain ⟨y, hy⟩ : ∃ y, unpG (fun p => getC l (L.drop p)) n (p + wd l u) = y := ⟨_, rfl⟩
      obtain ⟨q1, q2, q3, q4, q5, q6⟩ := ih (p + wd l u) y (by omega) hy
      rw [hy] at hx
      subst hx
      refine ⟨symsOk_cons.2 ⟨Vs_iff.2 hu, q1⟩, by simp only [List.length_cons]; omega, q3, ?_, fun e => by simp only [List.length_cons]; rw [q5 e], q6⟩
      rw [symsB_cons, dgs_V hu, q4]
      obtain ⟨rest, hr⟩ := hpre
      rw [← List.drop_drop, ← hr, List.drop_left' hwl, show y.2.1 - p = (wb l u).length + (y.2.1 - (p + wd l u)) by rw [hwl]; have := q2; omega, List.take_length_add_append]
    · rw [if_neg he] at hx
      subst hx
      refine ⟨rfl, Nat.le_refl _, hp, by simp [symsB], fun e => absurd e he, fun _ => rfl⟩
theorem text_take (s : List UInt8) (a : Nat) (h : a ≤ 8 * s.length) : (textB ((bitsB s).take a)).take (a / 8) = s.take (a / 8) := by
  have e : (bitsB s).take a = bitsB (s.take (a / 8)) ++ ((bitsB (s.drop (a / 8))).take (a - 8 * (a / 8))) := by
    have h1 : bitsB s = bitsB (s.take (a / 8)) ++ bitsB (s.drop (a / 8)) := by rw [← bitsB_app, List.take_append_drop]
    have h2 : (bitsB (s.take (a / 8))).length = 8 * (a / 8) := by rw [bitsB_len, List.length_take]; omega
    rw [h1, List.take_append, h2, List.take_of_length_le (by omega)]
  rw [e, textB_bits, List.take_left' (by rw [List.length_take]; omega)]
theorem whole_of {l : List Int} (hk : chkL l = 0) (hu : 2 ≤ usedL l) (s : List UInt8) (x : List Int × Nat × Int) (hx : unpG (fun p => getC l ((bitsB s).drop p)) (8 * s.length + 1) 0 = x) :
    x.2.2 = 4 ∧ x.2.1 ≤ 8 * s.length ∧ 8 * s.length < x.2.1 + 15 ∧ x.1.length ≤ 8 * s.length ∧ symsOk l x.1 = true ∧ (textB (symsB l x.1)).length ≤ s.length ∧ x.2.1 / 8 ≤ (textB (symsB l x.1)).length ∧ (textB (symsB l x.1)).take (x.2.1 / 8) = s.take (x.2.1 / 8) := by
  have hl := bitsB_len s
  obtain ⟨q1, q2, q3, q4, q5, q6⟩ := unp_bits hk (bitsB s) (bitsB_lt s) _ 0 x (Nat.zero_le _) hx
  rw [List.drop_zero, Nat.sub_zero] at q4
  have he : x.2.2 ≠ 0 := fun e => by have := q5 e; omega
  have h6 := q6 he
  obtain ⟨r1, r2⟩ := full_get hk hu ((bitsB s).drop x.2.1) (fun d hd => bitsB_lt s d (List.mem_of_mem_drop hd)) (by rw [← h6]; exact he)
  rw [List.length_drop] at r1
  have hsl : (symsB l x.1).length = x.2.1 := by rw [q4, List.length_take]; omega
  have htl := textB_len (symsB l x.1)
  rw [hsl] at htl
  refine ⟨by rw [h6, r2], by omega, by omega, by omega, q1, by omega, by omega, ?_⟩
  rw [q4]
  exact text_take s _ (by omega)
end LenW
end Go.Proofs.Ytedoeplhjmkllaa
