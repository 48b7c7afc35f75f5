/- Plain: both gettings of a symbol tell the same. The walks of canon's reference: Pack, Unpack. Plain: symbols come back; full codes take any bits. -/
import Derived.Test.YtdfclgpkhfpkhaaCanD
import Derived.Test.YtdfclgpkhfpkhaaCanR
namespace Go.Proofs.Ytdfclgpkhfpkhaa
set_option linter.unusedVariables false
set_option linter.unusedSimpArgs false
set_option linter.unnecessarySimpa false
open Go.RowKit
namespace LenW
open Classical

theorem wordV_V {l : List Int} {s : Nat} (h : Vs l s) : wordV l s = (((nm l s : Int), (wd l s : Int)), 0) := by
  obtain ⟨h1, h2⟩ := id h
  have := wd_pos h
  rw [wordV_at l s h1, wordF_V h, if_neg (by simp; omega)]
theorem wordV_N {l : List Int} {s : Nat} (h : ¬ Vs l s) : wordV l s = ((0, 0), 70) := by
  by_cases h1 : s < l.length
  · rw [wordV_at l s h1, wordF_N h, if_pos rfl]
  · exact wordV_out l s (.inr (by omega))
theorem Vs_iff {l : List Int} {s : Nat} : (wordV l s).2 = 0 ↔ Vs l s := by
  constructor
  · intro h
    exact Decidable.byContradiction fun e => by rw [wordV_N e] at h; exact absurd h (by decide)
  · intro h; rw [wordV_V h]
theorem dgs_V {l : List Int} {s : Nat} (h : Vs l s) : dgs l s = wb l s := by
  unfold dgs wb
  rw [wordV_V h]
  rfl
theorem begF_all (D : List Nat) : ∀ (L : List Nat), (begF L D).2 = true ↔ D <+: L := by
  induction D with
  | nil => intro L; cases L <;> simp [begF]
  | cons y D ih =>
    intro L
    cases L with
    | nil => simp [begF]
    | cons x L =>
      rw [List.cons_prefix_cons, begF]
      by_cases hxy : x = y
      · rw [if_pos hxy, ih]; simp [hxy]
      · rw [if_neg hxy]; simp; intro e; exact absurd e.symm hxy
theorem begF_some (D : List Nat) : ∀ (L : List Nat), (begF L D).1 = true ↔ (D <+: L ∨ L <+: D) := by
  induction D with
  | nil => intro L; cases L <;> simp [begF]
  | cons y D ih =>
    intro L
    cases L with
    | nil => simp [begF]
    | cons x L =>
      rw [List.cons_prefix_cons, List.cons_prefix_cons, begF]
      by_cases hxy : x = y
      · rw [if_pos hxy, ih]; simp [hxy]
      · rw [if_neg hxy]; simp; exact ⟨fun e => absurd e.symm hxy, fun e => absurd e hxy⟩
theorem find_of {l : List Int} (hk : chkL l = 0) {s : Nat} (h : Vs l s) : findL l (nm l s) (wd l s) = ((s : Int), true) := by
  have h1 := rk_lt h
  unfold findL
  have e : nm l s - fstL l (wd l s) = rk l s := by unfold nm; omega
  rw [e, if_pos ⟨by unfold nm; omega, h1⟩, sortF_get h]
  rfl
theorem find_is {l : List Int} (hk : chkL l = 0) {n w : Nat} (h0 : 0 < w) (h : (findL l n w).2 = true) : ∃ s, Vs l s ∧ wd l s = w ∧ nm l s = n ∧ findL l n w = ((s : Int), true) := by
  have hc : fstL l w ≤ n ∧ n - fstL l w < cntL l w := by
    unfold findL at h
    split at h
    · assumption
    · simp at h
  obtain ⟨s, h1, h2, h3⟩ := word_ex l w n h0 hc.1 (by omega)
  refine ⟨s, h1, h2, h3, ?_⟩
  rw [← h2, ← h3]
  exact find_of hk h1
/-- What a symbol's getting tells: the one that bits begin with. -/
theorem rgo_none (l : List Int) (L : List Nat) (hno : ∀ s, Vs l s → ¬ wb l s <+: L) : ∀ (f s : Nat) (e : Int), rgo l L f s e = (0, 0, if ∃ t, s ≤ t ∧ t < s + f ∧ Vs l t ∧ L <+: wb l t then 4 else e) := by
  intro f
  induction f with
  | zero => intro s e; rw [rgo, if_neg (by rintro ⟨t, h1, h2, _⟩; omega)]
  | succ f ih =>
    intro s e
    rw [rgo]
    by_cases hV : Vs l s
    · rw [if_pos (Vs_iff.2 hV), dgs_V hV, if_neg (fun h => hno s hV ((begF_all _ _).1 h)), ih]
      by_cases h1 : L <+: wb l s
      · rw [if_pos ((begF_some _ _).2 (.inr h1)), ite_self, if_pos ⟨s, by omega, by omega, hV, h1⟩]
      · rw [if_neg (fun h => ((begF_some _ _).1 h).elim (hno s hV) h1)]
        by_cases h2 : ∃ t, s + 1 ≤ t ∧ t < s + 1 + f ∧ Vs l t ∧ L <+: wb l t
        · rw [if_pos h2, if_pos]
          obtain ⟨t, q1, q2, q3⟩ := h2
          exact ⟨t, by omega, by omega, q3⟩
        · rw [if_neg h2, if_neg]
          rintro ⟨t, q1, q2, q3, q4⟩
          by_cases hts : t = s
          · subst hts; exact h1 q4
          · exact h2 ⟨t, by omega, by omega, q3, q4⟩
    · rw [if_neg (fun h => hV (Vs_iff.1 h)), ih]
      by_cases h2 : ∃ t, s + 1 ≤ t ∧ t < s + 1 + f ∧ Vs l t ∧ L <+: wb l t
      · rw [if_pos h2, if_pos]
        obtain ⟨t, q1, q2, q3⟩ := h2
        exact ⟨t, by omega, by omega, q3⟩
      · rw [if_neg h2, if_neg]
        rintro ⟨t, q1, q2, q3, q4⟩
        by_cases hts : t = s
        · subst hts; exact hV q3
        · exact h2 ⟨t, by omega, by omega, q3, q4⟩
theorem rgo_one {l : List Int} (hk : chkL l = 0) (L : List Nat) {u : Nat} (hu : Vs l u) (hp : wb l u <+: L) : ∀ (f s : Nat) (e : Int), s ≤ u → u < s + f → rgo l L f s e = ((u : Int), wd l u, 0) := by
  intro f
  induction f with
  | zero => intro s e h1 h2; omega
  | succ f ih =>
    intro s e h1 h2
    rw [rgo]
    by_cases hsu : s = u
    · subst hsu
      rw [if_pos (Vs_iff.2 hu), dgs_V hu, if_pos ((begF_all _ _).2 hp)]
      unfold wb
      rw [dg_len]
    · by_cases hV : Vs l s
      · rw [if_pos (Vs_iff.2 hV), dgs_V hV, if_neg (fun h => hsu (wb_free hk hV hu L ((begF_all _ _).1 h) hp)), ih _ _ (by omega) (by omega)]
      · rw [if_neg (fun h => hV (Vs_iff.1 h)), ih _ _ (by omega) (by omega)]
theorem Vs_pre {l : List Int} (hk : chkL l = 0) {s : Nat} (h : Vs l s) (L : List Nat) (h2 : ∀ d ∈ L, d < 2) : wb l s <+: L ↔ wd l s ≤ L.length ∧ num (L.take (wd l s)) = nm l s := pre_word L h2 (nm_lt hk h)
theorem find_pre {l : List Int} (hk : chkL l = 0) (L : List Nat) (h2 : ∀ d ∈ L, d < 2) (w : Nat) (h0 : 0 < w) (hw : w ≤ L.length) (h : (findL l (num (L.take w)) w).2 = true) : ∃ s, Vs l s ∧ wd l s = w ∧ wb l s <+: L ∧ findL l (num (L.take w)) w = ((s : Int), true) := by
  obtain ⟨s, h1, h3, h4, h5⟩ := find_is hk h0 h
  exact ⟨s, h1, h3, (Vs_pre hk h1 L h2).2 ⟨by omega, by rw [h3, h4]⟩, h5⟩
theorem num_take_snoc (L : List Nat) (w : Nat) (h : w < L.length) : num (L.take (w + 1)) = 2 * num (L.take w) + L[w] := by
  rw [List.take_succ_eq_append_getElem h, num_snoc]
/-- The loop over widths, at width w of bits L. -/
theorem getGo_none {l : List Int} (hk : chkL l = 0) (L : List Nat) (h2 : ∀ d ∈ L, d < 2) (hno : ∀ s, Vs l s → ¬ wb l s <+: L) : ∀ (f w : Nat), w + f = 15 → w ≤ L.length → getGo l (L.drop w) (num (L.take w)) w f = (0, 0, if L.length < 15 then endedL l (num L) L.length else 40) := by
  intro f
  induction f with
  | zero => intro w h1 hw; rw [getGo, if_neg (by omega)]
  | succ f ih =>
    intro w h1 hw
    by_cases he : w = L.length
    · subst he
      rw [List.drop_length, getGo, List.take_length, if_pos (by omega)]
    · have hwl : w < L.length := by omega
      rw [List.drop_eq_getElem_cons hwl, getGo, ← num_take_snoc L w hwl, if_neg, ih (w + 1) (by omega) (by omega)]
      intro hf
      obtain ⟨s, q1, q2, q3, _⟩ := find_pre hk L h2 (w + 1) (by omega) (by omega) hf
      exact hno s q1 q3
theorem getGo_one {l : List Int} (hk : chkL l = 0) (L : List Nat) (h2 : ∀ d ∈ L, d < 2) {u : Nat} (hu : Vs l u) (hp : wb l u <+: L) : ∀ (f w : Nat), w + f = 15 → w < wd l u → getGo l (L.drop w) (num (L.take w)) w f = ((u : Int), wd l u, 0) := by
  have hup := (Vs_pre hk hu L h2).1 hp
  have hu15 := wd_le hk hu
  intro f
  induction f with
  | zero => intro w h1 hw; omega
  | succ f ih =>
    intro w h1 hw
    have hwl : w < L.length := by omega
    rw [List.drop_eq_getElem_cons hwl, getGo, ← num_take_snoc L w hwl]
    by_cases he : w + 1 = wd l u
    · have hf : findL l (num (L.take (w + 1))) (w + 1) = ((u : Int), true) := by rw [he, hup.2]; exact find_of hk hu
      rw [hf, if_pos rfl, he]
    · rw [if_neg, ih (w + 1) (by omega) (by omega)]
      intro hf
      obtain ⟨s, q1, q2, q3, _⟩ := find_pre hk L h2 (w + 1) (by omega) (by omega) hf
      have := wb_free hk q1 hu L q3 hp
      subst this
      omega
theorem getC_one {l : List Int} (hk : chkL l = 0) (L : List Nat) (h2 : ∀ d ∈ L, d < 2) {u : Nat} (hu : Vs l u) (hp : wb l u <+: L) : getC l L = ((u : Int), wd l u, 0) := by
  have := getGo_one hk L h2 hu hp 15 0 rfl (wd_pos hu)
  simpa [getC, num] using this
theorem getC_none {l : List Int} (hk : chkL l = 0) (L : List Nat) (h2 : ∀ d ∈ L, d < 2) (hno : ∀ s, Vs l s → ¬ wb l s <+: L) : getC l L = (0, 0, if L.length < 15 then endedL l (num L) L.length else 40) := by
  have := getGo_none hk L h2 hno 15 0 rfl (Nat.zero_le _)
  simpa [getC, num] using this
theorem ended_iff {l : List Int} (hk : chkL l = 0) (L : List Nat) (h2 : ∀ d ∈ L, d < 2) (h15 : L.length < 15) (hno : ∀ s, Vs l s → ¬ wb l s <+: L) : endedL l (num L) L.length = if L.length = 0 ∨ ∃ t, Vs l t ∧ L <+: wb l t then 4 else 40 := by
  unfold endedL
  have key : ((List.range 16).any (fun m => decide (L.length ≤ m) && endP l (num L) L.length m) = true) ↔ ∃ t, Vs l t ∧ L <+: wb l t := by
    rw [List.any_eq_true]
    constructor
    · rintro ⟨m, hm, he⟩
      rw [List.mem_range] at hm
      unfold endP at he
      simp only [Bool.and_eq_true, decide_eq_true_eq] at he
      obtain ⟨q0, q1, q2, q3, q4⟩ := he
      generalize hd : 2 ^ (m - L.length) = d at *
      have hd0 : 0 < d := by rw [← hd]; exact Nat.pow_pos (by omega)
      obtain ⟨N, p1, p2, p3, p4⟩ : ∃ N, fstL l m ≤ N ∧ N < fstL l m + cntL l m ∧ num L * d ≤ N ∧ N < num L * d + d := by
        rcases Nat.le_total (fstL l m) (num L * d) with h | h
        · exact ⟨num L * d, h, q3, by omega, by omega⟩
        · exact ⟨fstL l m, by omega, by omega, h, by omega⟩
      obtain ⟨t, r1, r2, r3⟩ := word_ex l m N q1 p1 p2
      refine ⟨t, r1, (word_pre L h2 (nm_lt hk r1)).2 ⟨by omega, ?_⟩⟩
      rw [r2, r3, hd]
      exact (Nat.div_eq_of_lt_le p3 (by rw [Nat.add_mul, Nat.one_mul]; exact p4)).symm
    · rintro ⟨t, ht, hp⟩
      obtain ⟨r1, r2⟩ := (word_pre L h2 (nm_lt hk ht)).1 hp
      have r3 := wd_le hk ht
      refine ⟨wd l t, List.mem_range.2 (by omega), ?_⟩
      have hrk := rk_lt ht
      have hw0 := wd_pos ht
      unfold endP
      simp only [Bool.and_eq_true, decide_eq_true_eq]
      generalize hd : 2 ^ (wd l t - L.length) = d at *
      have hd0 : 0 < d := by rw [← hd]; exact Nat.pow_pos (by omega)
      have s1 := Nat.div_mul_le_self (nm l t) d
      have s2 := Nat.lt_mul_div_succ (nm l t) hd0
      rw [← r2] at s1 s2
      have hnm : nm l t = fstL l (wd l t) + rk l t := rfl
      have s3 : d * (num L + 1) = num L * d + d := by rw [Nat.mul_add, Nat.mul_one, Nat.mul_comm]
      exact ⟨r1, hw0, by omega, by omega, by omega⟩
  by_cases h : L.length = 0 ∨ ∃ t, Vs l t ∧ L <+: wb l t
  · rw [if_pos h, if_pos]
    exact h.elim .inr (fun e => .inl (key.2 e))
  · rw [if_neg h, if_neg]
    rintro (e | e)
    · exact h (.inr (key.1 e))
    · exact h (.inl e)
/-- Both tell the same. -/
theorem get_same {l : List Int} (hk : chkL l = 0) (L : List Nat) (h2 : ∀ d ∈ L, d < 2) : getC l L = refC l L := by
  by_cases h : ∃ u, Vs l u ∧ wb l u <+: L
  · obtain ⟨u, hu, hp⟩ := h
    rw [getC_one hk L h2 hu hp, refC, rgo_one hk L hu hp _ _ _ (by omega) (by have := hu.1; omega)]
  · have hno : ∀ s, Vs l s → ¬ wb l s <+: L := fun s hs hp => h ⟨s, hs, hp⟩
    rw [getC_none hk L h2 hno, refC, rgo_none l L hno]
    congr 2
    have hiff : (∃ t, 0 ≤ t ∧ t < 0 + l.length ∧ Vs l t ∧ L <+: wb l t) ↔ ∃ t, Vs l t ∧ L <+: wb l t := ⟨fun ⟨t, _, _, q⟩ => ⟨t, q⟩, fun ⟨t, q, r⟩ => ⟨t, by omega, by have := q.1; omega, q, r⟩⟩
    by_cases h15 : L.length < 15
    · rw [if_pos h15, ended_iff hk L h2 h15 hno]
      by_cases ht : ∃ t, Vs l t ∧ L <+: wb l t
      · rw [if_pos (.inr ht), if_pos (hiff.2 ht)]
      · rw [if_neg (fun e => ht (hiff.1 e))]
        by_cases h0 : L.length = 0
        · rw [if_pos (.inl h0), if_pos h0]
        · rw [if_neg (fun e => e.elim h0 ht), if_neg h0]
    · rw [if_neg h15, if_neg, if_neg (by omega)]
      rintro ⟨t, _, _, q1, q2⟩
      have := q2.length_le
      unfold wb at this
      rw [dg_len] at this
      have hw := wd_le hk q1
      have he : L = wb l t := q2.eq_of_length (by unfold wb; rw [dg_len]; omega)
      exact hno t q1 (by rw [he]; exact List.prefix_refl _)
end LenW
end Go.Proofs.Ytdfclgpkhfpkhaa

namespace Go.Proofs.Ytdfclgpkhfpkhaa
set_option linter.unusedVariables false
set_option linter.unusedSimpArgs false
set_option linter.unnecessarySimpa false
open Go.RowKit
namespace LenW
open BitW (bc bc_app bc_one bc_len El_int2 refText_any rd_bclen)

theorem dgs_lt (l : List Int) (r : List Int) : ∀ d ∈ symsB l r, d < 2 := by
  induction r with
  | nil => intro d h; simp [symsB] at h
  | cons s r ih =>
    intro d h
    rw [symsB, List.mem_append] at h
    exact h.elim (dg_lt _ _ d) (ih d)
theorem words_rd {w : World} {g : Nat} {l : List Int} {n : Nat} (h : Blk w g 85 (fcells (wordsF l)).toArray) (hl : l.length = n) : Rd w w.heap.size 2 (some ⟨g, 0, none⟩) n (fcells (wordsF l)) :=
  (Rd.of_blk (m := n) h (by rw [fcells_len, wordsF_len, hl])).more h.lt
theorem begF_len (D : List Nat) : ∀ (L : List Nat), (begF L D).2 = true → D.length ≤ L.length := by
  induction D with
  | nil => simp
  | cons y D ih =>
    intro L
    cases L with
    | nil => simp [begF]
    | cons x L =>
      unfold begF
      by_cases hxy : x = y
      · rw [if_pos hxy]
        intro h
        have := ih L h
        simp only [List.length_cons]; omega
      · rw [if_neg hxy]; simp
theorem rgo_len (l : List Int) (L : List Nat) : ∀ (f s : Nat) (e : Int), (rgo l L f s e).2.2 = 0 → e = 0 ∨ (rgo l L f s e).2.1 ≤ L.length := by
  intro f
  induction f with
  | zero => intro s e h; exact .inl h
  | succ f ih =>
    intro s e h
    unfold rgo at h ⊢
    by_cases h1 : (wordV l s).2 = 0
    · rw [if_pos h1] at h ⊢
      by_cases h2 : (begF L (dgs l s)).2 = true
      · rw [if_pos h2]
        refine .inr ?_
        clear h
        exact begF_len _ _ h2
      · rw [if_neg h2] at h ⊢
        by_cases h3 : (begF L (dgs l s)).1 = true
        · rw [if_pos h3] at h ⊢
          rcases ih _ _ h with h4 | h4
          · exact absurd h4 (by decide)
          · exact .inr h4
        · rw [if_neg h3] at h ⊢
          exact ih _ _ h
    · rw [if_neg h1] at h ⊢
      exact ih _ _ h
theorem refC_len (l : List Int) (bs : List Nat) (p : Nat) (hp : p ≤ bs.length) (h : (refC l (bs.drop p)).2.2 = 0) : p + (refC l (bs.drop p)).2.1 ≤ bs.length := by
  unfold refC at h ⊢
  obtain ⟨e, he⟩ : ∃ e : Int, (if (bs.drop p).length = 0 then (4 : Int) else 40) = e := ⟨_, rfl⟩
  rw [he] at h ⊢
  rcases rgo_len l (bs.drop p) l.length 0 e h with h1 | h1
  · subst h1
    split at he <;> exact absurd he (by decide)
  · have := List.length_drop (l := bs) (i := p)
    omega
end LenW
end Go.Proofs.Ytdfclgpkhfpkhaa

namespace Go.Proofs.Ytdfclgpkhfpkhaa
set_option linter.unusedVariables false
set_option linter.unusedSimpArgs false
set_option linter.unnecessarySimpa false
open Go.RowKit
namespace LenW
open Classical

theorem sym_nat {l : List Int} {s : Int} (h : (wordV l s).2 = 0) : ∃ u : Nat, s = (u : Int) ∧ Vs l u := by
  by_cases h0 : s < 0
  · rw [wordV_out l s (.inl h0)] at h; exact absurd h (by decide)
  · obtain ⟨u, rfl⟩ := Int.eq_ofNat_of_zero_le (show 0 ≤ s by omega)
    exact ⟨u, rfl, Vs_iff.1 h⟩
theorem symsB_cons (l : List Int) (s : Int) (r : List Int) : symsB l (s :: r) = dgs l s ++ symsB l r := rfl
theorem symsOk_cons {l : List Int} {s : Int} {r : List Int} : symsOk l (s :: r) = true ↔ (wordV l s).2 = 0 ∧ symsOk l r = true := by
  unfold symsOk
  rw [List.all_cons, Bool.and_eq_true, decide_eq_true_eq]
theorem back_at {l : List Int} (hk : chkL l = 0) (L : List Nat) (h2 : ∀ d ∈ L, d < 2) : ∀ (r : List Int) (p : Nat) (rest : List Nat), symsOk l r = true → L.drop p = symsB l r ++ rest → unpG (fun p => getC l (L.drop p)) r.length p = (r, p + (symsB l r).length, 0) := by
  intro r
  induction r with
  | nil => intro p rest _ _; simp [unpG, symsB]
  | cons s r ih =>
    intro p rest ho hd
    obtain ⟨h1, h3⟩ := symsOk_cons.1 ho
    obtain ⟨u, rfl, hu⟩ := sym_nat h1
    rw [symsB_cons, dgs_V hu, List.append_assoc] at hd
    have hg : getC l (L.drop p) = ((u : Int), wd l u, 0) := getC_one hk _ (fun d hd => h2 d (List.mem_of_mem_drop hd)) hu (by rw [hd]; exact List.prefix_append _ _)
    have hwl : (wb l u).length = wd l u := by unfold wb; rw [dg_len]
    have hd2 : L.drop (p + wd l u) = symsB l r ++ rest := by rw [← List.drop_drop, hd, List.drop_left' hwl]
    rw [List.length_cons, unpG]
    try dsimp only
    rw [hg, if_pos rfl]
    try dsimp only
    rw [ih _ rest h3 hd2, symsB_cons, dgs_V hu, List.length_append, hwl, Nat.add_assoc]
theorem pack_back {l : List Int} (hk : chkL l = 0) (r : List Int) (m : List UInt8) (ho : symsOk l r = true) : unpG (fun p => getC l ((bitsB (textB (symsB l r) ++ m)).drop p)) r.length 0 = (r, (symsB l r).length, 0) := by
  obtain ⟨k, _, hb⟩ := bits_text (symsB l r) (dgs_lt l r)
  have := back_at hk (bitsB (textB (symsB l r) ++ m)) (bitsB_lt _) r 0 (List.replicate k 0 ++ bitsB m) ho (by rw [List.drop_zero, bitsB_app, hb, List.append_assoc])
  rwa [Nat.zero_add] at this
theorem sym_len {l : List Int} {r : List Int} (k : Nat) (h : k < r.length) (ho : symsOk l r = true) : ∃ u : Nat, r[k] = (u : Int) ∧ ∃ hu : u < l.length, ∃ x : Nat, l[u] = (x : Int) ∧ (symsB l (r.take (k + 1))).length = (symsB l (r.take k)).length + x := by
  have h1 : (wordV l r[k]).2 = 0 := by
    unfold symsOk at ho
    rw [List.all_eq_true] at ho
    simpa using ho _ (List.getElem_mem h)
  obtain ⟨u, hu, hv⟩ := sym_nat h1
  obtain ⟨q1, q2, q3⟩ := Vs_int hv
  refine ⟨u, hu, q1, wd l u, q3, ?_⟩
  rw [symsB_snoc l r k h, List.length_append, dg_len, hu, wordV_V hv]
  rfl

/-- A code that is full takes any fifteen bits. -/
theorem full_ex {l : List Int} (n N : Nat) (hn : n ≤ 15) (h : N < (fstL l n + cntL l n) * 2 ^ (15 - n)) : ∃ t, Vs l t ∧ wd l t ≤ n ∧ N / 2 ^ (15 - wd l t) = nm l t := by
  induction n with
  | zero => simp [fstL, cntL_zero] at h
  | succ n ih =>
    by_cases hlo : N < (fstL l n + cntL l n) * 2 ^ (15 - n)
    · obtain ⟨t, h1, h2, h3⟩ := ih (by omega) hlo
      exact ⟨t, h1, by omega, h3⟩
    · have hp : 0 < 2 ^ (15 - (n + 1)) := Nat.pow_pos (by omega)
      have e1 : (fstL l n + cntL l n) * 2 ^ (15 - n) = fstL l (n + 1) * 2 ^ (15 - (n + 1)) := by
        rw [show 15 - n = (15 - (n + 1)) + 1 by omega, Nat.pow_succ, fstL, Nat.mul_comm 2, Nat.mul_assoc, Nat.mul_comm 2]
      rw [e1] at hlo
      obtain ⟨t, h1, h2, h3⟩ := word_ex l (n + 1) (N / 2 ^ (15 - (n + 1))) (by omega) ((Nat.le_div_iff_mul_le hp).2 (by omega)) ((Nat.div_lt_iff_lt_mul hp).2 h)
      exact ⟨t, h1, by omega, by rw [h2, h3]⟩
theorem used_sum (l : List Int) : usedL l ≤ sumL l := by
  unfold usedL sumL
  induction l with
  | nil => simp
  | cons a l ih =>
    by_cases h : 0 < a
    · rw [List.filter_cons_of_pos (by simpa using h)]
      have : 0 < partL a := by unfold partL; rw [if_pos h]; exact Nat.pow_pos (by omega)
      simp only [List.length_cons, List.map_cons, List.sum_cons]
      omega
    · rw [List.filter_cons_of_neg (by simpa using h)]
      simp only [List.map_cons, List.sum_cons]
      omega
theorem full_sum {l : List Int} (hk : chkL l = 0) (hu : 2 ≤ usedL l) : (fstL l 15 + cntL l 15) * 2 ^ (15 - 15) = 32768 := by
  have h1 := used_sum l
  rcases chkL_cases l with ⟨h2, _⟩ | ⟨h2, _⟩ | ⟨h2, _⟩ | ⟨_, h2, h3, h4⟩
  · omega
  · omega
  · omega
  · rw [kraft l 15 (by omega), psum_top l h3]
    omega
theorem full_pre {l : List Int} (hk : chkL l = 0) (hu : 2 ≤ usedL l) (L : List Nat) (h2 : ∀ d ∈ L, d < 2) (h15 : 15 ≤ L.length) : ∃ t, Vs l t ∧ wb l t <+: L := by
  have hT : (L.take 15).length = 15 := by rw [List.length_take]; omega
  have h2T : ∀ d ∈ L.take 15, d < 2 := fun d hd => h2 d (List.mem_of_mem_take hd)
  have hn := num_lt (L.take 15) h2T
  rw [hT] at hn
  obtain ⟨t, h1, h3, h4⟩ := full_ex (l := l) 15 (num (L.take 15)) (by omega) (by rw [full_sum hk hu]; exact hn)
  refine ⟨t, h1, (Vs_pre hk h1 L h2).2 ⟨by omega, ?_⟩⟩
  have e := num_app ((L.take 15).take (wd l t)) ((L.take 15).drop (wd l t))
  rw [List.take_append_drop, List.take_take, Nat.min_eq_left h3, List.length_drop, hT] at e
  have hlt := num_lt ((L.take 15).drop (wd l t)) (fun d hd => h2T d (List.mem_of_mem_drop hd))
  rw [List.length_drop, hT] at hlt
  rw [e, Nat.add_comm, Nat.add_mul_div_right _ _ (Nat.pow_pos (by omega)), Nat.div_eq_of_lt hlt, Nat.zero_add] at h4
  exact h4
theorem full_get {l : List Int} (hk : chkL l = 0) (hu : 2 ≤ usedL l) (L : List Nat) (h2 : ∀ d ∈ L, d < 2) (he : (getC l L).2.2 ≠ 0) : L.length < 15 ∧ (getC l L).2.2 = 4 := by
  by_cases h : ∃ u, Vs l u ∧ wb l u <+: L
  · obtain ⟨u, hu, hp⟩ := h
    rw [getC_one hk L h2 hu hp] at he
    exact absurd rfl he
  · have hno : ∀ s, Vs l s → ¬ wb l s <+: L := fun s hs hp => h ⟨s, hs, hp⟩
    have h15 : L.length < 15 := Decidable.byContradiction fun e => by
      obtain ⟨t, q1, q2⟩ := full_pre hk hu L h2 (by omega)
      exact hno t q1 q2
    refine ⟨h15, ?_⟩
    rw [getC_none hk L h2 hno, if_pos h15, ended_iff hk L h2 h15 hno, if_pos]
    obtain ⟨t, q1, q2⟩ := full_pre hk hu (L ++ List.replicate 15 0) (by intro d hd; rw [List.mem_append] at hd; rcases hd with hd | hd; exact h2 d hd; have := List.eq_of_mem_replicate hd; omega) (by simp)
    rcases Nat.le_total (wb l t).length L.length with hle | hle
    · exact absurd (List.prefix_of_prefix_length_le q2 (List.prefix_append _ _) hle) (hno t q1)
    · exact .inr ⟨t, q1, List.prefix_of_prefix_length_le (List.prefix_append _ _) q2 hle⟩
theorem get_word {l : List Int} (hk : chkL l = 0) (L : List Nat) (h2 : ∀ d ∈ L, d < 2) (he : (getC l L).2.2 = 0) : ∃ u, Vs l u ∧ wb l u <+: L ∧ getC l L = ((u : Int), wd l u, 0) := by
  by_cases h : ∃ u, Vs l u ∧ wb l u <+: L
  · obtain ⟨u, hu, hp⟩ := h
    exact ⟨u, hu, hp, getC_one hk L h2 hu hp⟩
  · have hno : ∀ s, Vs l s → ¬ wb l s <+: L := fun s hs hp => h ⟨s, hs, hp⟩
    rw [getC_none hk L h2 hno] at he
    exfalso
    unfold endedL at he
    split at he
    · split at he <;> exact absurd he (by decide)
    · exact absurd he (by decide)
/-- What symbols one behind the other take. -/
theorem unp_bits {l : List Int} (hk : chkL l = 0) (L : List Nat) (h2 : ∀ d ∈ L, d < 2) : ∀ (n p : Nat) (x : List Int × Nat × Int), p ≤ L.length → unpG (fun p => getC l (L.drop p)) n p = x →
    symsOk l x.1 = true ∧ p + x.1.length ≤ x.2.1 ∧ x.2.1 ≤ L.length ∧ symsB l x.1 = (L.drop p).take (x.2.1 - p) ∧ (x.2.2 = 0 → x.1.length = n) ∧ (x.2.2 ≠ 0 → x.2.2 = (getC l (L.drop x.2.1)).2.2) := by
  intro n
  induction n with
  | zero =>
    intro p x hp hx
    subst hx
    simp [unpG, symsOk, symsB]
    exact hp
  | succ n ih =>
    intro p x hp hx
    have h2d : ∀ d ∈ L.drop p, d < 2 := fun d hd => h2 d (List.mem_of_mem_drop hd)
    rw [unpG] at hx
    try dsimp only at hx
    by_cases he : (getC l (L.drop p)).2.2 = 0
    · rw [if_pos he] at hx
      obtain ⟨u, hu, hpre, hg⟩ := get_word hk (L.drop p) h2d he
      rw [hg] at hx
      dsimp only at hx
      have hwl : (wb l u).length = wd l u := by unfold wb; rw [dg_len]
      have hle := hpre.length_le
      rw [hwl, List.length_drop] at hle
      have hw0 := wd_pos hu
      obtain ⟨y, hy⟩ : ∃ y, unpG (fun p => getC l (L.drop p)) n (p + wd l u) = y := ⟨_, rfl⟩
      obtain ⟨q1, q2, q3, q4, q5, q6⟩ := ih (p + wd l u) y (by omega) hy
      rw [hy] at hx
      subst hx
      refine ⟨symsOk_cons.2 ⟨Vs_iff.2 hu, q1⟩, by simp only [List.length_cons]; omega, q3, ?_, fun e => by simp only [List.length_cons]; rw [q5 e], q6⟩
      rw [symsB_cons, dgs_V hu, q4]
      obtain ⟨rest, hr⟩ := hpre
      rw [← List.drop_drop, ← hr, List.drop_left' hwl, show y.2.1 - p = (wb l u).length + (y.2.1 - (p + wd l u)) by rw [hwl]; have := q2; omega, List.take_length_add_append]
    · rw [if_neg he] at hx
      subst hx
      refine ⟨rfl, Nat.le_refl _, hp, by simp [symsB], fun e => absurd e he, fun _ => rfl⟩
theorem text_take (s : List UInt8) (a : Nat) (h : a ≤ 8 * s.length) : (textB ((bitsB s).take a)).take (a / 8) = s.take (a / 8) := by
  have e : (bitsB s).take a = bitsB (s.take (a / 8)) ++ ((bitsB (s.drop (a / 8))).take (a - 8 * (a / 8))) := by
    have h1 : bitsB s = bitsB (s.take (a / 8)) ++ bitsB (s.drop (a / 8)) := by rw [← bitsB_app, List.take_append_drop]
    have h2 : (bitsB (s.take (a / 8))).length = 8 * (a / 8) := by rw [bitsB_len, List.length_take]; omega
    rw [h1, List.take_append, h2, List.take_of_length_le (by omega)]
  rw [e, textB_bits, List.take_left' (by rw [List.length_take]; omega)]
theorem whole_of {l : List Int} (hk : chkL l = 0) (hu : 2 ≤ usedL l) (s : List UInt8) (x : List Int × Nat × Int) (hx : unpG (fun p => getC l ((bitsB s).drop p)) (8 * s.length + 1) 0 = x) :
    x.2.2 = 4 ∧ x.2.1 ≤ 8 * s.length ∧ 8 * s.length < x.2.1 + 15 ∧ x.1.length ≤ 8 * s.length ∧ symsOk l x.1 = true ∧ (textB (symsB l x.1)).length ≤ s.length ∧ x.2.1 / 8 ≤ (textB (symsB l x.1)).length ∧ (textB (symsB l x.1)).take (x.2.1 / 8) = s.take (x.2.1 / 8) := by
  have hl := bitsB_len s
  obtain ⟨q1, q2, q3, q4, q5, q6⟩ := unp_bits hk (bitsB s) (bitsB_lt s) _ 0 x (Nat.zero_le _) hx
  rw [List.drop_zero, Nat.sub_zero] at q4
  have he : x.2.2 ≠ 0 := fun e => by have := q5 e; omega
  have h6 := q6 he
  obtain ⟨r1, r2⟩ := full_get hk hu ((bitsB s).drop x.2.1) (fun d hd => bitsB_lt s d (List.mem_of_mem_drop hd)) (by rw [← h6]; exact he)
  rw [List.length_drop] at r1
  have hsl : (symsB l x.1).length = x.2.1 := by rw [q4, List.length_take]; omega
  have htl := textB_len (symsB l x.1)
  rw [hsl] at htl
  refine ⟨by rw [h6, r2], by omega, by omega, by omega, q1, by omega, by omega, ?_⟩
  rw [q4]
  exact text_take s _ (by omega)
end LenW
end Go.Proofs.Ytdfclgpkhfpkhaa
