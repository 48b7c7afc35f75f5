/- Package lens, plainly: what the best lengths cost. -/
import Derived.Test.YtdfclgpkhfpkhaaLfI
import Derived.Test.YtdfclgpkhfpkhaaLenK
namespace Go.Proofs.Ytdfclgpkhfpkhaa
set_option linter.unusedVariables false
set_option linter.unusedSimpArgs false
set_option linter.unnecessarySimpa false
open Go.RowKit
namespace LenW

theorem wsum_parts (l : List (Int × Int)) : wsum l = wsum (l.filter fun x => !decide (x.2 < 0)) + wsum (l.filter fun x => decide (x.2 < 0)) := by
  induction l with
  | nil => rfl
  | cons x l ih =>
    rw [List.filter_cons, List.filter_cons, wsum_cons, ih]
    by_cases h : x.2 < 0
    · simp only [h, decide_true, Bool.not_true, Bool.false_eq_true, if_false, if_true, wsum_cons]; omega
    · simp only [h, decide_false, Bool.not_false, if_true, Bool.false_eq_true, if_false, wsum_cons]; omega
theorem w_as {G : List (Int × Int)} (hl : ∀ y ∈ G, 0 ≤ y.2) (i : Nat) : ∀ n, n ≤ (rowW G i).length → wsum ((rowW G i).take n) = ((aList G (i + 1) n).map fun a => wsum (G.take a)).sum := by
  induction i with
  | zero =>
    intro n hn
    rw [aList]
    by_cases h0 : n = 0
    · rw [if_pos h0, h0]; rfl
    · have hpk : packsW ((rowW G 0).take n) = 0 := packsW_pos _ (fun x hx => hl x (List.mem_of_mem_take hx))
      rw [if_neg h0, hpk, Nat.sub_zero]
      simp [aList, rowW]
  | succ i ih =>
    intro n hn
    rw [aList]
    by_cases h0 : n = 0
    · rw [if_pos h0, h0]; rfl
    · have hq := rowW_packs G hl i n
      rw [if_neg h0, List.map_cons, List.sum_cons, wsum_parts, take_leaves hl (i + 1) n hn, packsW_all hl i n, pkgs_wsum _ _ hq, ih _ hq]
def costR : List (Int × Int) → List Nat → Int
  | [], _ => 0
  | x :: G, av => x.1 * (lamL av 0 : Int) + costR G (av.map fun a => a - 1)
theorem lam_pred (av : List Nat) (r : Nat) : lamL (av.map fun a => a - 1) r = lamL av (r + 1) := by
  unfold lamL
  induction av with
  | nil => rfl
  | cons a av ih =>
    rw [List.map_cons, List.filter_cons, List.filter_cons]
    by_cases h : r + 1 < a
    · have h2 : r < a - 1 := by omega
      simp only [h, h2, decide_true, if_true, List.length_cons, ih]
    · have h2 : ¬ r < a - 1 := by omega
      simp only [h, h2, decide_false, Bool.false_eq_true, if_false, ih]
theorem costR_eq (G : List (Int × Int)) : ∀ av : List Nat, (av.map fun a => wsum (G.take a)).sum = costR G av := by
  induction G with
  | nil =>
    intro av
    induction av with
    | nil => rfl
    | cons a av ih => rw [List.map_cons, List.sum_cons, ih]; simp [wsum, costR]
  | cons x G ih =>
    intro av
    rw [costR, ← ih]
    induction av with
    | nil => simp [lamL]
    | cons a av ih2 =>
      rw [List.map_cons, List.sum_cons, ih2]
      unfold lamL
      rw [List.filter_cons, List.map_cons, List.map_cons, List.sum_cons]
      cases a with
      | zero => simp [wsum]
      | succ a =>
        simp only [Nat.zero_lt_succ, decide_true, if_true, List.length_cons, List.take_succ_cons, wsum_cons, Nat.add_sub_cancel, Int.natCast_add, Int.mul_add]
        simp
        omega
theorem costG_eq (G : List (Int × Int)) (o : Int × Int → Nat) : ∀ av : List Nat, (∀ r (h : r < G.length), o G[r] = lamL av r) → costG G o = costR G av := by
  induction G with
  | nil => intro av _; rfl
  | cons x G ih =>
    intro av h
    have h0 := h 0 (by simp)
    simp only [List.getElem_cons_zero] at h0
    rw [costR, ← h0, ← ih _ (fun r hr => by
      have := h (r + 1) (by simp; omega)
      simp only [List.getElem_cons_succ] at this
      rw [this, lam_pred])]
    rfl
theorem costG_mono (G : List (Int × Int)) (hp : ∀ x ∈ G, 0 < x.1) (o o' : Int × Int → Nat) (h : ∀ x ∈ G, o x ≤ o' x) : costG G o ≤ costG G o' := by
  induction G with
  | nil => exact Int.le_refl _
  | cons x G ih =>
    have h1 := ih (fun y hy => hp y (by simp [hy])) (fun y hy => h y (by simp [hy]))
    have h2 := hp x (by simp)
    have h3 := h x (by simp)
    have h4 : x.1 * (o x : Int) ≤ x.1 * (o' x : Int) := Int.mul_le_mul_of_nonneg_left (by omega) (by omega)
    show x.1 * (o x : Int) + costG G o ≤ x.1 * (o' x : Int) + costG G o'
    omega
theorem isum_perm {a b : List Int} (h : a.Perm b) : a.sum = b.sum := by
  induction h with
  | nil => rfl
  | cons x _ ih => simp [ih]
  | swap x y l => simp; omega
  | trans _ _ ih1 ih2 => rw [ih1, ih2]
/-- A row of lengths, as a choice. -/
def ofL (L : List Int) (x : Int × Int) : Nat := (L[x.2.toNat]?.getD 0).toNat
theorem costK_lvs (l L : List Int) (hb : l.any badN = false) (hL : ∀ s (h : s < l.length), 0 < l[s] → 0 ≤ L[s]?.getD 0 ∧ L[s]?.getD 0 ≤ 15) (k : Nat) (hk : k ≤ l.length) : costK l L k = costG (lvsK l k) (ofL L) := by
  induction k with
  | zero => rfl
  | succ k ih =>
    have hbk := (List.any_eq_false.1 hb) _ (List.getElem_mem (show k < l.length by omega))
    simp [badN] at hbk
    have e : costG (lvsK l k ++ if 0 < l[k] then [(l[k], (k : Int))] else []) (ofL L) = costG (lvsK l k) (ofL L) + costG (if 0 < l[k] then [(l[k], (k : Int))] else []) (ofL L) := by simp [costG]
    rw [costK, ih (by omega), lvsK_succ l k (by omega), e, List.getElem?_eq_getElem (show k < l.length by omega), Option.getD_some]
    congr 1
    by_cases hp : 0 < l[k]
    · have h2 := hL k (by omega) hp
      rw [if_pos hp, winW_ok l[k] _ (by omega) (by omega), winW_ok _ _ h2.1 h2.2]
      simp only [costG, ofL, List.map_cons, List.map_nil, List.sum_cons, List.sum_nil, Int.add_zero, Int.toNat_natCast]
      rw [Int.toNat_of_nonneg h2.1]
    · rw [if_neg hp]
      have : l[k] = 0 := by omega
      rw [this]
      simp [winW, costG]
theorem costW_lvs (l L : List Int) (hn : l.length ≤ 257) (hLn : L.length = l.length) (hb : l.any badN = false) (hL : ∀ s (h : s < l.length), 0 < l[s] → 0 ≤ L[s]?.getD 0 ∧ L[s]?.getD 0 ≤ 15) : costW l L = costG (lvs l) (ofL L) := by
  unfold costW costN
  rw [hLn, show min (min l.length l.length) 257 = l.length by omega, costK_lvs l L hb hL _ (Nat.le_refl _)]
  exact (isum_perm ((sortW_perm (lvsK l l.length)).map _)).symm
theorem scale_sum (G : List (Int × Int)) (o : Int × Int → Nat) (most : Nat) (hm : most ≤ 15) (h : ∀ x ∈ G, o x ≤ most) : (G.map fun x => 2 ^ (15 - o x)).sum = (G.map fun x => 2 ^ (most - o x)).sum * 2 ^ (15 - most) := by
  induction G with
  | nil => simp
  | cons x G ih =>
    have hx := h x (by simp)
    rw [List.map_cons, List.sum_cons, List.map_cons, List.sum_cons, Nat.add_mul, ih (fun y hy => h y (by simp [hy])), ← Nat.pow_add, show most - o x + (15 - most) = 15 - o x by omega]
theorem lvs_pos (l : List Int) : ∀ x ∈ lvs l, 0 < x.1 := fun x hx => by obtain ⟨i, hi, rfl, h⟩ := lvs_mem l x hx; exact h
/-- No lengths of the same limit that leave room cost less. -/
theorem best_least (l own : List Int) (most : Int) (hv : refuseW l most = 0) (hown : own.length = l.length) (h : ∀ s (h : s < l.length), (0 < l[s] → 1 ≤ own[s]?.getD 0 ∧ own[s]?.getD 0 ≤ most) ∧ (¬ 0 < l[s] → own[s]?.getD 0 = 0)) (hs : sumL own ≤ 32768) :
    costW l (bestW l most.toNat) ≤ costW l own := by
  obtain ⟨h257, hm1, hm15, hbad, hroom⟩ := refuseW_ok hv
  obtain ⟨lam, hR, _⟩ := best_ranked hv
  have hpos := lvs_pos l
  have hu : upW (lvs l) := sortW_up _
  have hl : ∀ y ∈ lvs l, 0 ≤ y.2 := fun y hy => (lvs_what l y hy).1
  have ho : ∀ x ∈ lvs l, 1 ≤ ofL own x ∧ ofL own x ≤ most.toNat := fun x hx => by
    obtain ⟨i, hi, rfl, hp⟩ := lvs_mem l x hx
    have := (h i hi).1 hp
    unfold ofL
    simp only [Int.toNat_natCast]
    omega
  have hbl : ∀ s (hs : s < l.length), 0 < l[s] → 0 ≤ (bestW l most.toNat)[s]?.getD 0 ∧ (bestW l most.toNat)[s]?.getD 0 ≤ 15 := fun s hs hp => by
    rcases ranked_at hR s hs with ⟨r, hr, _, _, e, _, h2⟩ | ⟨hn, _⟩
    · rw [e]; simp; omega
    · exact absurd hp hn
  rw [costW_lvs l _ h257 (bestW_len l _) hbad hbl, costW_lvs l own h257 hown hbad (fun s hs hp => by have := (h s hs).1 hp; omega)]
  by_cases hf : usedL l < 2
  · have hR1 := best_few l most.toNat (by omega) hf
    refine costG_mono _ hpos _ _ (fun x hx => ?_)
    obtain ⟨r, hr, rfl⟩ := List.getElem_of_mem hx
    have e := (hR1.pos r hr).1
    have h1 := (ho _ hx).1
    unfold ofL at h1 ⊢
    rw [e]
    simp
    omega
  · have hG := lvs_len l
    have hkr : ((lvs l).map fun x => 2 ^ (15 - ofL own x)).sum ≤ 32768 := by
      refine Nat.le_trans (Nat.le_of_eq ?_) hs
      rw [sumL_range, hown, sum_lvs l (fun s => partL (own[s]?.getD 0)) (fun s hs hz => by rw [(h s hs).2 hz]; rfl) _ (Nat.le_refl _), ← sum_perm ((sortW_perm (lvsK l l.length)).map fun x => partL (own[x.2.toNat]?.getD 0))]
      show ((lvs l).map _).sum = ((lvs l).map _).sum
      congr 1
      refine List.map_congr_left (fun x hx => ?_)
      have h1 := (ho x hx).1
      unfold ofL at h1 ⊢
      rw [partL, if_pos (by omega)]
    rw [scale_sum _ _ most.toNat (by omega) (fun x hx => (ho x hx).2)] at hkr
    have hk : ((lvs l).map fun x => 2 ^ (most.toNat - ofL own x)).sum ≤ 2 ^ most.toNat := by
      have e : (32768 : Nat) = 2 ^ most.toNat * 2 ^ (15 - most.toNat) := by rw [← Nat.pow_add, show most.toNat + (15 - most.toNat) = 15 by omega]
      rw [e] at hkr
      exact Nat.le_of_mul_le_mul_right hkr (Nat.two_pow_pos _)
    have hnl := no_less hu hpos (ofL own) most.toNat (by omega) ho hk
    refine Int.le_trans (Int.le_of_eq ?_) hnl
    have hn : ∀ j, most.toNat = j + 1 → 2 * usedL l - 2 ≤ (rowW (lvs l) j).length := fun j e => by
      have := rowW_room (lvs l) most.toNat (by rw [hG]; exact hroom) j (by omega)
      rw [show most.toNat - j = 1 by omega, hG] at this
      omega
    rw [hG, w_as hl (most.toNat - 1) _ (hn _ (by omega)), show most.toNat - 1 + 1 = most.toNat by omega, costR_eq]
    refine costG_eq _ _ _ (fun r hr => ?_)
    have hb : bestW l most.toNat = ((aList (lvs l) most.toNat (2 * usedL l - 2)).flatMap fun a => ((lvs l).take a).map (·.2)).foldl incL (List.replicate l.length 0) := by rw [bestW_many l _ hf, taken_as hl _ _ _ hn, ups_flat]
    have hnn : ∀ x ∈ ((aList (lvs l) most.toNat (2 * usedL l - 2)).flatMap fun a => ((lvs l).take a).map (·.2)), 0 ≤ x := by
      intro z hz
      obtain ⟨a, _, hz⟩ := List.mem_flatMap.1 hz
      obtain ⟨y, hy, rfl⟩ := List.mem_map.1 hz
      exact hl y (List.mem_of_mem_take hy)
    have hw := lvs_what l _ (List.getElem_mem hr)
    unfold ofL
    rw [hb, incs_at _ _ ((lvs l)[r]).2.toNat (by simp; omega) hnn]
    have e : ((((lvs l)[r]).2.toNat : Nat) : Int) = ((lvs l)[r]).2 := by omega
    rw [e, cnt_flat (lvs_apart l) r hr]
    simp
end LenW
end Go.Proofs.Ytdfclgpkhfpkhaa
