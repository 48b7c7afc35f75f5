/- Package lens, plainly: a code has the best lengths; who comes more often has no greater one. -/
import Derived.Test.YtpnccehaomikbaaLfI
namespace Go.Proofs.Ytpnccehaomikbaa
set_option linter.unusedVariables false
set_option linter.unusedSimpArgs false
set_option linter.unnecessarySimpa false
open Go.RowKit
namespace LenW

theorem sum_const (f c : Nat) : ((List.range f).map fun _ => c).sum = f * c := by
  induction f with
  | zero => simp
  | succ f ih => rw [List.range_succ, List.map_append, List.sum_append, ih, Nat.add_mul]; simp
theorem sum_add (f : Nat) (g h : Nat → Nat) : ((List.range f).map fun r => g r + h r).sum = ((List.range f).map g).sum + ((List.range f).map h).sum := by
  induction f with
  | zero => rfl
  | succ f ih => rw [List.range_succ, List.map_append, List.map_append, List.map_append, List.sum_append, List.sum_append, List.sum_append, ih]; simp; omega
theorem sum_ge (g : Nat → Nat) (f : Nat) (h : ∀ r, r < f → 1 ≤ g r) : f ≤ ((List.range f).map g).sum := by
  induction f with
  | zero => simp
  | succ f ih =>
    rw [List.range_succ, List.map_append, List.sum_append]
    have h1 := ih (fun r hr => h r (by omega))
    have h2 := h f (by omega)
    simp
    omega
theorem sum_one (g : Nat → Nat) (f : Nat) (h : ∀ r, r < f → 1 ≤ g r) (r0 : Nat) (h0 : r0 < f) : g r0 + (f - 1) ≤ ((List.range f).map g).sum := by
  induction f with
  | zero => omega
  | succ f ih =>
    rw [List.range_succ, List.map_append, List.sum_append]
    have h2 := h f (by omega)
    simp only [List.map_cons, List.map_nil, List.sum_cons, List.sum_nil, Nat.add_zero]
    by_cases e : r0 = f
    · subst e
      have := sum_ge g r0 (fun r hr => h r (by omega))
      omega
    · have := ih (fun r hr => h r (by omega)) (by omega)
      omega
theorem sum_same (f : Nat) (g h : Nat → Nat) (e : ∀ r, r < f → g r = h r) : ((List.range f).map g).sum = ((List.range f).map h).sum := by
  rw [List.map_congr_left (fun r hr => e r (List.mem_range.1 hr))]
theorem kraftA (av : List Nat) (f : Nat) (hf : 2 ≤ f) (hd : downA av) (hl : av.length ≤ 15) (ha : ∀ a ∈ av, a ≤ f) (hs : sumA 14 av = (2 * f - 2) * 2 ^ 14) : ((List.range f).map fun r => 2 ^ (15 - lamL av r)).sum = 32768 := by
  have h1 := sum_add f (shareA 14 av) (fun r => 2 ^ (15 - lamL av r))
  rw [sum_same f _ (fun _ => 32768) (fun r _ => share_eq av 14 r hd hl), sum_const, share_sum f av 14 ha, hs] at h1
  generalize ((List.range f).map fun r => 2 ^ (15 - lamL av r)).sum = z at *
  omega
theorem lam_pos (av : List Nat) (f : Nat) (hf : 2 ≤ f) (hk : ((List.range f).map fun r => 2 ^ (15 - lamL av r)).sum = 32768) (r : Nat) (hr : r < f) : 1 ≤ lamL av r := by
  rcases Nat.eq_zero_or_pos (lamL av r) with h | h
  · have := sum_one (fun r => 2 ^ (15 - lamL av r)) f (fun r _ => Nat.one_le_two_pow) r hr
    try dsimp only at this
    rw [hk, h] at this
    simp at this
    omega
  · exact h
theorem lam_le (av : List Nat) (r : Nat) : lamL av r ≤ av.length := List.length_filter_le _ _
theorem lam_anti (av : List Nat) (r q : Nat) (h : r ≤ q) : lamL av q ≤ lamL av r := by
  unfold lamL
  induction av with
  | nil => simp
  | cons a av ih =>
    rw [List.filter_cons, List.filter_cons]
    by_cases h1 : q < a
    · have h2 : r < a := by omega
      simp only [h1, h2, decide_true, if_true, List.length_cons]; omega
    · by_cases h2 : r < a
      · simp only [h1, h2, decide_true, decide_false, if_true, Bool.false_eq_true, if_false, List.length_cons]; omega
      · simp only [h1, h2, decide_false, Bool.false_eq_true, if_false]; exact ih
theorem aList_len (G : List (Int × Int)) (i : Nat) : ∀ n, (aList G i n).length ≤ i := by
  induction i with
  | zero => intro n; simp [aList]
  | succ i ih => intro n; rw [aList]; split; · simp
                 · have := ih (2 * packsW ((rowW G i).take n)); simp; omega
theorem aList_le {G : List (Int × Int)} (hl : ∀ y ∈ G, 0 ≤ y.2) (i : Nat) : ∀ n, (∀ j, i = j + 1 → n ≤ (rowW G j).length) → ∀ a ∈ aList G i n, a ≤ G.length := by
  induction i with
  | zero => intro n _ a ha; simp [aList] at ha
  | succ i ih =>
    intro n hn a ha
    rw [aList] at ha
    split at ha
    · simp at ha
    · rcases List.mem_cons.1 ha with rfl | ha
      · have e := congrArg List.length (take_leaves hl i n (hn i rfl))
        rw [leaves_len, List.length_take, List.length_take, Nat.min_eq_left (hn i rfl)] at e
        omega
      · exact ih _ (fun j e => by subst e; exact rowW_packs G hl j n) a ha
theorem lvsK_what (l : List Int) (k : Nat) (hk : k ≤ l.length) : ∀ x ∈ lvsK l k, 0 ≤ x.2 ∧ x.2 < (k : Int) := by
  induction k with
  | zero => intro x hx; simp [lvsK] at hx
  | succ k ih =>
    intro x hx
    rw [lvsK_succ l k (by omega)] at hx
    rcases List.mem_append.1 hx with h | h
    · have := ih (by omega) x h; omega
    · split at h
      · simp at h; subst h; dsimp only; omega
      · simp at h
theorem lvsK_apart (l : List Int) (k : Nat) (hk : k ≤ l.length) : (lvsK l k).Pairwise fun a b => a.2 ≠ b.2 := by
  induction k with
  | zero => simp [lvsK]
  | succ k ih =>
    rw [lvsK_succ l k (by omega)]
    refine List.pairwise_append.2 ⟨ih (by omega), by split <;> simp, fun x hx y hy => ?_⟩
    have := lvsK_what l k (by omega) x hx
    split at hy
    · simp at hy; subst hy; dsimp only; omega
    · simp at hy
theorem lvs_apart (l : List Int) : (lvs l).Pairwise fun a b => a.2 ≠ b.2 :=
  (List.Perm.pairwise_iff (fun {x y} h => fun e => h e.symm) (sortW_perm _)).2 (lvsK_apart l _ (Nat.le_refl _))
theorem sum_perm {a b : List Nat} (h : a.Perm b) : a.sum = b.sum := by
  induction h with
  | nil => rfl
  | cons x _ ih => simp [ih]
  | swap x y l => simp; omega
  | trans _ _ ih1 ih2 => rw [ih1, ih2]
theorem sum_lvs (l : List Int) (g : Nat → Nat) (hg : ∀ s (h : s < l.length), ¬ 0 < l[s] → g s = 0) (k : Nat) (hk : k ≤ l.length) : ((List.range k).map g).sum = ((lvsK l k).map fun x => g x.2.toNat).sum := by
  induction k with
  | zero => simp [lvsK]
  | succ k ih =>
    rw [List.range_succ, List.map_append, List.sum_append, ih (by omega), lvsK_succ l k (by omega), List.map_append, List.sum_append]
    congr 1
    split
    · simp
    · rename_i h; simp [hg k (by omega) h]
theorem sum_ranks (l : List Int) (g : Nat → Nat) (hg : ∀ s (h : s < l.length), ¬ 0 < l[s] → g s = 0) : ((List.range l.length).map g).sum = ((List.range (lvs l).length).map fun r => g ((lvs l)[r]?.getD (0, 0)).2.toNat).sum := by
  rw [sum_lvs l g hg _ (Nat.le_refl _), ← sum_perm ((sortW_perm (lvsK l l.length)).map fun x => g x.2.toNat)]
  congr 1
  show (lvs l).map _ = _
  refine List.ext_getElem (by simp) (fun r h1 h2 => ?_)
  simp only [List.length_map] at h1
  simp [List.getElem?_eq_getElem h1]
theorem sumL_range (L : List Int) : sumL L = ((List.range L.length).map fun s => partL (L[s]?.getD 0)).sum := by
  unfold sumL
  congr 1
  refine List.ext_getElem (by simp) (fun r h1 h2 => ?_)
  simp only [List.length_map] at h1
  simp [List.getElem?_eq_getElem h1]
/-- Who stands where. -/
theorem rank_of (l : List Int) (s : Nat) (h : s < l.length) (hp : 0 < l[s]) : ∃ r, ∃ hr : r < (lvs l).length, (lvs l)[r] = (l[s], (s : Int)) := by
  have : (l[s], (s : Int)) ∈ lvs l := by
    refine (sortW_perm _).mem_iff.2 ?_
    unfold lvsK
    exact List.mem_filterMap.2 ⟨s, List.mem_range.2 h, by simp [List.getElem?_eq_getElem h, hp]⟩
  obtain ⟨r, hr, e⟩ := List.getElem_of_mem this
  exact ⟨r, hr, e⟩
/-- The lengths are told by the places in the first row. -/
structure Ranked (l L : List Int) (most : Nat) (lam : Nat → Nat) : Prop where
  len : L.length = l.length
  pos : ∀ r (h : r < (lvs l).length), L[((lvs l)[r]).2.toNat]? = some (lam r : Int) ∧ 1 ≤ lam r ∧ lam r ≤ most
  zero : ∀ s (h : s < l.length), ¬ 0 < l[s] → L[s]? = some 0
  anti : ∀ r q, r ≤ q → q < (lvs l).length → lam q ≤ lam r
theorem ranked_at {l L : List Int} {most : Nat} {lam : Nat → Nat} (h : Ranked l L most lam) (s : Nat) (hs : s < l.length) : (∃ r, ∃ hr : r < (lvs l).length, 0 < l[s] ∧ (lvs l)[r] = (l[s], (s : Int)) ∧ L[s]? = some (lam r : Int) ∧ 1 ≤ lam r ∧ lam r ≤ most) ∨ (¬ 0 < l[s] ∧ L[s]? = some 0) := by
  by_cases hp : 0 < l[s]
  · obtain ⟨r, hr, e⟩ := rank_of l s hs hp
    have := h.pos r hr
    rw [e] at this
    simp only [Int.toNat_natCast] at this
    exact .inl ⟨r, hr, hp, e, this⟩
  · exact .inr ⟨hp, h.zero s hs hp⟩
theorem best_few (l : List Int) (most : Nat) (hm : 1 ≤ most) (hf : usedL l < 2) : Ranked l (bestW l most) most (fun _ => 1) := by
  have hG := lvs_len l
  have hlen := bestW_len l most
  rw [bestW_few l most hf] at hlen ⊢
  match hGe : lvs l with
  | [] =>
    refine ⟨by simp, fun r h => ?_, fun s h _ => ?_, fun _ _ _ _ => Nat.le_refl _⟩
    · rw [hGe] at h; simp at h
    · simp [h]
  | [x] =>
    have hx := lvs_what l x (by rw [hGe]; simp)
    obtain ⟨i, hi, hxe, hxp⟩ := lvs_mem l x (by rw [hGe]; simp)
    show Ranked l ((List.replicate l.length 0).set x.2.toNat 1) most (fun _ => 1)
    refine ⟨by simp, fun r h => ?_, fun s h hn => ?_, fun _ _ _ _ => Nat.le_refl _⟩
    · simp only [hGe] at h ⊢
      obtain rfl : r = 0 := by simpa using h
      refine ⟨?_, Nat.le_refl _, hm⟩
      simp only [List.getElem_cons_zero]
      rw [List.getElem?_set_self (by simp; omega)]
      rfl
    · have hne : x.2.toNat ≠ s := by
        intro e
        rw [hxe] at e
        simp only [Int.toNat_natCast] at e
        subst e
        exact hn hxp
      rw [List.getElem?_set_ne hne]
      simp [h]
  | x :: y :: r => rw [hGe] at hG; simp at hG; omega
theorem best_many (l : List Int) (most : Nat) (hm : 1 ≤ most) (hm15 : most ≤ 15) (hf : ¬ usedL l < 2) (hroom : usedL l ≤ 2 ^ most) : ∃ lam, Ranked l (bestW l most) most lam ∧ ((List.range (lvs l).length).map fun r => 2 ^ (15 - lam r)).sum = 32768 := by
  have hG := lvs_len l
  have hu : upW (lvs l) := sortW_up _
  have hl : ∀ y ∈ lvs l, 0 ≤ y.2 := fun y hy => (lvs_what l y hy).1
  have hpos : ∀ x ∈ lvs l, 0 < x.1 := fun x hx => by obtain ⟨i, hi, rfl, h⟩ := lvs_mem l x hx; exact h
  have hn : ∀ j, most = j + 1 → 2 * usedL l - 2 ≤ (rowW (lvs l) j).length := fun j e => by
    have := rowW_room (lvs l) most (by rw [hG]; exact hroom) j (by omega)
    rw [show most - j = 1 by omega, hG] at this
    omega
  obtain ⟨av, hav⟩ : ∃ av, aList (lvs l) most (2 * usedL l - 2) = av := ⟨_, rfl⟩
  have h1 := taken_as hl most (2 * usedL l - 2) (List.replicate l.length 0) hn
  have h2 := aList_len (lvs l) most (2 * usedL l - 2)
  have h3 := aList_le hl most (2 * usedL l - 2) hn
  have h4 := aList_down hu hpos hl most (2 * usedL l - 2) hn
  have h5 := aList_sum hl most (2 * usedL l - 2) 14 (by omega) hn (by omega)
  rw [hav] at h1 h2 h3 h4 h5
  have hk := kraftA av (lvs l).length (by omega) h4 (by omega) h3 (by rw [hG]; exact h5)
  have hb : bestW l most = (av.flatMap fun a => ((lvs l).take a).map (·.2)).foldl incL (List.replicate l.length 0) := by rw [bestW_many l most hf, h1, ups_flat]
  have hnn : ∀ x ∈ (av.flatMap fun a => ((lvs l).take a).map (·.2)), 0 ≤ x := by
    intro z hz
    obtain ⟨a, _, hz⟩ := List.mem_flatMap.1 hz
    obtain ⟨y, hy, rfl⟩ := List.mem_map.1 hz
    exact hl y (List.mem_of_mem_take hy)
  refine ⟨lamL av, ⟨bestW_len l most, fun r hr => ⟨?_, lam_pos av _ (by omega) hk r hr, Nat.le_trans (lam_le av r) h2⟩, fun s hs hz => ?_, fun r q hrq _ => lam_anti av r q hrq⟩, hk⟩
  · have hw := lvs_what l _ (List.getElem_mem hr)
    obtain ⟨y, hy⟩ := Int.eq_ofNat_of_zero_le hw.1
    rw [hb, incs_at _ _ ((lvs l)[r]).2.toNat (by simp; omega) hnn]
    have e : ((((lvs l)[r]).2.toNat : Nat) : Int) = ((lvs l)[r]).2 := by omega
    rw [e, cnt_flat (lvs_apart l) r hr av]
    simp
  · rw [hb, incs_at _ _ s (by simpa using hs) hnn, cnt_none (s : Int) (fun x hx e => by
      obtain ⟨i, hi, rfl, hp⟩ := lvs_mem l x hx
      have : i = s := by dsimp only at e; omega
      subst this
      exact hz hp) av]
    simp
theorem ranked_sum {l L : List Int} {most : Nat} {lam : Nat → Nat} (h : Ranked l L most lam) : sumL L = ((List.range (lvs l).length).map fun r => 2 ^ (15 - lam r)).sum := by
  rw [sumL_range, h.len, sum_ranks l (fun s => partL (L[s]?.getD 0)) (fun s hs hz => by rw [h.zero s hs hz]; rfl)]
  refine sum_same _ _ _ (fun r hr => ?_)
  obtain ⟨h1, h2, _⟩ := h.pos r hr
  rw [List.getElem?_eq_getElem hr, Option.getD_some, h1, Option.getD_some, partL, if_pos (by omega), Int.toNat_natCast]
theorem ranked_ok {l L : List Int} {most : Nat} {lam : Nat → Nat} (h : Ranked l L most lam) (hm : most ≤ 15) : okL L = true := by
  unfold okL
  rw [List.all_eq_true]
  intro x hx
  obtain ⟨s, hs, rfl⟩ := List.getElem_of_mem hx
  rcases ranked_at h s (by rw [← h.len]; exact hs) with ⟨r, hr, _, _, e, h1, h2⟩ | ⟨_, e⟩
  · rw [List.getElem?_eq_getElem hs] at e
    rw [Option.some.inj e]
    simp
    omega
  · rw [List.getElem?_eq_getElem hs] at e
    rw [Option.some.inj e]
    simp
theorem best_ranked {l : List Int} {most : Int} (hv : refuseW l most = 0) : ∃ lam, Ranked l (bestW l most.toNat) most.toNat lam ∧ chkL (bestW l most.toNat) = 0 := by
  obtain ⟨h257, hm1, hm15, hbad, hroom⟩ := refuseW_ok hv
  have hlen := bestW_len l most.toNat
  by_cases hf : usedL l < 2
  · have hR := best_few l most.toNat (by omega) hf
    refine ⟨_, hR, ?_⟩
    have hs := ranked_sum hR
    rw [lvs_len] at hs
    unfold chkL
    rw [if_neg (by omega), if_neg (by rw [ranked_ok hR (by omega)]; simp)]
    by_cases h0 : usedL l = 0
    · rw [h0] at hs
      rw [if_pos (.inl (by rw [hs]; rfl))]
    · have h1 : usedL l = 1 := by omega
      rw [h1] at hs
      have e : sumL (bestW l most.toNat) = 16384 := by rw [hs]; rfl
      refine if_pos (.inr (.inr ⟨?_, e⟩))
      have hG := lvs_len l
      rw [h1] at hG
      obtain ⟨x, hx⟩ := List.length_eq_one_iff.1 hG
      have hw := lvs_what l x (by rw [hx]; simp)
      rw [bestW_few l _ hf, hx]
      show usedL ((List.replicate l.length 0).set x.2.toNat 1) = 1
      obtain ⟨y, hy⟩ := Int.eq_ofNat_of_zero_le hw.1
      rw [hy, Int.toNat_natCast]
      have hyl : y < l.length := by omega
      generalize l.length = n at hyl
      unfold usedL
      clear hs e hlen hR hx hw hy
      induction n generalizing y with
      | zero => omega
      | succ n ih =>
        rw [List.replicate_succ]
        cases y with
        | zero =>
          rw [List.set_cons_zero, List.filter_cons, if_pos (by simp), List.filter_eq_nil_iff.2 (fun z hz => by have := (List.mem_replicate.1 hz).2; subst this; simp)]
          rfl
        | succ y =>
          rw [List.set_cons_succ, List.filter_cons, if_neg (by simp)]
          exact ih y (by omega)
  · obtain ⟨lam, hR, hk⟩ := best_many l most.toNat (by omega) (by omega) hf hroom
    refine ⟨lam, hR, ?_⟩
    have hs := ranked_sum hR
    rw [hk] at hs
    unfold chkL
    rw [if_neg (by omega), if_neg (by rw [ranked_ok hR (by omega)]; simp), if_pos (.inr (.inl hs))]
theorem best_more {l L : List Int} {most : Nat} {lam : Nat → Nat} (h : Ranked l L most lam) (i k : Nat) (hi : i < l.length) (hk : k < l.length) (h1 : l[k] < l[i]) (h2 : 0 < l[k]) (x y : Int) (hx : L[i]? = some x) (hy : L[k]? = some y) : x ≤ y := by
  rcases ranked_at h i hi with ⟨r, hr, _, er, e, _, _⟩ | ⟨hn, _⟩
  · rcases ranked_at h k hk with ⟨q, hq, _, eq, e', _, _⟩ | ⟨hn, _⟩
    · rw [hx] at e
      rw [hy] at e'
      rw [Option.some.inj e, Option.some.inj e']
      have : q ≤ r := by
        rcases Nat.lt_or_ge r q with hlt | hge
        · have hup := up_get (show upW (lvs l) from sortW_up _) r q (by omega) hq
          rw [er, eq] at hup
          dsimp only at hup
          omega
        · exact hge
      have := h.anti q r this hr
      omega
    · exact absurd h2 hn
  · omega
end LenW
end Go.Proofs.Ytpnccehaomikbaa
