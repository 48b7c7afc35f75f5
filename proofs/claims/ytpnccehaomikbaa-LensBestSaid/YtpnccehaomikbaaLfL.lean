/- Package lens, plainly: no lengths cost less. -/
import Derived.Test.YtpnccehaomikbaaLfJ
namespace Go.Proofs.Ytpnccehaomikbaa
set_option linter.unusedVariables false
set_option linter.unusedSimpArgs false
set_option linter.unnecessarySimpa false
open Go.RowKit
namespace LenW

def wsum (l : List (Int × Int)) : Int := (l.map (·.1)).sum
theorem wsum_cons (x : Int × Int) (l : List (Int × Int)) : wsum (x :: l) = x.1 + wsum l := by simp [wsum]
theorem wsum_app (a b : List (Int × Int)) : wsum (a ++ b) = wsum a + wsum b := by simp [wsum]
theorem wsum_succ (l : List (Int × Int)) (k : Nat) (h : k < l.length) : wsum (l.take (k + 1)) = wsum (l.take k) + l[k].1 := by
  rw [List.take_succ_eq_append_getElem h, wsum_app, wsum_cons]
  simp [wsum]
theorem take_shift (x : Int) (l : List (Int × Int)) (h : ∀ y ∈ l, x ≤ y.1) (k : Nat) (hk : k < l.length) : x + wsum (l.take k) ≤ wsum (l.take (k + 1)) := by
  rw [wsum_succ l k hk]
  have := h _ (List.getElem_mem hk)
  omega
theorem filter_min (P : Int × Int → Bool) (G : List (Int × Int)) (hu : upW G) : wsum (G.take (G.filter P).length) ≤ wsum (G.filter P) := by
  induction G with
  | nil => simp [wsum]
  | cons x G ih =>
    obtain ⟨h1, h2⟩ := List.pairwise_cons.1 hu
    have hi := ih h2
    have hle := List.length_filter_le P G
    rw [List.filter_cons]
    by_cases hp : P x = true
    · rw [if_pos hp, List.length_cons, List.take_succ_cons, wsum_cons, wsum_cons]
      omega
    · rw [if_neg hp]
      cases hk : (G.filter P).length with
      | zero => rw [List.take_zero]; rw [List.length_eq_zero_iff.1 hk]; exact Int.le_refl _
      | succ k =>
        rw [hk] at hi hle
        rw [List.take_succ_cons, wsum_cons]
        have := take_shift x.1 G h1 k (by omega)
        omega
theorem mrg_min (a b : List (Int × Int)) (ha : upW a) (hb : upW b) (x y : Nat) (hx : x ≤ a.length) (hy : y ≤ b.length) : wsum ((mrg a b).take (x + y)) ≤ wsum (a.take x) + wsum (b.take y) := by
  suffices ∀ n (a b : List (Int × Int)), a.length + b.length ≤ n → upW a → upW b → ∀ x y, x ≤ a.length → y ≤ b.length → wsum ((mrg a b).take (x + y)) ≤ wsum (a.take x) + wsum (b.take y) from this _ a b (Nat.le_refl _) ha hb x y hx hy
  intro n
  induction n with
  | zero =>
    intro a b h _ _ x y hx hy
    obtain rfl := List.length_eq_zero_iff.1 (show a.length = 0 by omega)
    obtain rfl := List.length_eq_zero_iff.1 (show b.length = 0 by omega)
    simp [mrg, wsum]
  | succ n ih =>
    intro a b h ha hb x y hx hy
    match a, b with
    | [], b =>
      obtain rfl : x = 0 := by simpa using hx
      rw [mrg_nil, Nat.zero_add]
      simp [wsum]
    | p :: a, [] =>
      obtain rfl : y = 0 := by simpa using hy
      rw [mrg_right, Nat.add_zero]
      simp [wsum]
    | p :: a, q :: b =>
      simp only [List.length_cons] at h hx hy
      obtain ⟨a1, a2⟩ := List.pairwise_cons.1 ha
      obtain ⟨b1, b2⟩ := List.pairwise_cons.1 hb
      rw [mrg_cons]
      by_cases hpq : p.1 ≤ q.1
      · rw [if_pos hpq]
        have hall : ∀ z ∈ q :: b, p.1 ≤ z.1 := fun z hz => by
          rcases List.mem_cons.1 hz with rfl | hz
          · exact hpq
          · have := b1 z hz; omega
        cases x with
        | zero =>
          cases y with
          | zero => simp [wsum]
          | succ y =>
            rw [Nat.zero_add, List.take_succ_cons, wsum_cons]
            have h1 := ih a (q :: b) (by simp only [List.length_cons]; omega) a2 hb 0 y (by omega) (by simp only [List.length_cons]; omega)
            have h2 := take_shift p.1 (q :: b) hall y (by simp only [List.length_cons]; omega)
            rw [Nat.zero_add] at h1
            simp only [List.take_zero] at h1 ⊢
            omega
        | succ x =>
          rw [show x + 1 + y = x + y + 1 by omega, List.take_succ_cons, List.take_succ_cons, wsum_cons, wsum_cons]
          have h1 := ih a (q :: b) (by simp only [List.length_cons]; omega) a2 hb x y (by omega) (by simp only [List.length_cons]; omega)
          omega
      · rw [if_neg hpq]
        have hall : ∀ z ∈ p :: a, q.1 ≤ z.1 := fun z hz => by
          rcases List.mem_cons.1 hz with rfl | hz
          · omega
          · have := a1 z hz; omega
        cases y with
        | zero =>
          cases x with
          | zero => simp [wsum]
          | succ x =>
            rw [Nat.add_zero, List.take_succ_cons, wsum_cons]
            have h1 := ih (p :: a) b (by simp only [List.length_cons]; omega) ha b2 x 0 (by simp only [List.length_cons]; omega) (by omega)
            have h2 := take_shift q.1 (p :: a) hall x (by simp only [List.length_cons]; omega)
            rw [Nat.add_zero] at h1
            simp only [List.take_zero] at h1 ⊢
            omega
        | succ y =>
          rw [show x + (y + 1) = x + y + 1 by omega, List.take_succ_cons, List.take_succ_cons, wsum_cons, wsum_cons]
          have h1 := ih (p :: a) b (by simp only [List.length_cons]; omega) ha b2 x y (by simp only [List.length_cons]; omega) (by omega)
          omega
theorem pkgs_wsum (r : List (Int × Int)) : ∀ q, 2 * q ≤ r.length → wsum ((pkgs 0 r).take q) = wsum (r.take (2 * q)) := by
  intro q
  induction q with
  | zero => intro _; rfl
  | succ q ih =>
    intro h
    have hq : 2 * q + 1 < r.length := by omega
    rw [pkgs_take r q hq, wsum_app, ih (by omega), show 2 * (q + 1) = 2 * q + 1 + 1 by omega, wsum_succ r _ hq, wsum_succ r _ (show 2 * q < r.length by omega), wsum_cons]
    simp only [wsum, List.map_nil, List.sum_nil]
    omega
/-- How many things of row i a choice of leaves is worth. -/
def dD (G : List (Int × Int)) (P : Nat → Int × Int → Bool) : Nat → Nat
  | 0 => (G.filter (P 0)).length
  | i + 1 => (G.filter (P (i + 1))).length + dD G P i / 2
def totW (G : List (Int × Int)) (P : Nat → Int × Int → Bool) : Nat → Int
  | 0 => wsum (G.filter (P 0))
  | i + 1 => totW G P i + wsum (G.filter (P (i + 1)))
theorem wsum_mono (l : List (Int × Int)) (h : ∀ y ∈ l, 0 ≤ y.1) (n m : Nat) (hnm : n ≤ m) : wsum (l.take n) ≤ wsum (l.take m) := by
  induction m with
  | zero => obtain rfl : n = 0 := by omega
            exact Int.le_refl _
  | succ m ih =>
    rcases Nat.lt_or_ge n (m + 1) with h1 | h1
    · refine Int.le_trans (ih (by omega)) ?_
      rcases Nat.lt_or_ge m l.length with h2 | h2
      · rw [wsum_succ l m h2]; have := h _ (List.getElem_mem h2); omega
      · rw [List.take_of_length_le h2, List.take_of_length_le (by omega)]; exact Int.le_refl _
    · obtain rfl : n = m + 1 := by omega
      exact Int.le_refl _
theorem rows_min {G : List (Int × Int)} (hu : upW G) (hp : ∀ x ∈ G, 0 < x.1) (P : Nat → Int × Int → Bool) (i : Nat) : dD G P i ≤ (rowW G i).length ∧ wsum ((rowW G i).take (dD G P i)) ≤ totW G P i := by
  induction i with
  | zero => exact ⟨List.length_filter_le _ _, filter_min _ G hu⟩
  | succ i ih =>
    obtain ⟨h1, h2⟩ := ih
    have hf := List.length_filter_le (P (i + 1)) G
    refine ⟨by rw [dD, rowW_len]; omega, ?_⟩
    rw [dD, totW]
    have hq : dD G P i / 2 ≤ (pkgs 0 (rowW G i)).length := by rw [pkgs_len]; omega
    have m1 := mrg_min G (pkgs 0 (rowW G i)) hu (pkgs_up (rowW_up hu i)) _ _ hf hq
    have m2 := filter_min (P (i + 1)) G hu
    rw [pkgs_wsum _ _ (by omega)] at m1
    have m3 := wsum_mono (rowW G i) (fun y hy => Int.le_of_lt (rowW_pos hp i y hy)) (2 * (dD G P i / 2)) (dD G P i) (by omega)
    show wsum ((mrg G (pkgs 0 (rowW G i))).take _) ≤ _
    omega
def eE (G : List (Int × Int)) (P : Nat → Int × Int → Bool) : Nat → Nat
  | 0 => (G.filter (P 0)).length
  | i + 1 => eE G P i + (G.filter (P (i + 1))).length * 2 ^ (i + 1)
theorem dD_eq (G : List (Int × Int)) (P : Nat → Int × Int → Bool) (i : Nat) : dD G P i = eE G P i / 2 ^ i := by
  induction i with
  | zero => simp [dD, eE]
  | succ i ih =>
    rw [dD, eE, ih, Nat.add_mul_div_right _ _ (Nat.two_pow_pos _), Nat.div_div_eq_div_mul, Nat.pow_succ]
    omega
/-- A choice by lengths. -/
def byL (o : Int × Int → Nat) (most : Nat) (j : Nat) (x : Int × Int) : Bool := decide (most ≤ o x + j)
theorem filt_one (o : Int × Int → Nat) (most j : Nat) (x : Int × Int) : [x].filter (byL o most j) = if most ≤ o x + j then [x] else [] := by
  by_cases h : most ≤ o x + j
  · rw [if_pos h]; simp [byL, h]
  · rw [if_neg h]; simp [byL]; omega
theorem eE_cons (x : Int × Int) (G : List (Int × Int)) (P : Nat → Int × Int → Bool) (i : Nat) : eE (x :: G) P i = eE [x] P i + eE G P i := by
  induction i with
  | zero => simp only [eE, List.filter_cons, List.filter_nil]; split <;> simp; omega
  | succ i ih =>
    rw [eE, eE, eE, ih]
    have : ((x :: G).filter (P (i + 1))).length = ([x].filter (P (i + 1))).length + (G.filter (P (i + 1))).length := by
      simp only [List.filter_cons, List.filter_nil]; split <;> simp; omega
    rw [this, Nat.add_mul]
    omega
theorem e_one (o : Int × Int → Nat) (most : Nat) (x : Int × Int) (h : 1 ≤ o x ∧ o x ≤ most) (i : Nat) : eE [x] (byL o most) i + 2 ^ (min (i + 1) (most - o x)) = 2 ^ (i + 1) := by
  induction i with
  | zero =>
    rw [eE, filt_one]
    by_cases h1 : most ≤ o x + 0
    · rw [if_pos h1, show most - o x = 0 by omega]; rfl
    · rw [if_neg h1, show min (0 + 1) (most - o x) = 1 by omega]; rfl
  | succ i ih =>
    rw [eE, filt_one]
    by_cases h1 : most ≤ o x + (i + 1)
    · rw [if_pos h1]
      rw [show min (i + 1) (most - o x) = most - o x by omega] at ih
      rw [show min (i + 1 + 1) (most - o x) = most - o x by omega, Nat.pow_succ 2 (i + 1)]
      simp only [List.length_cons, List.length_nil]
      omega
    · rw [if_neg h1]
      rw [show min (i + 1) (most - o x) = i + 1 by omega] at ih
      rw [show min (i + 1 + 1) (most - o x) = i + 1 + 1 by omega]
      simp only [List.length_nil]
      omega
theorem e_all (o : Int × Int → Nat) (most : Nat) (hm : 1 ≤ most) (G : List (Int × Int)) (h : ∀ x ∈ G, 1 ≤ o x ∧ o x ≤ most) : eE G (byL o most) (most - 1) + (G.map fun x => 2 ^ (most - o x)).sum = G.length * 2 ^ most := by
  induction G with
  | nil =>
    have : ∀ i, eE [] (byL o most) i = 0 := by intro i; induction i with
      | zero => rfl
      | succ i ih => rw [eE, ih]; simp
    rw [this]; simp
  | cons x G ih =>
    have h1 := e_one o most x (h x (by simp)) (most - 1)
    have h2 := ih (fun y hy => h y (by simp [hy]))
    rw [show most - 1 + 1 = most by omega, show min most (most - o x) = most - o x by omega] at h1
    rw [eE_cons, List.map_cons, List.sum_cons, List.length_cons, Nat.add_mul]
    omega
theorem tot_cons (x : Int × Int) (G : List (Int × Int)) (P : Nat → Int × Int → Bool) (i : Nat) : totW (x :: G) P i = totW [x] P i + totW G P i := by
  have e : ∀ p : Int × Int → Bool, wsum ((x :: G).filter p) = wsum ([x].filter p) + wsum (G.filter p) := fun p => by
    simp only [List.filter_cons, List.filter_nil]
    split
    · rw [wsum_cons, wsum_cons]; simp [wsum]
    · simp [wsum]
  induction i with
  | zero => exact e _
  | succ i ih => rw [totW, totW, totW, ih, e]; omega
theorem t_one (o : Int × Int → Nat) (most : Nat) (x : Int × Int) (h : 1 ≤ o x ∧ o x ≤ most) (i : Nat) : totW [x] (byL o most) i = x.1 * ((i + 1 - min (i + 1) (most - o x) : Nat) : Int) := by
  induction i with
  | zero =>
    rw [totW, filt_one]
    by_cases h1 : most ≤ o x + 0
    · rw [if_pos h1, show (0 + 1 - min (0 + 1) (most - o x)) = 1 by omega]; simp [wsum]
    · rw [if_neg h1, show (0 + 1 - min (0 + 1) (most - o x)) = 0 by omega]; simp [wsum]
  | succ i ih =>
    rw [totW, ih, filt_one]
    by_cases h1 : most ≤ o x + (i + 1)
    · rw [if_pos h1, show i + 1 + 1 - min (i + 1 + 1) (most - o x) = (i + 1 - min (i + 1) (most - o x)) + 1 by omega, Int.natCast_add, Int.mul_add]
      simp [wsum]
    · rw [if_neg h1, show i + 1 + 1 - min (i + 1 + 1) (most - o x) = i + 1 - min (i + 1) (most - o x) by omega]
      simp [wsum]
def costG (G : List (Int × Int)) (o : Int × Int → Nat) : Int := (G.map fun x => x.1 * (o x : Int)).sum
theorem t_all (o : Int × Int → Nat) (most : Nat) (hm : 1 ≤ most) (G : List (Int × Int)) (h : ∀ x ∈ G, 1 ≤ o x ∧ o x ≤ most) : totW G (byL o most) (most - 1) = costG G o := by
  induction G with
  | nil =>
    have : ∀ i, totW [] (byL o most) i = 0 := by intro i; induction i with
      | zero => rfl
      | succ i ih => rw [totW, ih]; rfl
    rw [this]; rfl
  | cons x G ih =>
    have h1 := t_one o most x (h x (by simp)) (most - 1)
    have hx := h x (by simp)
    rw [show most - 1 + 1 - min (most - 1 + 1) (most - o x) = o x by omega] at h1
    rw [tot_cons, h1, ih (fun y hy => h y (by simp [hy]))]
    rfl
/-- No choice costs less than the first things of the last row. -/
theorem no_less {G : List (Int × Int)} (hu : upW G) (hp : ∀ x ∈ G, 0 < x.1) (o : Int × Int → Nat) (most : Nat) (hm : 1 ≤ most) (h : ∀ x ∈ G, 1 ≤ o x ∧ o x ≤ most) (hk : (G.map fun x => 2 ^ (most - o x)).sum ≤ 2 ^ most) : wsum ((rowW G (most - 1)).take (2 * G.length - 2)) ≤ costG G o := by
  obtain ⟨h1, h2⟩ := rows_min hu hp (byL o most) (most - 1)
  rw [t_all o most hm G h] at h2
  refine Int.le_trans (wsum_mono _ (fun y hy => Int.le_of_lt (rowW_pos hp _ y hy)) _ _ ?_) h2
  have he := e_all o most hm G h
  rw [dD_eq]
  have hpw : 2 ^ most = 2 * 2 ^ (most - 1) := by rw [← Nat.pow_succ']; congr 1; omega
  refine (Nat.le_div_iff_mul_le (Nat.two_pow_pos _)).2 ?_
  rw [hpw] at he hk
  generalize 2 ^ (most - 1) = z at *
  generalize (G.map fun x => 2 ^ (most - o x)).sum = k at *
  rcases Nat.eq_zero_or_pos G.length with h0 | h0
  · rw [h0]; simp
  · obtain ⟨f, hf⟩ : ∃ f, G.length = f + 1 := ⟨G.length - 1, by omega⟩
    rw [hf] at he ⊢
    rw [show 2 * (f + 1) - 2 = 2 * f by omega]
    have e1 : (f + 1) * (2 * z) = f * (2 * z) + 2 * z := by rw [Nat.add_mul, Nat.one_mul]
    have e2 : 2 * f * z = f * (2 * z) := by rw [Nat.mul_comm 2 f, Nat.mul_assoc]
    omega
end LenW
end Go.Proofs.Ytpnccehaomikbaa
