/- Package huff, plainly: counts, the best lengths of symbols, their bits. -/
import Derived.Test.YtdfclgpkhfpkhaaLfM
import Derived.Test.YtdfclgpkhfpkhaaCanE
import Derived.Test.YtdfclgpkhfpkhaaTabP
namespace Go.Proofs.Ytdfclgpkhfpkhaa
set_option linter.unusedVariables false
set_option linter.unusedSimpArgs false
set_option linter.unnecessarySimpa false
open Go.RowKit
namespace HufW
open LenW (chkL okL usedL sumL bestW refuseW badN Ranked ranked_at best_ranked best_least costW costK costN winW symsB symsOk wordV dgs Vs wd wb Vs_iff dgs_V wordV_V unpG getC back_at sym_nat symsB_cons symsOk_cons)
open TabW (tabB tabG getT_back tab_forms rle rle_len)

/-- How often each symbol comes. -/
def ctsL (r : List Int) : List Int := (List.range 257).map fun s : Nat => ((r.count (s : Int) : Nat) : Int)
def badS (x : Int) : Bool := decide (x < 0) || decide (256 < x)
def ctsV (r : List Int) : List Int × Int := if 100000 < r.length then ([], 3) else if r.any badS = true then ([], 70) else (ctsL r, 0)
theorem ctsL_len (r : List Int) : (ctsL r).length = 257 := by simp [ctsL]
theorem ctsL_at (r : List Int) (s : Nat) (h : s < (ctsL r).length) : (ctsL r)[s] = ((r.count (s : Int) : Nat) : Int) := by simp [ctsL]
theorem ctsL_nil : ctsL [] = List.replicate 257 0 := by
  apply List.ext_getElem
  · rw [ctsL_len, List.length_replicate]
  · intro i h1 h2
    rw [ctsL_at, List.getElem_replicate]
    rfl
theorem ctsL_snoc (r : List Int) (x : Nat) (hx : x < 257) : ctsL (r ++ [(x : Int)]) = (ctsL r).set x (((r.count (x : Int) : Nat) : Int) + 1) := by
  apply List.ext_getElem
  · simp [ctsL]
  · intro i h1 h2
    rw [ctsL_at, List.getElem_set]
    by_cases e : x = i
    · subst e
      rw [if_pos rfl, List.count_append]
      simp
    · rw [if_neg e, ctsL_at, List.count_append, List.count_singleton]
      have : ((x : Int) == (i : Int)) = false := by simp only [beq_eq_false_iff_ne]; omega
      rw [this]
      simp
theorem badS_false {x : Int} (h : badS x = false) : 0 ≤ x ∧ x ≤ 256 := by
  unfold badS at h
  simp at h
  omega
theorem any_false {r : List Int} (h : r.any badS = false) : ∀ x ∈ r, 0 ≤ x ∧ x ≤ 256 := by
  intro x hx
  refine badS_false ?_
  rw [Bool.eq_false_iff]
  intro e
  rw [List.any_eq_true.2 ⟨x, hx, e⟩] at h
  cases h
theorem usedL_257 (r : List Int) : usedL (ctsL r) ≤ 257 := by
  have := LenW.usedL_le (ctsL r)
  rw [ctsL_len] at this
  exact this
theorem cts_good (r : List Int) (h : r.length ≤ 100000) : (ctsL r).any badN = false := by
  rw [Bool.eq_false_iff]
  intro e
  obtain ⟨x, hx, hb⟩ := List.any_eq_true.1 e
  obtain ⟨i, hi, rfl⟩ := List.getElem_of_mem hx
  rw [ctsL_at] at hb
  have := List.count_le_length (a := (i : Int)) (l := r)
  unfold badN at hb
  simp at hb
  omega
theorem refuse_cts (r : List Int) (h : r.length ≤ 100000) : refuseW (ctsL r) 15 = 0 := by
  have h1 := cts_good r h
  have h2 := usedL_257 r
  unfold refuseW
  rw [ctsL_len, if_neg (by omega), if_neg, if_neg]
  · show ¬ 2 ^ (15 : Int).toNat < _
    have : 2 ^ (15 : Int).toNat = 32768 := by decide
    omega
  · rintro (e | e | e)
    · omega
    · omega
    · rw [LenW.refuseW_any, h1] at e; cases e
/-- The best lengths of symbols. -/
def bL (r : List Int) : List Int := bestW (ctsL r) 15
theorem bL_ranked (r : List Int) (h : r.length ≤ 100000) : ∃ lam, Ranked (ctsL r) (bL r) 15 lam ∧ chkL (bL r) = 0 := best_ranked (refuse_cts r h)
theorem bL_len (r : List Int) (h : r.length ≤ 100000) : (bL r).length = 257 := by
  obtain ⟨lam, hr, _⟩ := bL_ranked r h
  rw [hr.len, ctsL_len]
theorem bL_chk (r : List Int) (h : r.length ≤ 100000) : chkL (bL r) = 0 := by
  obtain ⟨_, _, hc⟩ := bL_ranked r h
  exact hc
theorem bL_at (r : List Int) (h : r.length ≤ 100000) (s : Nat) (hs : s < 257) : ∃ x : Nat, (bL r)[s]? = some (x : Int) ∧ x ≤ 15 ∧ ((s : Int) ∈ r → 1 ≤ x) ∧ ((s : Int) ∉ r → x = 0) := by
  obtain ⟨lam, hr, _⟩ := bL_ranked r h
  have hl := ctsL_len r
  rcases ranked_at hr s (by omega) with ⟨k, _, hp, _, hx, h1, h2⟩ | ⟨hp, hx⟩
  · refine ⟨lam k, hx, h2, fun _ => h1, fun hn => ?_⟩
    rw [ctsL_at, List.count_eq_zero_of_not_mem hn] at hp
    omega
  · refine ⟨0, hx, by omega, fun hm => ?_, fun _ => rfl⟩
    rw [ctsL_at] at hp
    have := List.count_pos_iff.2 hm
    omega
theorem bL_word (r : List Int) (h : r.length ≤ 100000) (hb : r.any badS = false) (x : Int) (hx : x ∈ r) : (wordV (bL r) x).2 = 0 := by
  obtain ⟨h0, h1⟩ := any_false hb x hx
  obtain ⟨s, rfl⟩ : ∃ s : Nat, x = (s : Int) := ⟨x.toNat, by omega⟩
  obtain ⟨y, hy, _, h3, _⟩ := bL_at r h s (by omega)
  obtain ⟨hlt, he⟩ := List.getElem?_eq_some_iff.1 hy
  have := h3 hx
  exact Vs_iff.2 ⟨hlt, by rw [he]; omega⟩
theorem bL_ok (r : List Int) (h : r.length ≤ 100000) (hb : r.any badS = false) : symsOk (bL r) r = true := by
  unfold LenW.symsOk
  rw [List.all_eq_true]
  intro x hx
  exact decide_eq_true (bL_word r h hb x hx)
/-- The bits of symbols. -/
def hufB (r : List Int) : List Nat := tabB (bL r) ++ symsB (bL r) r
def encV (r : List Int) : List UInt8 × Int := if (ctsV r).2 = 0 then (textB (hufB r), 0) else ([], (ctsV r).2)
def sizV (r : List Int) : Nat := if (ctsV r).2 = 0 then (hufB r).length else 0
theorem ctsV_cases (r : List Int) : (ctsV r = ([], 3) ∧ 100000 < r.length) ∨ (ctsV r = ([], 70) ∧ r.length ≤ 100000 ∧ r.any badS = true) ∨ (ctsV r = (ctsL r, 0) ∧ r.length ≤ 100000 ∧ r.any badS = false) := by
  unfold ctsV
  by_cases h : 100000 < r.length
  · exact .inl ⟨if_pos h, h⟩
  · rw [if_neg h]
    cases hb : r.any badS
    · exact .inr (.inr ⟨if_neg (by simp), by omega, rfl⟩)
    · exact .inr (.inl ⟨if_pos rfl, by omega, rfl⟩)
theorem hufB_lt (r : List Int) : ∀ d ∈ hufB r, d < 2 := by
  intro d hd
  unfold hufB at hd
  rcases List.mem_append.1 hd with h | h
  · exact TabW.runsB_lt _ d h
  · exact LenW.dgs_lt _ _ d h
/-- What the symbols cost is how many bits they have. -/
theorem cost_cons (x : Nat) (hx : x < 257) (r : List Int) (hlen : r.length ≤ 99999) (L : List Int) (hL : ∀ s (h : s < L.length), 0 ≤ L[s] ∧ L[s] ≤ 15) : ∀ k, k ≤ 257 → costK (ctsL ((x : Int) :: r)) L k = costK (ctsL r) L k + (if x < k then L[x]?.getD 0 else 0) := by
  intro k
  induction k with
  | zero => intro _; rfl
  | succ k ih =>
    intro hk
    rw [costK, costK, ih (by omega)]
    have a1 : (ctsL ((x : Int) :: r))[k]?.getD 0 = (((((x : Int) :: r).count (k : Int)) : Nat) : Int) := by rw [List.getElem?_eq_getElem (by rw [ctsL_len]; omega), Option.getD_some, ctsL_at]
    have a2 : (ctsL r)[k]?.getD 0 = ((r.count (k : Int) : Nat) : Int) := by rw [List.getElem?_eq_getElem (by rw [ctsL_len]; omega), Option.getD_some, ctsL_at]
    have hb1 := List.count_le_length (a := (k : Int)) (l := (x : Int) :: r)
    have hb2 := List.count_le_length (a := (k : Int)) (l := r)
    rw [List.length_cons] at hb1
    have hl : 0 ≤ L[k]?.getD 0 ∧ L[k]?.getD 0 ≤ 15 := by
      by_cases h : k < L.length
      · rw [List.getElem?_eq_getElem h, Option.getD_some]; exact hL k h
      · rw [List.getElem?_eq_none (by omega)]; simp
    have w1 : winW ((ctsL ((x : Int) :: r))[k]?.getD 0) 1000000 = (((((x : Int) :: r).count (k : Int)) : Nat) : Int) := by rw [a1]; unfold winW; rw [if_neg (by omega)]
    have w2 : winW ((ctsL r)[k]?.getD 0) 1000000 = ((r.count (k : Int) : Nat) : Int) := by rw [a2]; unfold winW; rw [if_neg (by omega)]
    have w3 : winW (L[k]?.getD 0) 15 = L[k]?.getD 0 := by unfold winW; rw [if_neg (by omega)]
    rw [w1, w2, w3, List.count_cons]
    by_cases e : x = k
    · subst e
      rw [if_neg (by omega : ¬ x < x), if_pos (by omega : x < x + 1), if_pos (by simp)]
      rw [Int.natCast_add, Int.add_mul]
      omega
    · have : ((x : Int) == (k : Int)) = false := by simp only [beq_eq_false_iff_ne]; omega
      rw [this, show (if false = true then (1 : Nat) else 0) = 0 from rfl, Nat.add_zero]
      by_cases h : x < k
      · rw [if_pos h, if_pos (by omega)]; omega
      · rw [if_neg h, if_neg (by omega)]; omega
theorem cost_sum (L : List Int) (hL : ∀ s (h : s < L.length), 0 ≤ L[s] ∧ L[s] ≤ 15) : ∀ r : List Int, r.length ≤ 100000 → (∀ x ∈ r, 0 ≤ x ∧ x ≤ 256) → costK (ctsL r) L 257 = (r.map fun x => L[x.toNat]?.getD 0).sum := by
  intro r
  induction r with
  | nil =>
    intro _ _
    have : ∀ k, k ≤ 257 → costK (ctsL []) L k = 0 := by
      intro k
      induction k with
      | zero => intro _; rfl
      | succ k ih =>
        intro hk
        rw [costK, ih (by omega), ctsL_nil, List.getElem?_replicate, if_pos (by omega)]
        simp [winW]
    exact this 257 (by omega)
  | cons x r ih =>
    intro hl hx
    rw [List.length_cons] at hl
    obtain ⟨h0, h1⟩ := hx x (by simp)
    obtain ⟨s, rfl⟩ : ∃ s : Nat, x = (s : Int) := ⟨x.toNat, by omega⟩
    rw [cost_cons s (by omega) r (by omega) L hL 257 (by omega), if_pos (by omega), ih (by omega) (fun y hy => hx y (by simp [hy])), List.map_cons, List.sum_cons, Int.toNat_natCast]
    omega
theorem syms_sum (L : List Int) : ∀ r : List Int, symsOk L r = true → ((symsB L r).length : Int) = (r.map fun x => L[x.toNat]?.getD 0).sum := by
  intro r
  induction r with
  | nil => intro _; rfl
  | cons x r ih =>
    intro ho
    obtain ⟨h1, h2⟩ := symsOk_cons.1 ho
    obtain ⟨u, rfl, hu⟩ := sym_nat h1
    obtain ⟨hlt, hp, he⟩ := LenW.Vs_int hu
    rw [symsB_cons, dgs_V hu, List.length_append, List.map_cons, List.sum_cons, ← ih h2, Int.toNat_natCast, List.getElem?_eq_getElem hlt, Option.getD_some, he]
    unfold LenW.wb
    rw [dg_len]
    simp
theorem bL_range (r : List Int) (h : r.length ≤ 100000) (s : Nat) (hs : s < (bL r).length) : 0 ≤ (bL r)[s] ∧ (bL r)[s] ≤ 15 := by
  obtain ⟨x, hx, h15, _⟩ := bL_at r h s (by rw [bL_len r h] at hs; exact hs)
  obtain ⟨_, e⟩ := List.getElem?_eq_some_iff.1 hx
  rw [e]
  omega
theorem cost_bits (r : List Int) (h : r.length ≤ 100000) (hb : r.any badS = false) : costW (ctsL r) (bL r) = ((symsB (bL r) r).length : Int) := by
  unfold LenW.costW
  rw [ctsL_len, bL_len r h]
  show costK (ctsL r) (bL r) (costN 257 257) = _
  rw [show costN 257 257 = 257 from rfl, cost_sum (bL r) (fun s hs => bL_range r h s hs) r h (any_false hb), syms_sum (bL r) r (bL_ok r h hb)]
end HufW
end Go.Proofs.Ytdfclgpkhfpkhaa
