/- Plain: code words have room. No program is named here. -/
import Derived.Test.YtpnccehaomikbaaCanP
namespace Go.Proofs.Ytpnccehaomikbaa
set_option linter.unusedVariables false
set_option linter.unusedSimpArgs false
set_option linter.unnecessarySimpa false
open Go.RowKit
namespace LenW

theorem cntL_cons (a : Int) (l : List Int) (n : Nat) : cntL (a :: l) n = (if 0 < a ∧ a = n then 1 else 0) + cntL l n := by
  unfold cntL
  by_cases h1 : 0 < a ∧ a = n
  · rw [if_pos h1, List.filter_cons_of_pos (by simpa using h1)]; simp only [List.length_cons]; omega
  · rw [if_neg h1, List.filter_cons_of_neg (by simpa using h1)]; simp
/-- The room that the lengths up to n take. -/
def psumL (l : List Int) (n : Nat) : Nat := (l.map fun x : Int => if 0 < x ∧ x ≤ (n : Int) then partL x else 0).sum
theorem psum_zero (l : List Int) : psumL l 0 = 0 := by
  unfold psumL
  induction l with
  | nil => rfl
  | cons a l ih =>
    simp only [List.map_cons, List.sum_cons, ih]
    rw [if_neg (by omega)]
theorem psum_succ (l : List Int) (n : Nat) : psumL l (n + 1) = psumL l n + cntL l (n + 1) * 2 ^ (15 - (n + 1)) := by
  induction l with
  | nil => simp [psumL, cntL]
  | cons a l ih =>
    unfold psumL at ih ⊢
    simp only [List.map_cons, List.sum_cons, ih, cntL_cons]
    by_cases h1 : 0 < a ∧ a = ((n + 1 : Nat) : Int)
    · rw [if_pos (by omega), if_neg (by omega), if_pos h1, Nat.add_mul]
      have : partL a = 2 ^ (15 - (n + 1)) := by
        unfold partL
        rw [if_pos h1.1, show a.toNat = n + 1 from by omega]
      rw [this]
      omega
    · rw [if_neg h1, Nat.zero_add]
      by_cases h2 : 0 < a ∧ a ≤ (n : Int)
      · rw [if_pos (by omega), if_pos h2]; omega
      · rw [if_neg (by omega), if_neg h2]; omega
theorem psum_le (l : List Int) (n : Nat) : psumL l n ≤ sumL l := by
  unfold psumL sumL
  induction l with
  | nil => simp
  | cons a l ih =>
    simp only [List.map_cons, List.sum_cons]
    split <;> omega
theorem psum_top (l : List Int) (h : okL l = true) : psumL l 15 = sumL l := by
  unfold psumL sumL
  congr 1
  apply List.map_congr_left
  intro x hx
  unfold okL at h
  rw [List.all_eq_true] at h
  have := h x hx
  simp only [Bool.and_eq_true, decide_eq_true_eq] at this
  by_cases h0 : 0 < x
  · rw [if_pos (by omega)]
  · rw [if_neg (by omega)]
    unfold partL
    rw [if_neg h0]
theorem kraft (l : List Int) (n : Nat) (h : n ≤ 15) : (fstL l n + cntL l n) * 2 ^ (15 - n) = psumL l n := by
  induction n with
  | zero => simp [fstL, cntL_zero, psum_zero]
  | succ n ih =>
    rw [psum_succ, ← ih (by omega), fstL, show 15 - n = (15 - (n + 1)) + 1 from by omega, Nat.pow_succ, Nat.add_mul]
    congr 1
    rw [Nat.mul_comm 2, Nat.mul_assoc, Nat.mul_comm 2]
theorem room (l : List Int) (n : Nat) (h : n ≤ 15) (hs : sumL l ≤ 32768) : fstL l n + cntL l n ≤ 2 ^ n := by
  have h1 := kraft l n h
  have h2 := psum_le l n
  have h3 : 2 ^ n * 2 ^ (15 - n) = 32768 := by rw [← Nat.pow_add, show n + (15 - n) = 15 from by omega]
  refine Nat.le_of_mul_le_mul_right (c := 2 ^ (15 - n)) ?_ (Nat.pow_pos (by omega))
  omega
theorem chkL_cases (l : List Int) : (chkL l = 3 ∧ 257 < l.length) ∨ (chkL l = 80 ∧ l.length ≤ 257 ∧ okL l = false) ∨ (chkL l = 80 ∧ l.length ≤ 257 ∧ okL l = true ∧ ¬ (sumL l = 0 ∨ sumL l = 32768 ∨ (usedL l = 1 ∧ sumL l = 16384))) ∨
    (chkL l = 0 ∧ l.length ≤ 257 ∧ okL l = true ∧ (sumL l = 0 ∨ sumL l = 32768 ∨ (usedL l = 1 ∧ sumL l = 16384))) := by
  unfold chkL
  by_cases h1 : 257 < l.length
  · rw [if_pos h1]; exact .inl ⟨rfl, h1⟩
  · rw [if_neg h1]
    by_cases h2 : okL l = false
    · rw [if_pos h2]; exact .inr (.inl ⟨rfl, by omega, h2⟩)
    · rw [if_neg h2]
      have h2' : okL l = true := by simpa using h2
      by_cases h3 : sumL l = 0 ∨ sumL l = 32768 ∨ (usedL l = 1 ∧ sumL l = 16384)
      · rw [if_pos h3]; exact .inr (.inr (.inr ⟨rfl, by omega, h2', h3⟩))
      · rw [if_neg h3]; exact .inr (.inr (.inl ⟨rfl, by omega, h2', h3⟩))
theorem chk0 {l : List Int} (h : chkL l = 0) : l.length ≤ 257 ∧ okL l = true ∧ sumL l ≤ 32768 := by
  rcases chkL_cases l with ⟨h1, _⟩ | ⟨h1, _⟩ | ⟨h1, _⟩ | ⟨_, h2, h3, h4⟩
  · omega
  · omega
  · omega
  · exact ⟨h2, h3, by omega⟩
end LenW
end Go.Proofs.Ytpnccehaomikbaa
