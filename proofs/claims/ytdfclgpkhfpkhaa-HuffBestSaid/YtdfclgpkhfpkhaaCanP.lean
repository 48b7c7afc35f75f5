/- Plain: the code words of lengths. No program is named here. Plain: code words have room. No program is named here. -/
import Derived.Test.YtdfclgpkhfpkhaaLenP
namespace Go.Proofs.Ytdfclgpkhfpkhaa
set_option linter.unusedVariables false
set_option linter.unusedSimpArgs false
set_option linter.unnecessarySimpa false
open Go.RowKit
namespace LenW

/-- How many symbols have length n; how many a smaller one; the first word of length n. -/
def cntL (l : List Int) (n : Nat) : Nat := (l.filter fun x : Int => decide (0 < x) && decide (x = (n : Int))).length
def plcL (l : List Int) (n : Nat) : Nat := (l.filter fun x : Int => decide (0 < x) && decide (x < (n : Int))).length
def fstL (l : List Int) : Nat → Nat
  | 0 => 0
  | n + 1 => 2 * (fstL l n + cntL l n)
theorem cntL_zero (l : List Int) : cntL l 0 = 0 := by
  unfold cntL
  rw [List.filter_eq_nil_iff.2]
  · rfl
  · intro x _
    simp
    omega
theorem plcL_zero (l : List Int) : plcL l 0 = 0 := by
  unfold plcL
  rw [List.filter_eq_nil_iff.2]
  · rfl
  · intro x _
    simp
    omega
theorem plcL_succ (l : List Int) (n : Nat) : plcL l (n + 1) = plcL l n + cntL l n := by
  unfold plcL cntL
  induction l with
  | nil => rfl
  | cons a l ih =>
    by_cases h0 : 0 < a
    · by_cases h1 : a < n
      · rw [List.filter_cons_of_pos (by simp; omega), List.filter_cons_of_pos (by simp; omega), List.filter_cons_of_neg (by simp; omega)]
        simp only [List.length_cons]; omega
      · by_cases h2 : a = n
        · rw [List.filter_cons_of_pos (by simp; omega), List.filter_cons_of_neg (by simp; omega), List.filter_cons_of_pos (by simp; omega)]
          simp only [List.length_cons]; omega
        · rw [List.filter_cons_of_neg (by simp; omega), List.filter_cons_of_neg (by simp; omega), List.filter_cons_of_neg (by simp; omega)]
          exact ih
    · rw [List.filter_cons_of_neg (by simp; omega), List.filter_cons_of_neg (by simp; omega), List.filter_cons_of_neg (by simp; omega)]
      exact ih
theorem plcL_le (l : List Int) (n : Nat) : plcL l n ≤ usedL l := by
  unfold plcL usedL
  induction l with
  | nil => simp
  | cons a l ih =>
    by_cases h0 : 0 < a
    · rw [List.filter_cons_of_pos (p := fun x => decide (0 < x)) (by simpa using h0)]
      by_cases h1 : a < n
      · rw [List.filter_cons_of_pos (by simp; omega)]; simp only [List.length_cons]; omega
      · rw [List.filter_cons_of_neg (by simp; omega)]; simp only [List.length_cons]; omega
    · rw [List.filter_cons_of_neg (by simp; omega), List.filter_cons_of_neg (by simp; omega)]
      exact ih
theorem cntL_le (l : List Int) (n : Nat) : cntL l n ≤ l.length := List.length_filter_le _ _
theorem cntL_snoc (l : List Int) (k n : Nat) (h : k < l.length) : cntL (l.take (k + 1)) n = cntL (l.take k) n + (if 0 < l[k] ∧ l[k] = n then 1 else 0) := by
  unfold cntL
  rw [List.take_succ_eq_append_getElem h, List.filter_append, List.length_append]
  by_cases h1 : 0 < l[k] ∧ l[k] = n
  · rw [if_pos h1, List.filter_cons_of_pos (by simpa using h1)]; simp
  · rw [if_neg h1, List.filter_cons_of_neg (by simpa using h1)]; simp
theorem cntL_take (l : List Int) (k n : Nat) : cntL (l.take k) n ≤ cntL l n := by
  unfold cntL
  exact (List.Sublist.filter _ (List.take_sublist k l)).length_le
theorem fstL_le (l : List Int) (n : Nat) : fstL l n + 2 * l.length ≤ 2 * l.length * 2 ^ n := by
  induction n with
  | zero => simp [fstL]
  | succ n ih =>
    have := cntL_le l n
    unfold fstL
    rw [Nat.pow_succ, ← Nat.mul_assoc]
    omega
/-- A symbol's word, as number and width. -/
def wordF (l : List Int) (s : Nat) : Int × Int := match l[s]? with | some n => if 0 < n then (((fstL l n.toNat + cntL (l.take s) n.toNat : Nat) : Int), n) else (0, 0) | none => (0, 0)
def wordsF (l : List Int) : List (Int × Int) := (List.range l.length).map (wordF l)
def wordsK (l : List Int) (k : Nat) : List (Int × Int) := (List.range k).map (wordF l) ++ List.replicate (l.length - k) (0, 0)
/-- The symbols in the order of their words, as they are laid one by one. -/
def sortK (l : List Int) : Nat → List Int
  | 0 => List.replicate (usedL l) 0
  | k + 1 => match l[k]? with | some n => if 0 < n then (sortK l k).set (plcL l n.toNat + cntL (l.take k) n.toNat) k else sortK l k | none => sortK l k
def sortF (l : List Int) : List Int := sortK l l.length
theorem sortK_len (l : List Int) (k : Nat) : (sortK l k).length = usedL l := by
  induction k with
  | zero => simp [sortK]
  | succ k ih =>
    unfold sortK
    split
    · split
      · rw [List.length_set]; exact ih
      · exact ih
    · exact ih
theorem wordsK_zero (l : List Int) : wordsK l 0 = List.replicate l.length (0, 0) := by simp [wordsK]
theorem wordsK_all (l : List Int) : wordsK l l.length = wordsF l := by simp [wordsK, wordsF]
theorem wordsK_len (l : List Int) (k : Nat) (h : k ≤ l.length) : (wordsK l k).length = l.length := by simp [wordsK]; omega
theorem wordsK_succ (l : List Int) (k : Nat) (h : k < l.length) : wordsK l (k + 1) = (wordsK l k).set k (wordF l k) := by
  unfold wordsK
  obtain ⟨m, hm⟩ : ∃ m, l.length - k = m + 1 := ⟨l.length - k - 1, by omega⟩
  rw [hm, show l.length - (k + 1) = m from by omega, List.range_succ, List.map_append, List.replicate_succ, List.set_append_right _ _ (by simp)]
  simp
theorem word_at (l : List Int) (k : Nat) (h : k < l.length) (hp : 0 < l[k]) : wordF l k = (((fstL l l[k].toNat + cntL (l.take k) l[k].toNat : Nat) : Int), l[k]) := by
  unfold wordF
  rw [List.getElem?_eq_getElem h]
  dsimp only
  rw [if_pos hp]
theorem word_no (l : List Int) (k : Nat) (h : k < l.length) (hp : ¬ 0 < l[k]) : wordF l k = (0, 0) := by
  unfold wordF
  rw [List.getElem?_eq_getElem h]
  dsimp only
  rw [if_neg hp]
theorem wordsK_skip (l : List Int) (k : Nat) (h : k < l.length) (hp : ¬ 0 < l[k]) : wordsK l (k + 1) = wordsK l k := by
  rw [wordsK_succ l k h, word_no l k h hp]
  apply List.ext_getElem
  · simp
  · intro i h1 h2
    rw [List.getElem_set]
    split
    · rename_i he
      subst he
      simp [wordsK]
    · rfl
theorem sortK_at (l : List Int) (k : Nat) (h : k < l.length) (hp : 0 < l[k]) : sortK l (k + 1) = (sortK l k).set (plcL l l[k].toNat + cntL (l.take k) l[k].toNat) k := by
  rw [sortK, List.getElem?_eq_getElem h]
  dsimp only
  rw [if_pos hp]
theorem sortK_skip (l : List Int) (k : Nat) (h : k < l.length) (hp : ¬ 0 < l[k]) : sortK l (k + 1) = sortK l k := by
  rw [sortK, List.getElem?_eq_getElem h]
  dsimp only
  rw [if_neg hp]
theorem place_lt (l : List Int) (k : Nat) (h : k < l.length) (hp : 0 < l[k]) : plcL l l[k].toNat + cntL (l.take k) l[k].toNat < usedL l := by
  have h1 := plcL_succ l l[k].toNat
  have h2 := plcL_le l (l[k].toNat + 1)
  have h3 := cntL_snoc l k l[k].toNat h
  rw [if_pos ⟨hp, by omega⟩] at h3
  have h4 := cntL_take l (k + 1) l[k].toNat
  omega
end LenW
end Go.Proofs.Ytdfclgpkhfpkhaa

namespace Go.Proofs.Ytdfclgpkhfpkhaa
set_option linter.unusedVariables false
set_option linter.unusedSimpArgs false
set_option linter.unnecessarySimpa false
open Go.RowKit
namespace LenW

theorem cntL_cons (a : Int) (l : List Int) (n : Nat) : cntL (a :: l) n = (if 0 < a ∧ a = n then 1 else 0) + cntL l n := by
  unfold cntL
  by_cases h1 : 0 < a ∧ a = n
  · rw [if_pos h1, List.filter_cons_of_pos (by simpa using h1)]; simp only [List.length_cons]; omega
  · rw [if_neg h1, List.filter_cons_of_neg (by simpa using h1)]; simp
/-- The room that the lengths up to n take. -/
def psumL (l : List Int) (n : Nat) : Nat := (l.map fun x : Int => if 0 < x ∧ x ≤ (n : Int) then partL x else 0).sum
theorem psum_zero (l : List Int) : psumL l 0 = 0 := by
  unfold psumL
  induction l with
  | nil => rfl
  | cons a l ih =>
    simp only [List.map_cons, List.sum_cons, ih]
    rw [if_neg (by omega)]
theorem psum_succ (l : List Int) (n : Nat) : psumL l (n + 1) = psumL l n + cntL l (n + 1) * 2 ^ (15 - (n + 1)) := by
  induction l with
  | nil => simp [psumL, cntL]
  | cons a l ih =>
    unfold psumL at ih ⊢
    simp only [List.map_cons, List.sum_cons, ih, cntL_cons]
    by_cases h1 : 0 < a ∧ a = ((n + 1 : Nat) : Int)
    · rw [if_pos (by omega), if_neg (by omega), if_pos h1, Nat.add_mul]
      have : partL a = 2 ^ (15 - (n + 1)) := by
        unfold partL
        rw [if_pos h1.1, show a.toNat = n + 1 from by omega]
      rw [this]
      omega
    · rw [if_neg h1, Nat.zero_add]
      by_cases h2 : 0 < a ∧ a ≤ (n : Int)
      · rw [if_pos (by omega), if_pos h2]; omega
      · rw [if_neg (by omega), if_neg h2]; omega
theorem psum_le (l : List Int) (n : Nat) : psumL l n ≤ sumL l := by
  unfold psumL sumL
  induction l with
  | nil => simp
  | cons a l ih =>
    simp only [List.map_cons, List.sum_cons]
    split <;> omega
theorem psum_top (l : List Int) (h : okL l = true) : psumL l 15 = sumL l := by
  unfold psumL sumL
  congr 1
  apply List.map_congr_left
  intro x hx
  unfold okL at h
  rw [List.all_eq_true] at h
  have := h x hx
  simp only [Bool.and_eq_true, decide_eq_true_eq] at this
  by_cases h0 : 0 < x
  · rw [if_pos (by omega)]
  · rw [if_neg (by omega)]
    unfold partL
    rw [if_neg h0]
theorem kraft (l : List Int) (n : Nat) (h : n ≤ 15) : (fstL l n + cntL l n) * 2 ^ (15 - n) = psumL l n := by
  induction n with
  | zero => simp [fstL, cntL_zero, psum_zero]
  | succ n ih =>
    rw [psum_succ, ← ih (by omega), fstL, show 15 - n = (15 - (n + 1)) + 1 from by omega, Nat.pow_succ, Nat.add_mul]
    congr 1
    rw [Nat.mul_comm 2, Nat.mul_assoc, Nat.mul_comm 2]
theorem room (l : List Int) (n : Nat) (h : n ≤ 15) (hs : sumL l ≤ 32768) : fstL l n + cntL l n ≤ 2 ^ n := by
  have h1 := kraft l n h
  have h2 := psum_le l n
  have h3 : 2 ^ n * 2 ^ (15 - n) = 32768 := by rw [← Nat.pow_add, show n + (15 - n) = 15 from by omega]
  refine Nat.le_of_mul_le_mul_right (c := 2 ^ (15 - n)) ?_ (Nat.pow_pos (by omega))
  omega
theorem chkL_cases (l : List Int) : (chkL l = 3 ∧ 257 < l.length) ∨ (chkL l = 80 ∧ l.length ≤ 257 ∧ okL l = false) ∨ (chkL l = 80 ∧ l.length ≤ 257 ∧ okL l = true ∧ ¬ (sumL l = 0 ∨ sumL l = 32768 ∨ (usedL l = 1 ∧ sumL l = 16384))) ∨
    (chkL l = 0 ∧ l.length ≤ 257 ∧ okL l = true ∧ (sumL l = 0 ∨ sumL l = 32768 ∨ (usedL l = 1 ∧ sumL l = 16384))) := by
  unfold chkL
  by_cases h1 : 257 < l.length
  · rw [if_pos h1]; exact .inl ⟨rfl, h1⟩
  · rw [if_neg h1]
    by_cases h2 : okL l = false
    · rw [if_pos h2]; exact .inr (.inl ⟨rfl, by omega, h2⟩)
    · rw [if_neg h2]
      have h2' : okL l = true := by simpa using h2
      by_cases h3 : sumL l = 0 ∨ sumL l = 32768 ∨ (usedL l = 1 ∧ sumL l = 16384)
      · rw [if_pos h3]; exact .inr (.inr (.inr ⟨rfl, by omega, h2', h3⟩))
      · rw [if_neg h3]; exact .inr (.inr (.inl ⟨rfl, by omega, h2', h3⟩))
theorem chk0 {l : List Int} (h : chkL l = 0) : l.length ≤ 257 ∧ okL l = true ∧ sumL l ≤ 32768 := by
  rcases chkL_cases l with ⟨h1, _⟩ | ⟨h1, _⟩ | ⟨h1, _⟩ | ⟨_, h2, h3, h4⟩
  · omega
  · omega
  · omega
  · exact ⟨h2, h3, by omega⟩
end LenW
end Go.Proofs.Ytdfclgpkhfpkhaa
