/- Plain facts on the parts of a row of records. -/
import Derived.Test.YtehlgpfkpagaeaaBufC
namespace Go.Proofs.Ytehlgpfkpagaeaa
set_option linter.unusedVariables false
set_option linter.unusedSimpArgs false
set_option linter.unnecessarySimpa false
open Go.RowKit
namespace RecW

theorem rowFrom_cons (p : Option Rc) (r : Rc) (l : List Rc) : rowFrom p (r :: l) = if okR r then (match p with | none => rowFrom (some r) l | some q => if nextB q r then rowFrom (some r) l else 151) else 150 := by
  cases p <;> rfl
theorem rowFrom_take (p : Option Rc) (l : List Rc) (k : Nat) (h : rowFrom p l = 0) : rowFrom p (l.take k) = 0 := by
  induction l generalizing p k with
  | nil => simpa using h
  | cons r l ih =>
    cases k with
    | zero => simp [rowFrom]
    | succ k =>
      rw [List.take_succ_cons]
      rw [rowFrom_cons] at h ⊢
      by_cases h1 : okR r = true
      · rw [if_pos h1] at h ⊢
        cases p with
        | none => exact ih _ k h
        | some q =>
          dsimp only at h ⊢
          by_cases h2 : nextB q r = true
          · rw [if_pos h2] at h ⊢; exact ih _ k h
          · rw [if_neg h2] at h; cases h
      · rw [if_neg h1] at h; cases h
theorem rowFrom_none (p : Option Rc) (l : List Rc) (h : rowFrom p l = 0) : rowFrom none l = 0 := by
  cases l with
  | nil => rfl
  | cons r l =>
    rw [rowFrom_cons] at h ⊢
    by_cases h1 : okR r = true
    · rw [if_pos h1] at h ⊢
      cases p with
      | none => exact h
      | some q =>
        dsimp only at h ⊢
        by_cases h2 : nextB q r = true
        · rw [if_pos h2] at h; exact h
        · rw [if_neg h2] at h; cases h
    · rw [if_neg h1] at h; cases h
theorem rowN_drop (p : Option Rc) (l : List Rc) (k : Nat) (h : rowFrom p l = 0) : rowN (l.drop k) = 0 := by
  induction l generalizing p k with
  | nil => simp [rowN, rowFrom]
  | cons r l ih =>
    cases k with
    | zero => exact rowFrom_none _ _ h
    | succ k =>
      rw [List.drop_succ_cons]
      rw [rowFrom_cons] at h
      by_cases h1 : okR r = true
      · rw [if_pos h1] at h
        cases p with
        | none => exact ih _ k h
        | some q =>
          dsimp only at h
          by_cases h2 : nextB q r = true
          · rw [if_pos h2] at h; exact ih _ k h
          · rw [if_neg h2] at h; cases h
      · rw [if_neg h1] at h; cases h
theorem sumN_cons (r : Rc) (l : List Rc) : sumN (r :: l) = sizeN r + sumN l := by simp [sumN]
theorem cutF_min (t : Int) (s : Nat) (l : List Rc) (j : Nat) (h : j < cutF t s l) (hs : (s : Int) < t) : ((s + sumN (l.take j) : Nat) : Int) < t := by
  induction l generalizing s j with
  | nil => simp [cutF] at h
  | cons r l ih =>
    cases j with
    | zero => simpa [sumN] using hs
    | succ j =>
      rw [cutF] at h
      by_cases hc : t ≤ ((s + sizeN r : Nat) : Int)
      · rw [if_pos hc] at h; omega
      · rw [if_neg hc] at h
        have := ih (s + sizeN r) j (by omega) (by omega)
        rw [List.take_succ_cons, sumN_cons, ← Nat.add_assoc]
        exact this
theorem cutF_full (t : Int) (s : Nat) (l : List Rc) (h : cutF t s l < l.length) : t ≤ ((s + sumN (l.take (cutF t s l)) : Nat) : Int) := by
  induction l generalizing s with
  | nil => simp at h
  | cons r l ih =>
    rw [cutF] at h ⊢
    by_cases hc : t ≤ ((s + sizeN r : Nat) : Int)
    · rw [if_pos hc] at h ⊢
      simpa [sumN] using hc
    · rw [if_neg hc] at h ⊢
      have := ih (s + sizeN r) (by simp at h; omega)
      rw [show 1 + cutF t (s + sizeN r) l = cutF t (s + sizeN r) l + 1 from by omega, List.take_succ_cons, sumN_cons, ← Nat.add_assoc]
      exact this
/-- What is said of a part. -/
def partB (t : Int) (last : Bool) (c : List Rc) : Prop := 0 < c.length ∧ rowN c = 0 ∧ (rawN (c.take (c.length - 1)) : Int) < t ∧ (last = false → ¬ (rawN c : Int) < t)
theorem chunksF_good (t : Int) (h1 : 1 ≤ t) (h2 : t ≤ 20000) (f : Nat) (l : List Rc) (hl : l.length ≤ f) (hrow : rowN l = 0) :
    ∀ i (h : i < (chunksF t f l).length), partB t (decide (i + 1 = (chunksF t f l).length)) (chunksF t f l)[i] := by
  induction f generalizing l with
  | zero => intro i h; simp [chunksF] at h
  | succ f ih =>
    intro i h
    by_cases hn : l = []
    · simp [chunksF, hn] at h
    · have e : chunksF t (f + 1) l = l.take (cutF t 0 l) :: chunksF t f (l.drop (cutF t 0 l)) := by rw [chunksF, if_neg hn]
      have hp := cutF_pos t 0 l (by cases l with | nil => exact absurd rfl hn | cons => simp)
      have hle := cutF_le t 0 l
      have IH := ih (l.drop (cutF t 0 l)) (by simp; omega) (rowN_drop none l _ hrow)
      simp only [e] at h ⊢
      cases i with
      | zero =>
        simp only [List.getElem_cons_zero]
        refine ⟨by simp; omega, rowFrom_take _ _ _ hrow, ?_, ?_⟩
        · have := cutF_min t 0 l (cutF t 0 l - 1) (by omega) (by omega)
          rw [List.length_take, Nat.min_eq_left hle, List.take_take, Nat.min_eq_left (by omega), rawN_sum]
          omega
        · intro hlast
          have hlt : cutF t 0 l < l.length := by
            rcases Nat.lt_or_ge (cutF t 0 l) l.length with h | h
            · exact h
            · exfalso
              have hd : l.drop (cutF t 0 l) = [] := List.drop_of_length_le h
              have hz : chunksF t f ([] : List Rc) = [] := by cases f <;> simp [chunksF]
              rw [hd, hz] at hlast
              simp at hlast
          have := cutF_full t 0 l hlt
          rw [rawN_sum]
          omega
      | succ i =>
        simp only [List.getElem_cons_succ, List.length_cons]
        have := IH i (by simpa using h)
        simpa using this
theorem chunksF_flat (t : Int) (f : Nat) (l : List Rc) (hl : l.length ≤ f) : (chunksF t f l).flatten = l := by
  induction f generalizing l with
  | zero =>
    have : l = [] := List.eq_nil_of_length_eq_zero (by omega)
    subst this
    rfl
  | succ f ih =>
    by_cases hn : l = []
    · subst hn; rfl
    · have hp := cutF_pos t 0 l (by cases l with | nil => exact absurd rfl hn | cons => simp)
      rw [chunksF, if_neg hn, List.flatten_cons, ih _ (by simp; omega), List.take_append_drop]
theorem flat_take_len (ls : List (List Rc)) (k : Nat) : (ls.take k).flatten.length ≤ ls.flatten.length := by
  have h := congrArg (fun x => (List.flatten x).length) (List.take_append_drop k ls)
  simp only [List.flatten_append, List.length_append] at h
  omega
theorem chunksN_good {t : Int} {l : List Rc} (h1 : 1 ≤ t) (h2 : t ≤ 20000) (hrow : rowN l = 0) (i : Nat) (h : i < (chunksN t l).length) : partB t (decide (i + 1 = (chunksN t l).length)) (chunksN t l)[i] :=
  chunksF_good t h1 h2 l.length l (Nat.le_refl _) hrow i h
theorem chunksN_flat (t : Int) (l : List Rc) : (chunksN t l).flatten = l := chunksF_flat t l.length l (Nat.le_refl _)
theorem chunksV_no {t : Int} {l : List Rc} (h : (chunksV t l).2 ≠ 0) : (chunksV t l).1 = [] := by
  unfold chunksV at *
  by_cases h1 : t < 1 ∨ 20000 < t
  · rw [if_pos h1]
  · rw [if_neg h1] at *
    by_cases h2 : rowN l = 0
    · rw [if_pos h2] at h; exact absurd rfl h
    · rw [if_neg h2]
theorem chunksV_yes {t : Int} {l : List Rc} (h : (chunksV t l).2 = 0) : (chunksV t l).1 = chunksN t l ∧ rowN l = 0 ∧ 1 ≤ t ∧ t ≤ 20000 := by
  unfold chunksV at *
  by_cases h1 : t < 1 ∨ 20000 < t
  · rw [if_pos h1] at h; cases h
  · rw [if_neg h1] at *
    by_cases h2 : rowN l = 0
    · rw [if_pos h2]; exact ⟨rfl, h2, by omega, by omega⟩
    · rw [if_neg h2] at h; exact absurd h h2
end RecW
end Go.Proofs.Ytehlgpfkpagaeaa
