/- Plain facts on ranges that are folded: the two ways come to the same. -/
import Derived.Test.YtdeiehgghhiijaaGreatDoorSpanD
namespace Go.Proofs.YtdeiehgghhiijaaGreatDoor
set_option linter.unusedVariables false
open Go.RowKit
namespace SpanW

theorem rstep_full (q : R) (l : List R) (hq : emptyB q.1 q.2 = false) : l.foldl rstep q = (full l).foldl widen q ∧ emptyB (l.foldl rstep q).1 (l.foldl rstep q).2 = false := by
  induction l generalizing q with
  | nil => exact ⟨rfl, hq⟩
  | cons p l ih =>
    simp only [List.foldl_cons]
    by_cases hp : emptyB p.1 p.2 = true
    · have e : rstep q p = q := by simp [rstep, hp]
      rw [e]
      have := ih q hq
      have hf : full (p :: l) = full l := by simp [full, hp]
      rw [hf]
      exact this
    · have hp' : emptyB p.1 p.2 = false := by simpa using hp
      have e : rstep q p = widen q p := by simp [rstep, hp', hq]
      rw [e]
      have hw : emptyB (widen q p).1 (widen q p).2 = false := by
        simp only [emptyB, decide_eq_false_iff_not] at hq hp' ⊢
        show ¬ max q.2 p.2 < min q.1 p.1
        omega
      have hf : full (p :: l) = p :: full l := by simp [full, hp']
      rw [hf, List.foldl_cons]
      exact ih _ hw

theorem cover_eq (l : List R) : foldR widen (full l) = rcover l := by
  unfold rcover
  induction l with
  | nil => rfl
  | cons p l ih =>
    by_cases hp : emptyB p.1 p.2 = true
    · have hf : full (p :: l) = full l := by simp [full, hp]
      rw [hf, ih, List.foldl_cons]
      simp [rstep, hp]
    · have hp' : emptyB p.1 p.2 = false := by simpa using hp
      have hf : full (p :: l) = p :: full l := by simp [full, hp']
      have e : rstep (1, 0) p = p := by
        unfold rstep
        rw [if_neg hp, if_pos (by decide)]
      rw [hf, List.foldl_cons, e]
      obtain ⟨h1, h2⟩ := rstep_full p l hp'
      rw [h1] at h2 ⊢
      simp only [foldR, norm]
      rw [if_neg]
      simpa [emptyB] using h2

theorem both_two (p q : R) : foldR narrow [p, q] = if min p.2 q.2 < max p.1 q.1 then (1, 0) else (max p.1 q.1, min p.2 q.2) := rfl

theorem meets_eq (p q : R) : meetsB p q = (!emptyB p.1 p.2 && (!emptyB q.1 q.2 && (decide (p.1 ≤ q.2) && decide (q.1 ≤ p.2)))) := by
  simp only [meetsB, both_two, emptyB]
  rw [Bool.eq_iff_iff]
  split <;> simp <;> omega

theorem within_eq (p q : R) : withinB p q = (emptyB p.1 p.2 || hasB q.1 q.2 p.1 && hasB q.1 q.2 p.2) := by
  simp only [withinB, emptyB, hasB]
  rw [Bool.eq_iff_iff]
  simp
  omega

theorem has_both (a b : R) (n : Int) : hasB (foldR narrow [a, b]).1 (foldR narrow [a, b]).2 n = (hasB a.1 a.2 n && hasB b.1 b.2 n) := by
  rw [both_two]
  simp only [hasB]
  rw [Bool.eq_iff_iff]
  split <;> simp <;> omega

theorem empty_both (a b : R) : emptyB (foldR narrow [a, b]).1 (foldR narrow [a, b]).2 = !meetsB a b := by simp [meetsB]

theorem within_both1 (a b : R) : withinB (foldR narrow [a, b]) a = true := by
  rw [both_two]
  simp only [withinB, emptyB]
  split <;> simp <;> omega
theorem within_both2 (a b : R) : withinB (foldR narrow [a, b]) b = true := by
  rw [both_two]
  simp only [withinB, emptyB]
  split <;> simp <;> omega
theorem both_comm (a b : R) : foldR narrow [b, a] = foldR narrow [a, b] := by
  rw [both_two, both_two, Int.min_comm, Int.max_comm]
theorem size_both (a b : R) : sizeR (foldR narrow [a, b]) ≤ sizeR a := by
  rw [both_two]
  by_cases h : min a.2 b.2 < max a.1 b.1
  · rw [if_pos h]
    have : sizeR (1, 0) = 0 := by decide
    rw [this]; unfold sizeR; split <;> (try split) <;> omega
  · rw [if_neg h]
    simp only [sizeR]
    rw [if_neg h]
    split <;> split <;> (try split) <;> omega
theorem both_i64 (a b : R) (h1 : I64 a.1) (h2 : I64 a.2) (h3 : I64 b.1) (h4 : I64 b.2) : I64 (foldR narrow [a, b]).1 ∧ I64 (foldR narrow [a, b]).2 := by
  rw [both_two]
  unfold I64 at *
  split <;> constructor <;> simp <;> omega

def coverR (a b : R) : R := if emptyB a.1 a.2 = true then (if emptyB b.1 b.2 = true then (1, 0) else b) else (if emptyB b.1 b.2 = true then a else widen a b)
theorem cover_two (a b : R) : foldR widen (full [a, b]) = coverR a b := by
  unfold coverR
  by_cases ha : emptyB a.1 a.2 = true <;> by_cases hb : emptyB b.1 b.2 = true
  · simp [full, ha, hb, foldR]
  · have hb' : ¬ b.2 < b.1 := by simpa [emptyB] using hb
    simp [full, ha, hb, foldR, norm, hb']
  · have ha' : ¬ a.2 < a.1 := by simpa [emptyB] using ha
    simp [full, ha, hb, foldR, norm, ha']
  · have ha' : ¬ a.2 < a.1 := by simpa [emptyB] using ha
    have hb' : ¬ b.2 < b.1 := by simpa [emptyB] using hb
    have hw : ¬ (widen a b).2 < (widen a b).1 := by show ¬ max a.2 b.2 < min a.1 b.1; omega
    simp [full, ha, hb, foldR, norm, hw]
theorem cover_comm (a b : R) : coverR b a = coverR a b := by
  unfold coverR
  by_cases ha : emptyB a.1 a.2 = true <;> by_cases hb : emptyB b.1 b.2 = true <;> simp [ha, hb, widen, Int.min_comm, Int.max_comm]
theorem cover_facts (a b : R) : withinB a (coverR a b) = true ∧ withinB b (coverR a b) = true := by
  unfold coverR withinB
  by_cases ha : emptyB a.1 a.2 = true <;> by_cases hb : emptyB b.1 b.2 = true <;> simp [ha, hb, widen] <;> omega
theorem cover_has (a b : R) (n : Int) (h : (hasB a.1 a.2 n || hasB b.1 b.2 n) = true) : hasB (coverR a b).1 (coverR a b).2 n = true := by
  unfold coverR
  simp only [hasB, emptyB] at *
  by_cases ha : a.2 < a.1 <;> by_cases hb : b.2 < b.1 <;> simp [ha, hb, widen] at h ⊢ <;> omega
theorem cover_empty (a b : R) : emptyB (coverR a b).1 (coverR a b).2 = (emptyB a.1 a.2 && emptyB b.1 b.2) := by
  unfold coverR
  by_cases ha : emptyB a.1 a.2 = true <;> by_cases hb : emptyB b.1 b.2 = true <;> simp [ha, hb]
  · decide
  · simp [emptyB] at ha hb
    show decide (max a.2 b.2 < min a.1 b.1) = false
    simp
    omega
theorem cover_lo (a b : R) (h : (emptyB a.1 a.2 && emptyB b.1 b.2) = false) : ((coverR a b).1 == a.1 && !emptyB a.1 a.2) = false → ((coverR a b).1 == b.1) = true ∧ emptyB b.1 b.2 = false := by
  unfold coverR
  by_cases ha : emptyB a.1 a.2 = true <;> by_cases hb : emptyB b.1 b.2 = true <;> simp [ha, hb, widen] at h ⊢
  omega
theorem cover_hi (a b : R) (h : (emptyB a.1 a.2 && emptyB b.1 b.2) = false) : ((coverR a b).2 == a.2 && !emptyB a.1 a.2) = false → ((coverR a b).2 == b.2) = true ∧ emptyB b.1 b.2 = false := by
  unfold coverR
  by_cases ha : emptyB a.1 a.2 = true <;> by_cases hb : emptyB b.1 b.2 = true <;> simp [ha, hb, widen] at h ⊢
  omega
end SpanW
end Go.Proofs.YtdeiehgghhiijaaGreatDoor
