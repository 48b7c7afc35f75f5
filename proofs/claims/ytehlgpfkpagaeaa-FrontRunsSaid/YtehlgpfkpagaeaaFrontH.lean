/- Plain facts: a rank is how many unlike bytes stood between. No program is named here. -/
import Derived.Test.YtehlgpfkpagaeaaFrontD
namespace Go.Proofs.Ytehlgpfkpagaeaa
set_option linter.unusedVariables false
set_option linter.unusedSimpArgs false
set_option linter.unnecessarySimpa false
open Go.RowKit
namespace FrontW

theorem idx_at (t : List UInt8) (m : Nat) (hm : m < t.length) (h : t[m] ∉ t.drop (m + 1)) : (runR t).1.idxOf t[m] = (dd (t.drop (m + 1)).reverse).length := by
  have e : t.reverse = (t.drop (m + 1)).reverse ++ t[m] :: (t.take m).reverse := by
    conv => lhs; rw [← List.take_append_drop m t, List.drop_eq_getElem_cons hm, List.reverse_append, List.reverse_cons, List.append_assoc]
    rfl
  rw [row_is, e, idx_between _ _ _ _ (by simpa using h)]
theorem idx_zero (r : List UInt8) (b : UInt8) (hr : 0 < r.length) (hb : b ∈ r) : r.idxOf b = 0 ↔ r[0]? = some b := by
  cases r with
  | nil => simp at hr
  | cons c r =>
    rw [List.idxOf_cons]
    by_cases h : c = b
    · subst h; simp
    · have h' : (c == b) = false := by simpa using h
      simp [h, h']
/-- A rank is 0: the byte came again at once, or it is 0 and the first. -/
theorem rank_zero (s : List UInt8) (i : Nat) (hi : i < s.length) : (runR (s.take i)).1.idxOf s[i] = 0 ↔ (∃ k, ∃ h : i = k + 1, s[k] = s[i]) ∨ (i = 0 ∧ s[i] = 0) := by
  rw [idx_zero _ _ (by rw [row_len]; omega) ((runR_full _).mem _), row_head]
  cases i with
  | zero => simp [eq_comm]
  | succ k =>
    have e : (s.take (k + 1)).reverse = s[k] :: (s.take k).reverse := by rw [List.take_succ_eq_append_getElem (by omega), List.reverse_append]; rfl
    rw [e]
    simp
end FrontW
end Go.Proofs.Ytehlgpfkpagaeaa
