/- Plain: lengths of code words. No program is named here. -/
import Derived.Test.YtdfclgpkhfpkhaaMem
namespace Go.Proofs.Ytdfclgpkhfpkhaa
set_option linter.unusedVariables false
set_option linter.unusedSimpArgs false
set_option linter.unnecessarySimpa false
open Go.RowKit
namespace LenW

theorem w64 {x : Int} (h1 : -4611686018427387904 ≤ x) (h2 : x ≤ 4611686018427387904) : wrap64 x = x := by unfold wrap64; omega
theorem w64k {x : Int} (h1 : -4611686018427387904 ≤ x) (h2 : x ≤ 4611686018427387904) : IntKind.i64.wrap x = x := by rw [IntKind.wrap_i64]; omega
def usedL (l : List Int) : Nat := (l.filter fun n => decide (0 < n)).length
def partL (n : Int) : Nat := if 0 < n then 2 ^ (15 - n.toNat) else 0
def sumL (l : List Int) : Nat := (l.map partL).sum
def okL (l : List Int) : Bool := l.all fun n => decide (0 ≤ n) && decide (n ≤ 15)
/-- Is it what a code has: 0; too many: 3; none's: 80. -/
def chkL (l : List Int) : Int := if 257 < l.length then 3 else if okL l = false then 80 else if sumL l = 0 ∨ sumL l = 32768 ∨ (usedL l = 1 ∧ sumL l = 16384) then 0 else 80
theorem usedL_snoc (l : List Int) (k : Nat) (h : k < l.length) : usedL (l.take (k + 1)) = usedL (l.take k) + (if 0 < l[k] then 1 else 0) := by
  unfold usedL
  rw [List.take_succ_eq_append_getElem h, List.filter_append, List.length_append]
  by_cases hk : 0 < l[k] <;> simp [hk]
theorem usedL_le (l : List Int) : usedL l ≤ l.length := List.length_filter_le _ _
theorem partL_le (n : Int) : partL n ≤ 32768 := by
  unfold partL
  split
  · calc 2 ^ (15 - n.toNat) ≤ 2 ^ 15 := Nat.pow_le_pow_right (by omega) (by omega)
      _ = 32768 := by decide
  · omega
theorem sumL_snoc (l : List Int) (k : Nat) (h : k < l.length) : sumL (l.take (k + 1)) = sumL (l.take k) + partL l[k] := by
  unfold sumL
  rw [List.take_succ_eq_append_getElem h, List.map_append, List.sum_append]
  simp
theorem sumL_le (l : List Int) : sumL l ≤ 32768 * l.length := by
  unfold sumL
  induction l with
  | nil => simp
  | cons a l ih =>
    have := partL_le a
    simp only [List.map_cons, List.sum_cons, List.length_cons]
    omega
theorem okL_snoc (l : List Int) (k : Nat) (h : k < l.length) : okL (l.take (k + 1)) = (okL (l.take k) && (decide (0 ≤ l[k]) && decide (l[k] ≤ 15))) := by
  unfold okL
  rw [List.take_succ_eq_append_getElem h, List.all_append]
  simp
theorem okL_take (l : List Int) (k : Nat) (h : okL l = true) : okL (l.take k) = true := by
  unfold okL at h ⊢
  rw [List.all_eq_true] at h ⊢
  exact fun x hx => h x (List.mem_of_mem_take hx)
theorem okL_at (l : List Int) (k : Nat) (hk : k < l.length) (h : okL l = true) : 0 ≤ l[k] ∧ l[k] ≤ 15 := by
  unfold okL at h
  rw [List.all_eq_true] at h
  have := h _ (List.getElem_mem hk)
  simpa using this
theorem okL_no (l : List Int) (k : Nat) (hk : k < l.length) (h : ¬ (0 ≤ l[k] ∧ l[k] ≤ 15)) : okL l = false := by
  cases ho : okL l with
  | false => rfl
  | true => exact absurd (okL_at l k hk ho) h
end LenW
end Go.Proofs.Ytdfclgpkhfpkhaa
