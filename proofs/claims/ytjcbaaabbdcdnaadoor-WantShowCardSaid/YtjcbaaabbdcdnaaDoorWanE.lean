/- The walks of package want and its reference: what may be written; a number's digits. -/
import Derived.Test.YtjcbaaabbdcdnaaDoorWanD
namespace Go.Proofs.YtjcbaaabbdcdnaaDoor
set_option linter.unusedVariables false
set_option linter.unusedSimpArgs false
set_option linter.unnecessarySimpa false
open Go.RowKit
namespace WanW

def mayV (a b : Int) : Bool := decide (0 ≤ a) && (decide (a ≤ 1000000001) && (decide (0 ≤ b) && decide (b ≤ 1000000001)))
theorem may_any (a b : Int) (w : World) (v : Bool) (hv : mayV a b = v) : Calls Tryd.prog 27 #[.agg #[.int .i64 a, .int .i64 b]] w fun e w' => e = .returned (.bool v) ∧ Below w.heap.size w w' := by
  have hB := (Below.refl w.heap.size w).alloc (Nat.le_refl _) (.cells #[.int .i64 a, .int .i64 b] 24)
  have HBB := Lib.hid hB
  have hc : ¬ 0 ≤ a ∨ (0 ≤ a ∧ ¬ a ≤ 1000000001) ∨ (0 ≤ a ∧ a ≤ 1000000001 ∧ ¬ 0 ≤ b) ∨ (0 ≤ a ∧ a ≤ 1000000001 ∧ 0 ≤ b ∧ ¬ b ≤ 1000000001) ∨ (0 ≤ a ∧ a ≤ 1000000001 ∧ 0 ≤ b ∧ b ≤ 1000000001) := by omega
  clear hB
  rcases hc with q1 | ⟨q1, q2⟩ | ⟨q1, q2, q3⟩ | ⟨q1, q2, q3, q4⟩ | ⟨q1, q2, q3, q4⟩
  · have e : v = false := by rw [← hv]; simp [mayV, q1]
    subst e; clear hv
    have qd : decide (0 ≤ a) = false := by simp; omega
    go_enter Tryd.func27, Tryd.ntmps27
    go_wp2_with fail
    go_ret
    exact ⟨rfl, HBB.out⟩
  · have e : v = false := by rw [← hv]; simp [mayV, q2]
    subst e; clear hv
    have qd : decide (a ≤ 1000000001) = false := by simp; omega
    go_enter Tryd.func27, Tryd.ntmps27
    go_wp2_with fail
    go_ret
    exact ⟨rfl, HBB.out⟩
  · have e : v = false := by rw [← hv]; simp [mayV, q3]
    subst e; clear hv
    have qd : decide (0 ≤ b) = false := by simp; omega
    go_enter Tryd.func27, Tryd.ntmps27
    go_wp2_with fail
    go_ret
    exact ⟨rfl, HBB.out⟩
  · have e : v = false := by rw [← hv]; simp [mayV, q4]
    subst e; clear hv
    have qd : decide (b ≤ 1000000001) = false := by simp; omega
    go_enter Tryd.func27, Tryd.ntmps27
    go_wp2_with fail
    go_ret
    exact ⟨by first | rfl | simp, HBB.out⟩
  · have e : v = true := by rw [← hv]; simp [mayV, q1, q2, q3, q4]
    subst e; clear hv
    go_enter Tryd.func27, Tryd.ntmps27
    go_wp2_with fail
    go_ret
    exact ⟨by first | rfl | simp, HBB.out⟩
/-- A number's digits. -/
def decL (n : Nat) : List UInt8 := if h : n < 10 then [UInt8.ofNat (48 + n)] else decL (n / 10) ++ [UInt8.ofNat (48 + n % 10)]
termination_by n
decreasing_by omega
theorem decL_len (n k : Nat) (h : n < 10 ^ (k + 1)) : (decL n).length ≤ k + 1 := by
  induction k generalizing n with
  | zero => rw [decL, dif_pos (by simpa using h)]; simp
  | succ k ih =>
    rw [decL]
    split
    · simp
    · rw [List.length_append, List.length_singleton]
      have := ih (n / 10) (by rw [Nat.pow_succ] at h; omega)
      omega
theorem dig_nat (n : Nat) (h : n < 10) : (UInt8.ofNat (48 + n)).toNat = 48 + n := by rw [UInt8.toNat_ofNat']; omega
end WanW
end Go.Proofs.YtjcbaaabbdcdnaaDoor
