/- The walks of package want and its reference: digits, numbers. -/
import Derived.Test.YtdeiehgghhiijaaDoorWanP
namespace Go.Proofs.YtdeiehgghhiijaaDoor
set_option linter.unusedVariables false
set_option linter.unusedSimpArgs false
set_option linter.unnecessarySimpa false
open Go.RowKit
namespace WanW

theorem refDigit_any (n : Nat) (hn : n < 16) (w : World) : Calls Tryd.prog 36 #[.int .i64 n] w fun e w' => e = .returned (.int .u8 ((digN n : Nat) : Int)) ∧ w' = w := by
  unfold digN
  by_cases h : n < 10
  · have hI : (n : Int) < 10 := by omega
    have h1 : IntKind.i64.wrap (48 + (n : Int)) = 48 + (n : Int) := w64k (by omega) (by omega)
    have h2 : IntKind.u8.wrap (48 + (n : Int)) = 48 + (n : Int) := by rw [IntKind.wrap_u8]; omega
    rw [if_pos h]
    go_enter Tryd.func36, Tryd.ntmps36
    go_wp2_with fail
    go_ret
    exact ⟨by simp, rfl⟩
  · have hI : ¬ (n : Int) < 10 := by omega
    have h1 : IntKind.i64.wrap (87 + (n : Int)) = 87 + (n : Int) := w64k (by omega) (by omega)
    have h2 : IntKind.u8.wrap (87 + (n : Int)) = 87 + (n : Int) := by rw [IntKind.wrap_u8]; omega
    rw [if_neg h]
    go_enter Tryd.func36, Tryd.ntmps36
    go_wp2_with fail
    go_ret
    exact ⟨by simp, rfl⟩
theorem digit_any (r : Int) (h0 : 0 ≤ r) (h1 : r ≤ 2147483647) (w : World) (v : Int) (hv : digV r = v) : Calls Tryd.prog 74 #[.int .i32 r] w fun e w' => e = .returned (.int .i64 v) ∧ w' = w := by
  have hc : (48 ≤ r ∧ r ≤ 57) ∨ (48 ≤ r ∧ ¬ r ≤ 57 ∧ 97 ≤ r ∧ r ≤ 102) ∨ (48 ≤ r ∧ ¬ r ≤ 57 ∧ ¬ 97 ≤ r) ∨ (48 ≤ r ∧ ¬ r ≤ 57 ∧ 97 ≤ r ∧ ¬ r ≤ 102) ∨ (¬ 48 ≤ r ∧ ¬ 97 ≤ r) := by omega
  have w1 : IntKind.i32.wrap (r - 48) = r - 48 := by rw [IntKind.wrap_i32]; omega
  have w2 : IntKind.i32.wrap (r - 97) = r - 97 := by rw [IntKind.wrap_i32]; omega
  have w3 : IntKind.i64.wrap (r - 48) = r - 48 := w64k (by omega) (by omega)
  have w4 : IntKind.i64.wrap (r - 97) = r - 97 := w64k (by omega) (by omega)
  have w5 : IntKind.i64.wrap (r - 97 + 10) = r - 97 + 10 := w64k (by omega) (by omega)
  unfold digV at hv
  rcases hc with ⟨q1, q2⟩ | ⟨q1, q2, q3, q4⟩ | ⟨q1, q2, q3⟩ | ⟨q1, q2, q3, q4⟩ | ⟨q1, q3⟩
  · rw [if_pos ⟨q1, q2⟩] at hv; subst hv
    go_enter Tryd.func74, Tryd.ntmps74
    go_wp2_with fail
    go_ret
    exact ⟨rfl, rfl⟩
  · rw [if_neg (by omega), if_pos ⟨q3, q4⟩] at hv
    have e : r - 97 + 10 = v := by omega
    rw [e] at w5
    clear hv
    go_enter Tryd.func74, Tryd.ntmps74
    go_wp2_with fail
    go_ret
    exact ⟨by simp [e], rfl⟩
  iterate 3
    rw [if_neg (by omega), if_neg (by omega)] at hv; subst hv
    go_enter Tryd.func74, Tryd.ntmps74
    go_wp2_with fail
    go_ret
    exact ⟨rfl, rfl⟩
end WanW
end Go.Proofs.YtdeiehgghhiijaaDoor
