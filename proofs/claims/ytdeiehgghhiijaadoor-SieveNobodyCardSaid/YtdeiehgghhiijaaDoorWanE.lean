/- The walks of package want and its reference: what may be written; a number's digits. -/
import Derived.Test.YtdeiehgghhiijaaDoorWanD
namespace Go.Proofs.YtdeiehgghhiijaaDoor
set_option linter.unusedVariables false
set_option linter.unusedSimpArgs false
set_option linter.unnecessarySimpa false
open Go.RowKit
namespace WanW

def mayV (a b : Int) : Bool := decide (0 ≤ a) && (decide (a ≤ 1000000001) && (decide (0 ≤ b) && decide (b ≤ 1000000001)))
/-- A number's digits. -/
def decL (n : Nat) : List UInt8 := if h : n < 10 then [UInt8.ofNat (48 + n)] else decL (n / 10) ++ [UInt8.ofNat (48 + n % 10)]
termination_by n
decreasing_by omega
theorem decL_len (n k : Nat) (h : n < 10 ^ (k + 1)) : (decL n).length ≤ k + 1 := by
  induction k generalizing n with
  | zero => rw [decL, dif_pos (by simpa using h)]; simp
  | succ k ih =>
    rw [decL]
    split
    · simp
    · rw [List.length_append, List.length_singleton]
      have := ih (n / 10) (by rw [Nat.pow_succ] at h; omega)
      omega
theorem dig_nat (n : Nat) (h : n < 10) : (UInt8.ofNat (48 + n)).toNat = 48 + n := by rw [UInt8.toNat_ofNat']; omega
end WanW
end Go.Proofs.YtdeiehgghhiijaaDoor
