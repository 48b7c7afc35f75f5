/- Plain facts on the bits of numbers. No program is named here. -/
import Derived.Test.YtpnccehaomikbaaStr
import Derived.IntWalk
namespace Go.Proofs.Ytpnccehaomikbaa
set_option linter.unusedVariables false
set_option linter.unusedSimpArgs false
set_option linter.unnecessarySimpa false
open Go.RowKit

theorem u8_in (n : Int) (h0 : 0 ≤ n) (h1 : n < 256) : IntKind.u8.wrap n = n := by
  simp [IntKind.wrap, IntKind.bits, IntKind.signed]; omega
theorem u64_in (n : Int) (h0 : 0 ≤ n) (h1 : n < 18446744073709551616) : IntKind.u64.wrap n = n := by
  simp [IntKind.wrap, IntKind.bits, IntKind.signed]; omega
theorem ofInt_nat (k n : Nat) : BitVec.ofInt k (n : Int) = BitVec.ofNat k n := by simp

theorem bits_nat_or (kd : IntKind) (x y : Nat) (hx : x < 2 ^ kd.bits) (hy : y < 2 ^ kd.bits) : bits .or kd (x : Int) (y : Int) = kd.wrap ((x ||| y : Nat) : Int) := by
  unfold bits
  simp only [ofInt_nat, BitVec.toNat_or, BitVec.toNat_ofNat]
  rw [Nat.mod_eq_of_lt hx, Nat.mod_eq_of_lt hy]
theorem bits_nat_and (kd : IntKind) (x y : Nat) (hx : x < 2 ^ kd.bits) (hy : y < 2 ^ kd.bits) : bits .and kd (x : Int) (y : Int) = kd.wrap ((x &&& y : Nat) : Int) := by
  unfold bits
  simp only [ofInt_nat, BitVec.toNat_and, BitVec.toNat_ofNat]
  rw [Nat.mod_eq_of_lt hx, Nat.mod_eq_of_lt hy]

theorem bits_u8_127 (x : Nat) (h : x < 256) : bits .and .u8 (x : Int) 127 = ((x % 128 : Nat) : Int) := by
  have := bits_nat_and .u8 x 127 (by simpa [IntKind.bits] using h) (by simp [IntKind.bits])
  rw [show ((127 : Nat) : Int) = 127 from rfl] at this
  rw [this, show (127 : Nat) = 2 ^ 7 - 1 from rfl, Nat.and_two_pow_sub_one_eq_mod]
  exact u8_in _ (by omega) (by omega)
theorem bits_u8_128 (x : Nat) (h : x < 256) : bits .or .u8 (x : Int) 128 = ((128 + x % 128 : Nat) : Int) := by
  have := bits_nat_or .u8 x 128 (by simpa [IntKind.bits] using h) (by simp [IntKind.bits])
  rw [show ((128 : Nat) : Int) = 128 from rfl] at this
  rw [this]
  have e : x ||| 128 = 128 + x % 128 := by
    have h1 : ∀ x : Fin 256, x.val ||| 128 = 128 + x.val % 128 := by decide +kernel
    exact h1 ⟨x, h⟩
  rw [e]
  exact u8_in _ (by omega) (by omega)
/-- Below bit k: v; from bit k on: b. -/
theorem or_shift (k v b : Nat) (hv : v < 2 ^ k) : v ||| (b * 2 ^ k) = v + b * 2 ^ k := by
  have := Nat.two_pow_add_eq_or_of_lt hv b
  rw [Nat.mul_comm b, Nat.or_comm, ← this, Nat.add_comm]
theorem bits_i64_or (k v b : Nat) (hv : v < 2 ^ k) (h : v + b * 2 ^ k < 9223372036854775808) : bits .or .i64 (v : Int) ((b * 2 ^ k : Nat) : Int) = ((v + b * 2 ^ k : Nat) : Int) := by
  rw [bits_nat_or .i64 v (b * 2 ^ k) (by simp [IntKind.bits]; omega) (by simp [IntKind.bits]; omega), or_shift k v b hv]
  exact IntWalk.i64_in _ (by omega)
theorem bits_u64_or (k v b : Nat) (hv : v < 2 ^ k) (h : v + b * 2 ^ k < 18446744073709551616) : bits .or .u64 ((b * 2 ^ k : Nat) : Int) (v : Int) = ((v + b * 2 ^ k : Nat) : Int) := by
  rw [bits_nat_or .u64 (b * 2 ^ k) v (by simp [IntKind.bits]; omega) (by simp [IntKind.bits]; omega), Nat.or_comm, or_shift k v b hv]
  exact u64_in _ (by omega) (by omega)
end Go.Proofs.Ytpnccehaomikbaa
