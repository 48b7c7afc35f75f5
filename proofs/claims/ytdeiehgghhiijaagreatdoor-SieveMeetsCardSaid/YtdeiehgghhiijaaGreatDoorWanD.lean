/- The walks of the reference of package want: bytes in the base 16. The walks of package want and its reference: what may be written; a number's digits. The walks of the reference of package want: a number's digits. -/
import Derived.Test.YtdeiehgghhiijaaGreatDoorWanP
import Derived.Test.YtdeiehgghhiijaaGreatDoorReg2
namespace Go.Proofs.YtdeiehgghhiijaaGreatDoor
set_option linter.unusedVariables false
set_option linter.unusedSimpArgs false
set_option linter.unnecessarySimpa false
open Go.RowKit
namespace WanW

theorem El_u8 : El Tryz.prog 106 5 1 1 := El.mk' Tryz.underlying106 (z := .int .u8 0) (by kernel_rfl) rfl (by decide)
def digB (n : Nat) : UInt8 := UInt8.ofNat (digN n)
theorem digN_lt (n : Nat) (h : n < 16) : digN n < 128 := by unfold digN; split <;> omega
theorem digB_toNat (n : Nat) (h : n < 16) : (digB n).toNat = digN n := by
  have := digN_lt n h
  unfold digB
  rw [UInt8.toNat_ofNat']
  omega
/-- Bytes, written in the base 16. -/
def hexL (s : List UInt8) : List UInt8 := s.flatMap fun b => [digB (b.toNat / 16), digB (b.toNat % 16)]
theorem hexL_snoc (s : List UInt8) (b : UInt8) : hexL (s ++ [b]) = hexL s ++ [digB (b.toNat / 16), digB (b.toNat % 16)] := by simp [hexL]
theorem hexL_len (s : List UInt8) : (hexL s).length = 2 * s.length := by
  induction s with
  | nil => rfl
  | cons b s ih =>
    show ([digB (b.toNat / 16), digB (b.toNat % 16)] ++ hexL s).length = _
    simp [ih]
    omega
theorem byts_cat (a b : List UInt8) : byts (a ++ b) = byts a ++ byts b := by simp [byts]
theorem refDigit_b (n : Nat) (hn : n < 16) (w : World) : Calls Tryz.prog 70 #[.int .i64 n] w fun e w' => e = .returned (byt (digB n)) ∧ Below w.heap.size w w' := by
  refine (refDigit_any n hn w).mono ?_
  rintro e w' ⟨rfl, rfl⟩
  exact ⟨by rw [byt, digB_toNat n hn], Below.refl _ _⟩
end WanW
end Go.Proofs.YtdeiehgghhiijaaGreatDoor

namespace Go.Proofs.YtdeiehgghhiijaaGreatDoor
set_option linter.unusedVariables false
set_option linter.unusedSimpArgs false
set_option linter.unnecessarySimpa false
open Go.RowKit
namespace WanW

def mayV (a b : Int) : Bool := decide (0 ≤ a) && (decide (a ≤ 1000000001) && (decide (0 ≤ b) && decide (b ≤ 1000000001)))
/-- A number's digits. -/
def decL (n : Nat) : List UInt8 := if h : n < 10 then [UInt8.ofNat (48 + n)] else decL (n / 10) ++ [UInt8.ofNat (48 + n % 10)]
termination_by n
decreasing_by omega
theorem decL_len (n k : Nat) (h : n < 10 ^ (k + 1)) : (decL n).length ≤ k + 1 := by
  induction k generalizing n with
  | zero => rw [decL, dif_pos (by simpa using h)]; simp
  | succ k ih =>
    rw [decL]
    split
    · simp
    · rw [List.length_append, List.length_singleton]
      have := ih (n / 10) (by rw [Nat.pow_succ] at h; omega)
      omega
theorem dig_nat (n : Nat) (h : n < 10) : (UInt8.ofNat (48 + n)).toNat = 48 + n := by rw [UInt8.toNat_ofNat']; omega
end WanW
end Go.Proofs.YtdeiehgghhiijaaGreatDoor

namespace Go.Proofs.YtdeiehgghhiijaaGreatDoor
set_option linter.unusedVariables false
set_option linter.unusedSimpArgs false
set_option linter.unnecessarySimpa false
open Go.RowKit
namespace WanW

theorem str_cat (a b : List UInt8) : (⟨a.toArray⟩ : ByteArray) ++ ⟨b.toArray⟩ = ⟨(a ++ b).toArray⟩ := by
  apply ByteArray.ext
  simp
theorem dig_own (w : World) (n : Nat) (h : n < 10) : Own (w.alloc (.cells #[.int .u8 (48 + (n : Int))] 5)) w.heap.size 5 1 (some ⟨w.heap.size, 0, none⟩) 1 1 (byts [UInt8.ofNat (48 + n)]) := by
  have ho := own_new (W0 := w) (t := 5) (base := w.heap.size) (n := 1) (size := 1) (cs := byts [UInt8.ofNat (48 + n)]) rfl rfl (Nat.le_refl _) (by unfold maxLen; omega)
  have e : (byts [UInt8.ofNat (48 + n)]).toArray = #[Value.int .u8 (48 + (n : Int))] := by simp only [byts, byt, List.map_cons, List.map_nil, dig_nat n h]; rfl
  rw [e] at ho
  exact ho
end WanW
end Go.Proofs.YtdeiehgghhiijaaGreatDoor
