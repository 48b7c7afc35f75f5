/- Walks over package varint and its reference: fixed numbers. -/
import Derived.Test.YtnghmcadhjneeaaVarG
namespace Go.Proofs.Ytnghmcadhjneeaa
set_option linter.unusedVariables false
set_option linter.unusedSimpArgs false
set_option linter.unnecessarySimpa false
open Go.RowKit
namespace VarW

def fitsB (n : Int) (k : Nat) : Bool := decide (0 ≤ n) && decide (n < (256 : Int) ^ k)
theorem pow8 (k : Nat) : (2 : Int) ^ (8 * k) = 256 ^ k := by rw [Int.pow_mul]; rfl
theorem shr_zero (n : Int) (k : Nat) (h0 : 0 ≤ n) : (n / 2 ^ (8 * k) == 0) = decide (n < (256 : Int) ^ k) := by
  rw [pow8]
  have hp : (0 : Int) < 256 ^ k := Int.pow_pos (by omega)
  by_cases h : n < (256 : Int) ^ k
  · rw [decide_eq_true h, beq_iff_eq]
    exact Int.ediv_eq_zero_of_lt h0 h
  · rw [decide_eq_false h, beq_eq_false_iff_ne]
    intro e
    have := Int.lt_ediv_add_one_mul_self n hp
    rw [e] at this
    omega
theorem fits8 (n : Int) (h : n ≤ 9223372036854775807) : n < (256 : Int) ^ 8 := by
  have : (256 : Int) ^ 8 = 18446744073709551616 := by decide
  omega
theorem fixV_no {n width : Int} (h : width < 1 ∨ 8 < width ∨ n < 0 ∨ (256 : Int) ^ width.toNat ≤ n) : fixV n width = ([], 2) := by unfold fixV; rw [if_pos h]
theorem fixV_yes {n : Nat} {k : Nat} (h1 : 1 ≤ k) (h8 : k ≤ 8) (h : (n : Int) < (256 : Int) ^ k) : fixV n k = (fbytes k n, 0) := by
  unfold fixV
  rw [if_neg (by rw [Int.toNat_natCast]; omega)]
  simp
theorem fbytes_step (k n : Nat) : fbytes (k + 1) n = UInt8.ofNat (n % 256) :: fbytes k (n / 256) := rfl

theorem div_zero_iff (x k : Nat) : 0 < x / 256 ^ k ↔ (256 : Int) ^ k ≤ (x : Int) := by
  rw [Nat.div_pos_iff]
  have h : ((256 ^ k : Nat) : Int) = (256 : Int) ^ k := by simp
  have hp : 0 < 256 ^ k := Nat.pow_pos (by omega)
  constructor
  · rintro ⟨_, h2⟩; rw [← h]; omega
  · intro h2; rw [← h] at h2; exact ⟨hp, by omega⟩
theorem unfixV_arg {s : List UInt8} {a width : Int} (h : width < 1 ∨ 8 < width ∨ a < 0 ∨ (s.length : Int) < a) : unfixV s a width = (0, 0, 2) := by unfold unfixV; rw [if_pos h]
theorem unfixV_short {s : List UInt8} {p k : Nat} (h1 : 1 ≤ k) (h8 : k ≤ 8) (hp : p ≤ s.length) (h : s.length < p + k) : unfixV s p k = (0, 0, 4) := by
  unfold unfixV
  rw [if_neg (by omega), if_pos (by omega)]
/-- What the last of k bytes from place p on tell, from the m-th on. -/
def fvW (s : List UInt8) (p k m : Nat) : Nat := fval (((s.drop p).take k).drop m)
theorem unfixV_in {s : List UInt8} {p k : Nat} (h1 : 1 ≤ k) (h8 : k ≤ 8) (h : p + k ≤ s.length) : unfixV s p k = if 9223372036854775808 ≤ fvW s p k 0 then (0, 0, 5) else ((fvW s p k 0 : Int), (p : Int) + k, 0) := by
  unfold unfixV fvW
  rw [if_neg (by omega), if_neg (by omega)]
  simp
theorem fvW_end (s : List UInt8) (p k : Nat) : fvW s p k k = 0 := by
  unfold fvW
  rw [List.drop_of_length_le (by simp; omega)]
  rfl
theorem fvW_step (s : List UInt8) (p k m : Nat) (hm : m < k) (h : p + k ≤ s.length) : fvW s p k m = (s[p + m]'(by omega)).toNat + 256 * fvW s p k (m + 1) := by
  unfold fvW
  rw [List.drop_eq_getElem_cons (i := m) (by simp; omega), fval]
  simp
theorem fvW_lt (s : List UInt8) (p k m : Nat) (hm : 1 ≤ m) (hk : k ≤ 8) : fvW s p k m < 72057594037927936 := by
  unfold fvW
  have h1 := fval_lt (((s.drop p).take k).drop m)
  have h2 : (((s.drop p).take k).drop m).length ≤ 7 := by simp; omega
  have h3 : 256 ^ (((s.drop p).take k).drop m).length ≤ 256 ^ 7 := Nat.pow_le_pow_right (by omega) h2
  have h4 : (256 : Nat) ^ 7 = 72057594037927936 := by decide
  omega
theorem fvW_lt0 (s : List UInt8) (p k : Nat) (hk : k ≤ 8) : fvW s p k 0 < 18446744073709551616 := by
  unfold fvW
  have h1 := fval_lt (((s.drop p).take k).drop 0)
  have h2 : (((s.drop p).take k).drop 0).length ≤ 8 := by simp; omega
  have h3 : 256 ^ (((s.drop p).take k).drop 0).length ≤ 256 ^ 8 := Nat.pow_le_pow_right (by omega) h2
  have h4 : (256 : Nat) ^ 8 = 18446744073709551616 := by decide
  omega
theorem fvW_mono (s : List UInt8) (p k m : Nat) (h : p + k ≤ s.length) (hm : m ≤ k) : fvW s p k m ≤ fvW s p k 0 := by
  induction m with
  | zero => exact Nat.le_refl _
  | succ m ih =>
    have := ih (by omega)
    rw [fvW_step s p k m (by omega) h] at this
    omega
theorem fval_top (l : List UInt8) (b : UInt8) : fval (l ++ [b]) = fval l + b.toNat * 256 ^ l.length := by
  induction l with
  | nil => simp [fval]
  | cons c l ih =>
    simp only [List.cons_append, fval, ih, List.length_cons, Nat.pow_succ]
    rw [Nat.mul_add, Nat.add_assoc, ← Nat.mul_assoc, Nat.mul_comm 256 b.toNat, Nat.mul_assoc, Nat.mul_comm 256 (256 ^ l.length)]
theorem fvW_top (s : List UInt8) (p k : Nat) (hk : k ≤ 8) (h : p + k ≤ s.length) : (k = 8 ∧ 128 ≤ (s.getD (p + 7) 0).toNat) ↔ 9223372036854775808 ≤ fvW s p k 0 := by
  unfold fvW
  rw [List.drop_zero]
  by_cases h8 : k = 8
  · subst h8
    have hb : p + 7 < s.length := by omega
    have hgd : s.getD (p + 7) 0 = s[p + 7]'hb := by simp [List.getD, List.getElem?_eq_getElem hb]
    rw [hgd]
    have h1 := fval_lt ((s.drop p).take 7)
    rw [List.length_take, Nat.min_eq_left (by simp; omega)] at h1
    have h4 : (256 : Nat) ^ 7 = 72057594037927936 := by decide
    have h5 : fval ((s.drop p).take 8) = fval ((s.drop p).take 7) + (s[p + 7]'hb).toNat * 72057594037927936 := by
      rw [show (s.drop p).take 8 = (s.drop p).take 7 ++ [(s.drop p)[7]'(by simp; omega)] from List.take_succ_eq_append_getElem (show 7 < (s.drop p).length by simp; omega), fval_top, List.length_take, Nat.min_eq_left (by simp; omega), h4]
      simp only [List.getElem_drop]
    rw [h5]
    rw [h4] at h1
    generalize (s[p + 7]'hb).toNat = d at *
    constructor
    · rintro ⟨_, h⟩; omega
    · intro h; exact ⟨rfl, by omega⟩
  · constructor
    · rintro ⟨h1, _⟩; exact absurd h1 h8
    · intro h2
      have h1 := fval_lt ((s.drop p).take k)
      rw [List.length_take, Nat.min_eq_left (by simp; omega)] at h1
      have h3 : 256 ^ k ≤ 256 ^ 7 := Nat.pow_le_pow_right (by omega) (by omega)
      have h4 : (256 : Nat) ^ 7 = 72057594037927936 := by decide
      omega
end VarW
end Go.Proofs.Ytnghmcadhjneeaa
