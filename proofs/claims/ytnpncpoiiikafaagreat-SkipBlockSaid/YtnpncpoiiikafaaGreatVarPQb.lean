/- Plain facts on numbers taken from bytes. No program is named here. -/
import Derived.Test.YtnpncpoiiikafaaGreatZruPQb
namespace Go.Proofs.YtnpncpoiiikafaaGreat
set_option linter.unusedVariables false
set_option linter.unusedSimpArgs false
set_option linter.unnecessarySimpa false
open Go.RowKit

/-- A number at the head of bytes: its value, how many bytes, the error. -/
def vdec : Nat → Bool → List UInt8 → Nat × Nat × Int
  | 0, _, _ => (0, 0, 5)
  | _ + 1, _, [] => (0, 0, 4)
  | f + 1, fst, b :: r =>
    if 128 ≤ b.toNat then (if (vdec f false r).2.2 = 0 then (b.toNat - 128 + 128 * (vdec f false r).1, (vdec f false r).2.1 + 1, 0) else (0, 0, (vdec f false r).2.2))
    else if b.toNat = 0 ∧ fst = false then (0, 0, 5) else (b.toNat, 1, 0)
/-- What is told, j bytes and the number v of them being there. -/
def resV (p j v : Nat) (x : Nat × Nat × Int) : Int × Int × Int := if x.2.2 = 0 then (((v + 128 ^ j * x.1 : Nat) : Int), ((p + j + x.2.1 : Nat) : Int), 0) else (0, 0, x.2.2)
def getV (s : List UInt8) (at_ : Int) : Int × Int × Int := if at_ < 0 ∨ (s.length : Int) < at_ then (0, 0, 2) else resV at_.toNat 0 0 (vdec 9 true (s.drop at_.toNat))
theorem getV_in {s : List UInt8} {p : Nat} (h : p ≤ s.length) : getV s p = resV p 0 0 (vdec 9 true (s.drop p)) := by
  unfold getV
  rw [if_neg (by omega), Int.toNat_natCast]
theorem getV_out {s : List UInt8} {a : Int} (h : a < 0 ∨ (s.length : Int) < a) : getV s a = (0, 0, 2) := by
  unfold getV
  rw [if_pos h]
theorem vdec_more (f : Nat) (fst : Bool) (s : List UInt8) (k : Nat) (h : k < s.length) (hb : 128 ≤ s[k].toNat) (p j v : Nat) :
    resV p j v (vdec (f + 1) fst (s.drop k)) = resV p (j + 1) (v + (s[k].toNat % 128) * 128 ^ j) (vdec f false (s.drop (k + 1))) := by
  rw [List.drop_eq_getElem_cons h, vdec, if_pos hb]
  have hlt : s[k].toNat < 256 := s[k].toNat_lt
  have hm : s[k].toNat % 128 = s[k].toNat - 128 := by omega
  unfold resV
  by_cases he : (vdec f false (s.drop (k + 1))).2.2 = 0
  · rw [if_pos he, if_pos rfl, if_pos he, hm]
    dsimp only
    generalize (vdec f false (s.drop (k + 1))).1 = q
    generalize (vdec f false (s.drop (k + 1))).2.1 = y
    have e1 : v + 128 ^ j * (s[k].toNat - 128 + 128 * q) = v + (s[k].toNat - 128) * 128 ^ j + 128 ^ (j + 1) * q := by
      rw [Nat.pow_succ, Nat.mul_add, Nat.mul_comm (128 ^ j) (s[k].toNat - 128), ← Nat.mul_assoc, Nat.add_assoc]
    have e2 : p + j + (y + 1) = p + (j + 1) + y := by omega
    rw [e1, e2]
  · rw [if_neg he]
    dsimp only
    rw [if_neg he, if_neg he]
theorem vdec_last (f : Nat) (fst : Bool) (s : List UInt8) (k : Nat) (h : k < s.length) (hb : s[k].toNat < 128) (h0 : s[k].toNat = 0 → fst = true) (p j v : Nat) :
    resV p j v (vdec (f + 1) fst (s.drop k)) = (((v + s[k].toNat * 128 ^ j : Nat) : Int), ((p + j + 1 : Nat) : Int), 0) := by
  rw [List.drop_eq_getElem_cons h, vdec, if_neg (by omega), if_neg (by rintro ⟨h1, h2⟩; rw [h0 h1] at h2; cases h2)]
  unfold resV
  rw [if_pos rfl, Nat.mul_comm]
theorem vdec_zero (f : Nat) (s : List UInt8) (k : Nat) (h : k < s.length) (hb : s[k].toNat = 0) (p j v : Nat) : resV p j v (vdec (f + 1) false (s.drop k)) = (0, 0, 5) := by
  rw [List.drop_eq_getElem_cons h, vdec, if_neg (by omega), if_pos ⟨hb, rfl⟩]
  rfl
theorem vdec_short (f : Nat) (fst : Bool) (s : List UInt8) (k : Nat) (h : s.length ≤ k) (p j v : Nat) : resV p j v (vdec (f + 1) fst (s.drop k)) = (0, 0, 4) := by
  rw [List.drop_of_length_le h]
  rfl
theorem vdec_full (fst : Bool) (l : List UInt8) (p j v : Nat) : resV p j v (vdec 0 fst l) = (0, 0, 5) := by
  cases l <;> rfl
theorem pow7 (j : Nat) : 2 ^ (7 * j) = 128 ^ j := by rw [Nat.pow_mul]
/-- The or of what was there and the next seven bits. -/
theorem or7 (v j b : Nat) (hv : v < 128 ^ j) (hb : b < 256) (hj : j < 9) :
    bits .or .i64 (v : Int) (wrap64 (wrap64 (bits .and .u8 (b : Int) 127) * 2 ^ (7 * j))) = ((v + (b % 128) * 128 ^ j : Nat) : Int) ∧ v + (b % 128) * 128 ^ j < 128 ^ (j + 1) ∧ 128 ^ (j + 1) ≤ 9223372036854775808 := by
  have h1 : 128 ^ (j + 1) ≤ 128 ^ 9 := Nat.pow_le_pow_right (by omega) hj
  have h2 : (128 : Nat) ^ 9 = 9223372036854775808 := by decide
  have h3 : v + (b % 128) * 128 ^ j < 128 ^ (j + 1) := by
    have : (b % 128) * 128 ^ j ≤ 127 * 128 ^ j := Nat.mul_le_mul_right _ (by omega)
    rw [Nat.pow_succ]
    omega
  refine ⟨?_, h3, by omega⟩
  rw [bits_u8_127 b hb]
  have h4 : wrap64 ((b % 128 : Nat) : Int) = ((b % 128 : Nat) : Int) := by unfold wrap64; omega
  rw [h4]
  have h5 : ((b % 128 : Nat) : Int) * 2 ^ (7 * j) = (((b % 128) * 2 ^ (7 * j) : Nat) : Int) := by push_cast; rfl
  rw [h5]
  have h6 : wrap64 (((b % 128) * 2 ^ (7 * j) : Nat) : Int) = (((b % 128) * 2 ^ (7 * j) : Nat) : Int) := by
    rw [pow7]
    unfold wrap64
    omega
  rw [h6, bits_i64_or (7 * j) v (b % 128) (by rw [pow7]; exact hv) (by rw [pow7]; omega), pow7]

/-- Seven bits each, the least first. -/
def hor : List UInt8 → Nat
  | [] => 0
  | b :: r => b.toNat % 128 + 128 * hor r
theorem vdec_ok (f : Nat) (fst : Bool) (l : List UInt8) (h : (vdec f fst l).2.2 = 0) : 1 ≤ (vdec f fst l).2.1 ∧ (vdec f fst l).2.1 ≤ l.length ∧ (vdec f fst l).2.1 ≤ f ∧ (vdec f fst l).1 < 128 ^ f := by
  induction f generalizing fst l with
  | zero => simp [vdec] at h
  | succ f ih =>
    cases l with
    | nil => simp [vdec] at h
    | cons b r =>
      have hb := b.toNat_lt
      by_cases h1 : 128 ≤ b.toNat
      · by_cases h2 : (vdec f false r).2.2 = 0
        · have e : vdec (f + 1) fst (b :: r) = (b.toNat - 128 + 128 * (vdec f false r).1, (vdec f false r).2.1 + 1, 0) := by rw [vdec, if_pos h1, if_pos h2]
          obtain ⟨i1, i2, i3, i4⟩ := ih false r h2
          rw [e]
          refine ⟨by simp, by simpa using i2, by simpa using i3, ?_⟩
          show b.toNat - 128 + 128 * (vdec f false r).1 < 128 ^ (f + 1)
          rw [Nat.pow_succ]
          omega
        · have e : vdec (f + 1) fst (b :: r) = (0, 0, (vdec f false r).2.2) := by rw [vdec, if_pos h1, if_neg h2]
          rw [e] at h
          exact absurd h h2
      · by_cases h3 : b.toNat = 0 ∧ fst = false
        · have e : vdec (f + 1) fst (b :: r) = (0, 0, 5) := by rw [vdec, if_neg h1, if_pos h3]
          rw [e] at h; cases h
        · have e : vdec (f + 1) fst (b :: r) = (b.toNat, 1, 0) := by rw [vdec, if_neg h1, if_neg h3]
          rw [e]
          refine ⟨by simp, by simp, by simp, ?_⟩
          show b.toNat < 128 ^ (f + 1)
          have : 0 < 128 ^ f := Nat.pow_pos (by omega)
          rw [Nat.pow_succ]
          omega
theorem getV_ok {s : List UInt8} {a : Int} (h : (getV s a).2.2 = 0) : 0 ≤ a ∧ a < (getV s a).2.1 ∧ (getV s a).2.1 ≤ s.length ∧ 0 ≤ (getV s a).1 ∧ (getV s a).1 ≤ 9223372036854775807 := by
  by_cases h1 : a < 0 ∨ (s.length : Int) < a
  · rw [getV_out h1] at h; cases h
  · obtain ⟨p, rfl⟩ := Int.eq_ofNat_of_zero_le (show 0 ≤ a by omega)
    rw [getV_in (by omega)] at h ⊢
    unfold resV at *
    by_cases h2 : (vdec 9 true (s.drop p)).2.2 = 0
    · rw [if_pos h2]
      obtain ⟨i1, i2, i3, i4⟩ := vdec_ok 9 true (s.drop p) h2
      have h4 : (128 : Nat) ^ 9 = 9223372036854775808 := by decide
      rw [List.length_drop] at i2
      simp only [Nat.pow_zero]
      omega
    · rw [if_neg h2] at h; exact absurd h h2

/-- A list's bytes. -/
def lput (l : List Int) : List UInt8 := l.flatMap fun n => vbytes n.toNat
def okL (l : List Int) : Bool := l.all fun n => decide (0 ≤ n)
theorem lput_snoc (l : List Int) (k : Nat) (h : k < l.length) : lput (l.take (k + 1)) = lput (l.take k) ++ vbytes l[k].toNat := by
  unfold lput
  rw [List.take_succ_eq_append_getElem h, List.flatMap_append]
  simp
end Go.Proofs.YtnpncpoiiikafaaGreat
