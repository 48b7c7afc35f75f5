/- Plain: numbers and bytes are read as they were written. -/
import Derived.Test.YtdeiehgghhiijaaDoorWanJ
namespace Go.Proofs.YtdeiehgghhiijaaDoor
set_option linter.unusedVariables false
set_option linter.unusedSimpArgs false
set_option linter.unnecessarySimpa false
open Go.RowKit
namespace SieW
open WanW
def rngL (a b : Int) : List UInt8 := decL a.toNat ++ (45 :: decL b.toNat)

theorem no_contains (c : UInt8) (s : List UInt8) (h : ∀ j (h : j < s.length), s[j] ≠ c) : s.contains c = false := by
  rw [Bool.eq_false_iff]
  intro hh
  obtain ⟨j, hj, e⟩ := List.getElem_of_mem (List.contains_iff_mem.1 hh)
  exact h j hj e
theorem dig_dec (n : Nat) (h : n < 10) : decB (UInt8.ofNat (48 + n)) = true := by
  unfold decB
  rw [dig_nat n h]
  simp
  omega
theorem decL_all (n : Nat) : (decL n).all decB = true := by
  induction n using Nat.strongRecOn with
  | ind n ih =>
    rw [decL]
    split
    · rw [List.all_cons, dig_dec n (by assumption)]; rfl
    · rw [List.all_append, ih (n / 10) (by omega)]
      rw [List.all_cons, dig_dec (n % 10) (by omega)]; rfl
theorem decL_num (n : Nat) : numN (decL n) = n := by
  induction n using Nat.strongRecOn with
  | ind n ih =>
    rw [decL]
    split
    · have := dig_nat n (by assumption)
      show 10 * 0 + ((UInt8.ofNat (48 + n)).toNat - 48) = n
      omega
    · rw [numN_snoc, ih (n / 10) (by omega), dig_nat _ (by omega)]
      omega
theorem decL_pos (n : Nat) : 0 < (decL n).length := by
  rw [decL]
  split <;> simp
theorem decL_head (n : Nat) (h : 0 < n) : (decL n)[0]?.getD 0 ≠ 48 := by
  induction n using Nat.strongRecOn with
  | ind n ih =>
    rw [decL]
    split
    · intro e
      have h2 := congrArg UInt8.toNat e
      have h3 := dig_nat n (by assumption)
      simp at h2
      rw [UInt8.toNat_ofNat'] at h3
      omega
    · have hp := decL_pos (n / 10)
      rw [List.getElem?_append_left hp]
      exact ih (n / 10) (by omega) (by omega)
theorem decL_small (n : Nat) (h : n < 10) : (decL n).length = 1 := by rw [decL, dif_pos h]; rfl
theorem num_dec (n : Nat) (h : n ≤ 1000000001) : numV (decL n) = ((n : Int), true) := by
  have hl := decL_len n 9 (by omega)
  have hp := decL_pos n
  have ha := decL_all n
  have hn := decL_num n
  rw [numV_yes, hn]
  rintro (e | e | ⟨e1, e2⟩ | e | e)
  · omega
  · omega
  · by_cases h10 : n < 10
    · rw [decL_small n h10] at e1; omega
    · exact decL_head n (by omega) e2
  · rw [ha] at e; cases e
  · omega
theorem dec_no (n : Nat) (c : UInt8) (hc : decB c = false) : (decL n).contains c = false := by
  refine no_contains c _ (fun j hj e => ?_)
  have := List.all_eq_true.1 (decL_all n) _ (List.getElem_mem hj)
  rw [e, hc] at this
  cases this
theorem bef_mid (c : UInt8) (a b : List UInt8) (h : a.contains c = false) : bef c (a ++ c :: b) = a ∧ aft c (a ++ c :: b) = b ∧ (a ++ c :: b).contains c = true := by
  induction a with
  | nil => simp [bef, aft]
  | cons x a ih =>
    have hx : ¬ x = c := by
      intro e
      subst e
      simp at h
    have ha : a.contains c = false := by
      rw [List.contains_cons, Bool.or_eq_false_iff] at h
      exact h.2
    have h2 : (x != c) = true := by simp; exact hx
    obtain ⟨i1, i2, i3⟩ := ih ha
    refine ⟨?_, ?_, ?_⟩
    · rw [List.cons_append, bef, List.takeWhile_cons, h2]; simp only [if_true]; congr 1
    · rw [List.cons_append, aft, List.dropWhile_cons, h2]; simp only [if_true]; exact i2
    · simp
theorem rng_back (a b : Int) (a0 : 0 ≤ a) (a1 : a ≤ 1000000001) (b0 : 0 ≤ b) (b1 : b ≤ 1000000001) : ok2 (rngL a b) = true ∧ lo2 (rngL a b) = a ∧ hi2 (rngL a b) = b := by
  obtain ⟨h1, h2, h3⟩ := bef_mid 45 (decL a.toNat) (decL b.toNat) (dec_no _ 45 (by decide))
  have ha := num_dec a.toNat (by omega)
  have hb := num_dec b.toNat (by omega)
  unfold ok2 lo2 hi2 rngL
  rw [h1, h2, h3, ha, hb]
  exact ⟨rfl, by show ((a.toNat : Nat) : Int) = a; omega, by show ((b.toNat : Nat) : Int) = b; omega⟩
/-! bytes -/
theorem digB_hex (c : Nat) (h : c < 16) : hexB (digB c) = true ∧ dg (digB c) = c := (digit_iff (digB c) c h).1 (digB_toNat c h).symm
theorem hexL_all (s : List UInt8) : (hexL s).all hexB = true := by
  induction s with
  | nil => rfl
  | cons b s ih =>
    have e : hexL (b :: s) = digB (b.toNat / 16) :: digB (b.toNat % 16) :: hexL s := rfl
    have := b.toNat_lt
    rw [e, List.all_cons, List.all_cons, ih, (digB_hex (b.toNat / 16) (by omega)).1, (digB_hex (b.toNat % 16) (by omega)).1]
    rfl
theorem unpair_hex (s : List UInt8) : unpair (hexL s) = s := by
  induction s with
  | nil => rfl
  | cons b s ih =>
    have hb := b.toNat_lt
    show UInt8.ofNat (16 * dg (digB (b.toNat / 16)) + dg (digB (b.toNat % 16))) :: unpair (hexL s) = b :: s
    rw [ih, (digB_hex (b.toNat / 16) (by omega)).2, (digB_hex (b.toNat % 16) (by omega)).2]
    congr 1
    apply UInt8.toNat_inj.1
    rw [UInt8.toNat_ofNat']
    omega
theorem hex_back (s : List UInt8) : unhexV (hexL s) = (s, true) := by
  rw [unhexV_yes, unpair_hex]
  rw [hexL_len, hexL_all]
  rintro (e | e)
  · omega
  · cases e
theorem hex_no (s : List UInt8) (c : UInt8) (hc : hexB c = false) : (hexL s).contains c = false := by
  refine no_contains c _ (fun j hj e => ?_)
  have := List.all_eq_true.1 (hexL_all s) _ (List.getElem_mem hj)
  rw [e, hc] at this
  cases this
end SieW
end Go.Proofs.YtdeiehgghhiijaaDoor
