/- Plain: what a taker takes; a row of pieces. -/
import Derived.Test.YtjdmbpkabeaccaaVarQ
namespace Go.Proofs.Ytjdmbpkabeaccaa
set_option linter.unusedVariables false
set_option linter.unusedSimpArgs false
set_option linter.unnecessarySimpa false

/-- One piece from a place on: a number or a text, the place behind it, the fault. -/
def oneV (s : List UInt8) (p k n : Int) : (Int × List UInt8) × Int × Int :=
  if k = 1 then (if h : p.toNat < s.length then ((((s[p.toNat]'h).toNat : Int), []), p + 1, 0) else ((0, []), p, 4))
  else if k = 2 then (if (getV s p).2.2 = 0 then (((getV s p).1, []), (getV s p).2.1, 0) else ((0, []), p, (getV s p).2.2))
  else if k = 3 then (if (unfixV s p n).2.2 = 0 then (((unfixV s p n).1, []), (unfixV s p n).2.1, 0) else ((0, []), p, (unfixV s p n).2.2))
  else if k = 4 then (if n < 0 then ((0, []), p, 2) else if (s.length : Int) - p < n then ((0, []), p, 4) else ((0, (s.drop p.toNat).take n.toNat), p + n, 0))
  else if k = 5 then ((0, s.drop p.toNat), (s.length : Int), 0)
  else if k = 6 then (if p < (s.length : Int) then ((0, []), p, 6) else ((0, []), p, 0))
  else ((0, []), p, 2)

theorem unfixV_ok {s : List UInt8} {a w : Int} (h : (unfixV s a w).2.2 = 0) : 0 ≤ a ∧ a < (unfixV s a w).2.1 ∧ (unfixV s a w).2.1 ≤ s.length := by
  revert h
  unfold unfixV
  try dsimp only
  repeat' split
  all_goals simp
  all_goals omega
theorem oneV_ok {s : List UInt8} {p k n : Int} (h0 : 0 ≤ p) (hp : p ≤ s.length) (h : (oneV s p k n).2.2 = 0) : p ≤ (oneV s p k n).2.1 ∧ (oneV s p k n).2.1 ≤ s.length := by
  revert h
  unfold oneV
  have hg := @getV_ok s p
  have hu := @unfixV_ok s p n
  repeat' split
  all_goals intro h
  all_goals first | (have := hg (by assumption); dsimp only; omega) | (have := hu (by assumption); dsimp only; omega) | (dsimp only; omega) | (dsimp only at h; omega)

/-- A row of pieces, up to the first fault. -/
def runV (s : List UInt8) : List (Int × Int) → Int → List (Int × List UInt8) × Int × Int
  | [], p => ([], p, 0)
  | x :: r, p => if (oneV s p x.1 x.2).2.2 = 0 then ((oneV s p x.1 x.2).1 :: (runV s r (oneV s p x.1 x.2).2.1).1, (runV s r (oneV s p x.1 x.2).2.1).2) else ([], p, (oneV s p x.1 x.2).2.2)
theorem runV_yes {s : List UInt8} {l : List (Int × Int)} {k : Nat} {p : Int} (h : k < l.length) (h0 : (oneV s p l[k].1 l[k].2).2.2 = 0) :
    runV s (l.drop k) p = ((oneV s p l[k].1 l[k].2).1 :: (runV s (l.drop (k + 1)) (oneV s p l[k].1 l[k].2).2.1).1, (runV s (l.drop (k + 1)) (oneV s p l[k].1 l[k].2).2.1).2) := by
  rw [List.drop_eq_getElem_cons h, runV, if_pos h0]
theorem runV_no {s : List UInt8} {l : List (Int × Int)} {k : Nat} {p : Int} (h : k < l.length) (h0 : (oneV s p l[k].1 l[k].2).2.2 ≠ 0) :
    runV s (l.drop k) p = ([], p, (oneV s p l[k].1 l[k].2).2.2) := by
  rw [List.drop_eq_getElem_cons h, runV, if_neg h0]
theorem runV_place {s : List UInt8} (l : List (Int × Int)) : ∀ (p : Int), 0 ≤ p → p ≤ s.length → p ≤ (runV s l p).2.1 ∧ (runV s l p).2.1 ≤ s.length := by
  induction l with
  | nil => intro p h0 hp; exact ⟨Int.le_refl _, hp⟩
  | cons x r ih =>
    intro p h0 hp
    unfold runV
    split
    · rename_i h
      have := oneV_ok h0 hp h
      have := ih (oneV s p x.1 x.2).2.1 (by omega) (by omega)
      dsimp only
      omega
    · exact ⟨Int.le_refl _, hp⟩
theorem runV_len {s : List UInt8} (l : List (Int × Int)) : ∀ (p : Int), (runV s l p).1.length ≤ l.length := by
  induction l with
  | nil => intro p; exact Nat.le_refl _
  | cons x r ih =>
    intro p
    unfold runV
    split
    · simpa using ih _
    · simp
end Go.Proofs.Ytjdmbpkabeaccaa
