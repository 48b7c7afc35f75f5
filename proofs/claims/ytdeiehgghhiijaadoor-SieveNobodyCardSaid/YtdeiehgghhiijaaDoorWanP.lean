/- Package want, plainly: numbers and digits. -/
import Derived.Test.YtdeiehgghhiijaaDoorMem
namespace Go.Proofs.YtdeiehgghhiijaaDoor
set_option linter.unusedVariables false
set_option linter.unusedSimpArgs false
set_option linter.unnecessarySimpa false
open Go.RowKit
namespace WanW

theorem w64k {x : Int} (h1 : -4611686018427387904 ≤ x) (h2 : x ≤ 4611686018427387904) : IntKind.i64.wrap x = x := by rw [IntKind.wrap_i64]; omega
/-- A digit in the base 10. -/
def decB (b : UInt8) : Bool := decide (48 ≤ b.toNat) && decide (b.toNat ≤ 57)
/-- What digits are worth. -/
def numN (s : List UInt8) : Nat := s.foldl (fun n b => 10 * n + (b.toNat - 48)) 0
theorem numN_snoc (s : List UInt8) (b : UInt8) : numN (s ++ [b]) = 10 * numN s + (b.toNat - 48) := by simp [numN]
theorem numN_lt (s : List UInt8) (h : s.all decB = true) : numN s < 10 ^ s.length := by
  suffices ∀ n (s : List UInt8), s.length = n → s.all decB = true → numN s < 10 ^ s.length from this _ s rfl h
  intro n
  induction n with
  | zero => intro s h _; obtain rfl := List.length_eq_zero_iff.1 h; simp [numN]
  | succ n ih =>
    intro s h h2
    obtain ⟨a, x, rfl⟩ : ∃ a x, s = a ++ [x] := ⟨s.dropLast, s.getLast (by intro e; subst e; simp at h), (List.dropLast_concat_getLast _).symm⟩
    rw [List.all_append, Bool.and_eq_true] at h2
    have := ih a (by simpa using h) h2.1
    have hx := h2.2
    simp [decB] at hx
    rw [numN_snoc, List.length_append, List.length_singleton, Nat.pow_succ]
    omega
/-- A number, if it is one. -/
def numV (s : List UInt8) : Int × Bool :=
  if s.length = 0 ∨ 10 < s.length ∨ (1 < s.length ∧ s[0]?.getD 0 = 48) ∨ s.all decB = false ∨ 1000000001 < numN s then (0, false) else ((numN s : Int), true)
/-- The digit of a number from 0 to 15. -/
def digN (n : Nat) : Nat := if n < 10 then 48 + n else 87 + n
/-- What a letter is worth as a digit in the base 16; below 0: it is none. -/
def digV (r : Int) : Int := if 48 ≤ r ∧ r ≤ 57 then r - 48 else if 97 ≤ r ∧ r ≤ 102 then r - 87 else -1
end WanW
end Go.Proofs.YtdeiehgghhiijaaDoor
