/- Walks over package span and its reference: each function computes the plain function named here, and writes nothing that was there. -/
import Derived.Test.YtdeiehgghhiijaaDoorMem
namespace Go.Proofs.YtdeiehgghhiijaaDoor
set_option linter.unusedVariables false
open Go.RowKit

abbrev rng (lo hi : Int) : Value := .agg #[.int .i64 lo, .int .i64 hi]

namespace SpanW

def hasB (lo hi n : Int) : Bool := decide (lo ≤ n) && decide (n ≤ hi)
def emptyB (lo hi : Int) : Bool := decide (hi < lo)

theorem has_true {lo hi n : Int} (h1 : lo ≤ n) (h2 : n ≤ hi) : hasB lo hi n = true := by simp [hasB, h1, h2]
theorem has_false1 {lo hi n : Int} (h1 : n < lo) : hasB lo hi n = false := by simp [hasB]; omega
theorem has_of {lo hi n : Int} (h1 : lo ≤ n) : hasB lo hi n = decide (n ≤ hi) := by simp [hasB, h1]

theorem has_any (lo hi n : Int) (w : World) :
    Calls Tryd.prog 107 #[rng lo hi, .int .i64 n] w fun e w' => e = .returned (.bool (hasB lo hi n)) ∧ Below w.heap.size w w' := by
  go_enter Tryd.func107, Tryd.ntmps107
  go_wp2
  all_goals
    go_ret
    exact ⟨ret_bool (by simp [hasB, *]; try omega), (by first | exact Below.refl _ _ | (repeat (first | exact Below.refl _ _ | assumption | refine Below.drew ?_ | refine Below.drewN_ ?_ _ | refine Below.alloc ?_ (by first | exact Nat.le_refl _ | (simp; done) | (simp; omega) | omega) _ | refine Below.setCell ?_ (by first | exact Nat.le_refl _ | (simp; done) | (simp; omega) | omega) _ | (refine Below.trans ?_ (Below.mono (by assumption) (by first | exact Nat.le_refl _ | (simp; done) | (simp; omega) | omega))))))⟩

theorem has_eq (lo hi n : Int) (v : Bool) (h : hasB lo hi n = v) (w : World) :
    Calls Tryd.prog 107 #[rng lo hi, .int .i64 n] w fun e w' => e = .returned (.bool v) ∧ Below w.heap.size w w' := h ▸ has_any lo hi n w

theorem empty_any (lo hi : Int) (w : World) :
    Calls Tryd.prog 49 #[rng lo hi] w fun e w' => e = .returned (.bool (emptyB lo hi)) ∧ Below w.heap.size w w' := by
  go_enter Tryd.func49, Tryd.ntmps49
  go_wp2
  go_ret
  exact ⟨rfl, (by first | exact Below.refl _ _ | (repeat (first | exact Below.refl _ _ | assumption | refine Below.drew ?_ | refine Below.drewN_ ?_ _ | refine Below.alloc ?_ (by first | exact Nat.le_refl _ | (simp; done) | (simp; omega) | omega) _ | refine Below.setCell ?_ (by first | exact Nat.le_refl _ | (simp; done) | (simp; omega) | omega) _ | (refine Below.trans ?_ (Below.mono (by assumption) (by first | exact Nat.le_refl _ | (simp; done) | (simp; omega) | omega))))))⟩

theorem empty_eq (lo hi : Int) (v : Bool) (h : emptyB lo hi = v) (w : World) :
    Calls Tryd.prog 49 #[rng lo hi] w fun e w' => e = .returned (.bool v) ∧ Below w.heap.size w w' := h ▸ empty_any lo hi w

/-- A pair of ends. -/
abbrev R := Int × Int
abbrev rv (p : R) : Value := rng p.1 p.2
def cells (l : List R) : List Value := l.flatMap fun p => [.int .i64 p.1, .int .i64 p.2]
theorem cells_len (l : List R) : (cells l).length = 2 * l.length := by
  induction l with
  | nil => rfl
  | cons x l ih => simp only [cells, List.flatMap_cons, List.length_append, List.length_cons, List.length_nil] at *; omega
theorem cells_cons (p : R) (l : List R) : cells (p :: l) = .int .i64 p.1 :: .int .i64 p.2 :: cells l := rfl
theorem cells_get (l : List R) (k : Nat) (h : k < l.length) : (cells l)[2 * k]? = some (.int .i64 l[k].1) ∧ (cells l)[2 * k + 1]? = some (.int .i64 l[k].2) := by
  induction l generalizing k with
  | nil => simp at h
  | cons p l ih =>
    rw [cells_cons]
    cases k with
    | zero => simp
    | succ k =>
      have := ih k (by simpa using h)
      simpa [Nat.mul_add] using this

def narrow (p q : R) : R := (max p.1 q.1, min p.2 q.2)
def widen (p q : R) : R := (min p.1 q.1, max p.2 q.2)

theorem narrow_any (p q : R) (w : World) :
    Calls Tryd.prog 61 #[rv p, rv q] w fun e w' => e = .returned (rv (narrow p q)) ∧ Below w.heap.size w w' := by
  go_enter Tryd.func61, Tryd.ntmps61
  go_wp2
  all_goals
    refine bodyPost_ret (v := rv (narrow p q)) ?_ rfl ⟨rfl, (by first | exact Below.refl _ _ | (repeat (first | exact Below.refl _ _ | assumption | refine Below.drew ?_ | refine Below.drewN_ ?_ _ | refine Below.alloc ?_ (by first | exact Nat.le_refl _ | (simp; done) | (simp; omega) | omega) _ | refine Below.setCell ?_ (by first | exact Nat.le_refl _ | (simp; done) | (simp; omega) | omega) _ | (refine Below.trans ?_ (Below.mono (by assumption) (by first | exact Nat.le_refl _ | (simp; done) | (simp; omega) | omega))))))⟩
    simp [results, Tryd.results61, go_sem, narrow]
    omega

theorem none_any (w : World) :
    Calls Tryd.prog 72 #[] w fun e w' => e = .returned (rng 1 0) ∧ Below w.heap.size w w' := by
  go_enter Tryd.func72, Tryd.ntmps72
  go_wp2
  refine bodyPost_ret (v := rng 1 0) ?_ rfl ⟨rfl, (by first | exact Below.refl _ _ | (repeat (first | exact Below.refl _ _ | assumption | refine Below.drew ?_ | refine Below.drewN_ ?_ _ | refine Below.alloc ?_ (by first | exact Nat.le_refl _ | (simp; done) | (simp; omega) | omega) _ | refine Below.setCell ?_ (by first | exact Nat.le_refl _ | (simp; done) | (simp; omega) | omega) _ | (refine Below.trans ?_ (Below.mono (by assumption) (by first | exact Nat.le_refl _ | (simp; done) | (simp; omega) | omega))))))⟩
  simp [results, Tryd.results72, go_sem]

/-- How many numbers a range has, at most the greatest. -/
def sizeR (p : R) : Int := if p.2 < p.1 then 0 else if 9223372036854775807 ≤ p.2 - p.1 then 9223372036854775807 else p.2 - p.1 + 1


end SpanW
end Go.Proofs.YtdeiehgghhiijaaDoor
