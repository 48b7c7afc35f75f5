/- Walks over package span and its reference: what covers ranges. -/
import Derived.Test.YtdeiehgghhiijaaDoorSpanB
namespace Go.Proofs.YtdeiehgghhiijaaDoor
set_option linter.unusedVariables false
open Go.RowKit
namespace SpanW

def full (l : List R) : List R := l.filter fun p => !emptyB p.1 p.2
theorem full_snoc (l : List R) (k : Nat) (hk : k < l.length) : full (l.take (k + 1)) = if emptyB l[k].1 l[k].2 = true then full (l.take k) else full (l.take k) ++ [l[k]] := by
  rw [List.take_succ_eq_append_getElem hk]
  unfold full
  rw [List.filter_append]
  by_cases h : emptyB l[k].1 l[k].2 = true <;> simp [h]
theorem full_len (l : List R) (k : Nat) : (full (l.take k)).length ≤ k := by
  unfold full
  have h1 := List.length_filter_le (fun p : R => !emptyB p.1 p.2) (l.take k)
  have h2 : (l.take k).length ≤ k := List.length_take_le _ _
  omega
theorem cells_snoc (l : List R) (p : R) : cells l ++ [.int .i64 p.1, .int .i64 p.2] = cells (l ++ [p]) := by simp [cells]
theorem cells_one (l : List R) : ∀ u ∈ cells l, u.oneCell' = true := by
  intro u hu
  simp only [cells, List.mem_flatMap] at hu
  obtain ⟨p, _, hp⟩ := hu
  simp only [List.mem_cons, List.not_mem_nil, or_false] at hp
  rcases hp with rfl | rfl <;> rfl

/-- The reference's fold: what covers those that came so far, an empty one none of them. -/
def rstep (q p : R) : R := if emptyB p.1 p.2 = true then q else if emptyB q.1 q.2 = true then p else widen q p
def rcover (l : List R) : R := l.foldl rstep (1, 0)
theorem rcover_snoc (l : List R) (k : Nat) (hk : k < l.length) : rcover (l.take (k + 1)) = rstep (rcover (l.take k)) l[k] := by
  rw [rcover, List.take_succ_eq_append_getElem hk, List.foldl_append]; rfl

end SpanW
end Go.Proofs.YtdeiehgghhiijaaDoor
