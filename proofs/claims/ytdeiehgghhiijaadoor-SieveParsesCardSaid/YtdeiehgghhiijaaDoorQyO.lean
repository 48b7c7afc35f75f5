/- Plain facts on arguments: a query, by value. -/
import Derived.Test.YtdeiehgghhiijaaDoorQyW
import Derived.Test.YtdeiehgghhiijaaDoorOpenR
namespace Go.Proofs.YtdeiehgghhiijaaDoor
set_option linter.unusedVariables false
set_option linter.unusedSimpArgs false
set_option linter.unnecessarySimpa false
open Go.RowKit Go.ChangeShapes Go.WideShapes Go.Deep
namespace SkpW

section
variable {H : Type} {enc : TypeId × Value → H} {P : Program} {w : World} {base : Nat} {spare : Nat → Bool} {held : Bool}
theorem fld {t : TypeId} {fs : Array Field} {fuel : Nat} {cs : List Value} {x : DataW H × List MemPlace} (ht : P.underlying t = some (.struct fs)) (h : DataW.trod enc P w base spare held fuel t cs = some x) :
    ∃ n, ∀ (i : Nat) (f : Field), fs[i]? = some f → ∃ y, DataW.trod enc P w base spare held n f.type ((cs.drop f.offset).take (P.cellsOf f.type)) = some y := by
  obtain ⟨xs, n, _, _, _, hlen, hf⟩ := DataW.trod_struct ht h
  refine ⟨n, fun i f hi => ?_⟩
  have hlt : i < xs.length := by
    have := (Array.getElem?_eq_some_iff.1 hi).1
    omega
  rw [hf i f hi, List.getElem?_eq_getElem hlt]
  exact ⟨_, rfl⟩
theorem one_at {cs : List Value} {j : Nat} {c : Value} (hj : cs[j]? = some c) : (cs.drop j).take 1 = [c] := by
  obtain ⟨h1, h2⟩ := List.getElem?_eq_some_iff.1 hj
  rw [List.drop_eq_getElem_cons h1, h2]
  rfl
theorem int_at {n e j : Nat} {cs : List Value} {c : Value} (he : P.underlying e = some (.int .i64)) (hc : P.cellsOf e = 1) (hj : cs[j]? = some c) (h : ∃ y, DataW.trod enc P w base spare held n e ((cs.drop j).take (P.cellsOf e)) = some y) :
    ∃ i, c = .int .i64 i ∧ I64 i := by
  obtain ⟨y, hy⟩ := h
  rw [hc, one_at hj] at hy
  obtain ⟨i, e0, _, w0⟩ := DataW.trod_int he hy
  exact ⟨i, List.singleton_inj.1 e0, i64_of w0⟩
theorem bool_at {n e j : Nat} {cs : List Value} {c : Value} (he : P.underlying e = some .bool) (hc : P.cellsOf e = 1) (hj : cs[j]? = some c) (h : ∃ y, DataW.trod enc P w base spare held n e ((cs.drop j).take (P.cellsOf e)) = some y) :
    ∃ i, c = .bool i := by
  obtain ⟨y, hy⟩ := h
  rw [hc, one_at hj] at hy
  obtain ⟨i, e0, _⟩ := DataW.trod_bool he hy
  exact ⟨i, List.singleton_inj.1 e0⟩
theorem str_at {n e j : Nat} {cs : List Value} {c : Value} (he : P.underlying e = some .string) (hc : P.cellsOf e = 1) (hj : cs[j]? = some c) (h : ∃ y, DataW.trod enc P w base spare held n e ((cs.drop j).take (P.cellsOf e)) = some y) :
    ∃ l : List UInt8, c = str l ∧ l.length ≤ maxLen := by
  obtain ⟨y, hy⟩ := h
  rw [hc, one_at hj] at hy
  obtain ⟨s, e0, _, w0⟩ := DataW.trod_string he hy
  obtain ⟨l, rfl, hl⟩ := str_of s
  exact ⟨l, List.singleton_inj.1 e0, by omega⟩
end
end SkpW
end Go.Proofs.YtdeiehgghhiijaaDoor
