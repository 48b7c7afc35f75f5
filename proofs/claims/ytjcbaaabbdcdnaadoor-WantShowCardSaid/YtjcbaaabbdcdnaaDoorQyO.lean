/- Plain facts on arguments: a query, by value. -/
import Derived.Test.YtjcbaaabbdcdnaaDoorQyW
import Derived.Test.YtjcbaaabbdcdnaaDoorOpenR
namespace Go.Proofs.YtjcbaaabbdcdnaaDoor
set_option linter.unusedVariables false
set_option linter.unusedSimpArgs false
set_option linter.unnecessarySimpa false
open Go.RowKit Go.ChangeShapes Go.WideShapes Go.Deep
namespace SkpW

section
variable {H : Type} {enc : TypeId × Value → H} {P : Program} {w : World} {base : Nat} {spare : Nat → Bool} {held : Bool}
theorem fld {t : TypeId} {fs : Array Field} {fuel : Nat} {cs : List Value} {x : DataW H × List MemPlace} (ht : P.underlying t = some (.struct fs)) (h : DataW.trod enc P w base spare held fuel t cs = some x) :
    ∃ n, ∀ (i : Nat) (f : Field), fs[i]? = some f → ∃ y, DataW.trod enc P w base spare held n f.type ((cs.drop f.offset).take (P.cellsOf f.type)) = some y := by
  obtain ⟨xs, n, _, _, _, hlen, hf⟩ := DataW.trod_struct ht h
  refine ⟨n, fun i f hi => ?_⟩
  have hlt : i < xs.length := by
    have := (Array.getElem?_eq_some_iff.1 hi).1
    omega
  rw [hf i f hi, List.getElem?_eq_getElem hlt]
  exact ⟨_, rfl⟩
theorem one_at {cs : List Value} {j : Nat} {c : Value} (hj : cs[j]? = some c) : (cs.drop j).take 1 = [c] := by
  obtain ⟨h1, h2⟩ := List.getElem?_eq_some_iff.1 hj
  rw [List.drop_eq_getElem_cons h1, h2]
  rfl
theorem int_at {n e j : Nat} {cs : List Value} {c : Value} (he : P.underlying e = some (.int .i64)) (hc : P.cellsOf e = 1) (hj : cs[j]? = some c) (h : ∃ y, DataW.trod enc P w base spare held n e ((cs.drop j).take (P.cellsOf e)) = some y) :
    ∃ i, c = .int .i64 i ∧ I64 i := by
  obtain ⟨y, hy⟩ := h
  rw [hc, one_at hj] at hy
  obtain ⟨i, e0, _, w0⟩ := DataW.trod_int he hy
  exact ⟨i, List.singleton_inj.1 e0, i64_of w0⟩
theorem bool_at {n e j : Nat} {cs : List Value} {c : Value} (he : P.underlying e = some .bool) (hc : P.cellsOf e = 1) (hj : cs[j]? = some c) (h : ∃ y, DataW.trod enc P w base spare held n e ((cs.drop j).take (P.cellsOf e)) = some y) :
    ∃ i, c = .bool i := by
  obtain ⟨y, hy⟩ := h
  rw [hc, one_at hj] at hy
  obtain ⟨i, e0, _⟩ := DataW.trod_bool he hy
  exact ⟨i, List.singleton_inj.1 e0⟩
theorem str_at {n e j : Nat} {cs : List Value} {c : Value} (he : P.underlying e = some .string) (hc : P.cellsOf e = 1) (hj : cs[j]? = some c) (h : ∃ y, DataW.trod enc P w base spare held n e ((cs.drop j).take (P.cellsOf e)) = some y) :
    ∃ l : List UInt8, c = str l ∧ l.length ≤ maxLen := by
  obtain ⟨y, hy⟩ := h
  rw [hc, one_at hj] at hy
  obtain ⟨s, e0, _, w0⟩ := DataW.trod_string he hy
  obtain ⟨l, rfl, hl⟩ := str_of s
  exact ⟨l, List.singleton_inj.1 e0, by omega⟩
end
set_option maxRecDepth 100000 in
theorem open_query {H : Type} {enc : TypeId × Value → H} {w : World} {base : Nat} {spare : Nat → Bool} {held : Bool} {r : Reach} {b0 : Nat} {v : Value} {d : DataW H} {p : List MemPlace}
    (hv : Value.okWide Tryd.prog w r b0 26 v) (h : DataW.Trod enc Tryd.prog w base spare held 26 v d p) :
    ∃ q : Qy, v = qv q ∧ q.s2 ≤ 9223372036854775807 ∧ q.find.length ≤ maxLen ∧ I64 q.limit ∧ I64 q.frm := by
  obtain ⟨cs, rfl, hsz⟩ := okWide_struct Tryd.underlying26 hv
  have hC : Tryd.prog.cellsOf 26 = 7 := by kernel_rfl
  rw [hC] at hsz
  obtain ⟨cs, rfl⟩ : ∃ l : List Value, cs = l.toArray := ⟨cs.toList, by simp⟩
  obtain ⟨fuel, hf⟩ := h
  simp only [Value.cells] at hf
  obtain ⟨n, hF⟩ := fld Tryd.underlying26 hf
  match cs, hsz with
  | [c0, c1, c2, c3, c4, c5, c6], _ =>
    obtain ⟨y0, g0⟩ := hF 0 _ rfl
    change DataW.trod enc Tryd.prog w base spare held n 24 (List.take (Tryd.prog.cellsOf 24) (List.drop 0 [c0, c1, c2, c3, c4, c5, c6])) = some y0 at g0
    rw [show Tryd.prog.cellsOf 24 = 2 from by kernel_rfl] at g0
    simp only [List.drop_zero, List.drop_succ_cons, List.take_succ_cons, List.take_zero] at g0
    obtain ⟨n0, hG0⟩ := fld Tryd.underlying24 g0
    obtain ⟨x0, rfl, w0⟩ := int_at (j := 0) Tryd.underlying3 (by kernel_rfl) rfl (hG0 0 _ rfl)
    obtain ⟨x1, rfl, w1⟩ := int_at (j := 1) Tryd.underlying3 (by kernel_rfl) rfl (hG0 1 _ rfl)
    obtain ⟨y2, g2⟩ := hF 1 _ rfl
    change DataW.trod enc Tryd.prog w base spare held n 24 (List.take (Tryd.prog.cellsOf 24) (List.drop 2 [.int .i64 x0, .int .i64 x1, c2, c3, c4, c5, c6])) = some y2 at g2
    rw [show Tryd.prog.cellsOf 24 = 2 from by kernel_rfl] at g2
    simp only [List.drop_zero, List.drop_succ_cons, List.take_succ_cons, List.take_zero] at g2
    obtain ⟨n2, hG2⟩ := fld Tryd.underlying24 g2
    obtain ⟨x2, rfl, w2⟩ := int_at (j := 0) Tryd.underlying3 (by kernel_rfl) rfl (hG2 0 _ rfl)
    obtain ⟨x3, rfl, w3⟩ := int_at (j := 1) Tryd.underlying3 (by kernel_rfl) rfl (hG2 1 _ rfl)
    obtain ⟨x4, rfl, w4⟩ := str_at (j := 4) Tryd.underlying9 (by kernel_rfl) rfl (hF 2 _ rfl)
    obtain ⟨x5, rfl, w5⟩ := int_at (j := 5) Tryd.underlying3 (by kernel_rfl) rfl (hF 3 _ rfl)
    obtain ⟨x6, rfl, w6⟩ := int_at (j := 6) Tryd.underlying3 (by kernel_rfl) rfl (hF 4 _ rfl)
    exact ⟨⟨x0, x1, x2, x3, x4, x5, x6⟩, rfl, w1.2, w4, w5, w6⟩
end SkpW
end Go.Proofs.YtjcbaaabbdcdnaaDoor
