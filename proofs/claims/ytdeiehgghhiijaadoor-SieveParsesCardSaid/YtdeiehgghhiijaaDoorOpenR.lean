/- Plain facts on arguments: a slice of structs of two numbers and a text. No program is named here. -/
import Derived.Test.YtdeiehgghhiijaaDoorOpen
import Derived.Test.YtdeiehgghhiijaaDoorRecP
import Derived.Deep.Strs
namespace Go.Proofs.YtdeiehgghhiijaaDoor
set_option linter.unusedVariables false
set_option linter.unusedSimpArgs false
set_option linter.unnecessarySimpa false
open Go.RowKit Go.ChangeShapes Go.WideShapes Go.Deep

section
variable {H : Type} {enc : TypeId × Value → H} {P : Program} {w : World} {base : Nat} {spare : Nat → Bool} {held : Bool}
def RcOk (r : Rc) : Prop := I64 r.1 ∧ I64 r.2.1 ∧ r.2.2.length ≤ maxLen
theorem trod_iis {t : Nat} {f0 f1 f2 : Field} (hs : P.underlying t = some (.struct #[f0, f1, f2])) (hone : oneCellFields P #[f0, f1, f2] = true) (h0 : P.underlying f0.type = some (.int .i64)) (h1 : P.underlying f1.type = some (.int .i64)) (h2 : P.underlying f2.type = some .string)
    (n : Nat) (cs : List Value) (y : DataW H × List MemPlace) (h : DataW.trod enc P w base spare held n t cs = some y) (hl : cs.length = 3) :
    ∃ x : Rc, cs = rcell x ∧ RcOk x := by
  obtain ⟨y0, y1, y2, m, _, _, g0, g1, g2⟩ := trod_struct3 hs h
  obtain ⟨o0, k0⟩ := hone_of hone 0 f0 rfl
  obtain ⟨o1, k1⟩ := hone_of hone 1 f1 rfl
  obtain ⟨o2, k2⟩ := hone_of hone 2 f2 rfl
  match cs, hl with
  | [a, b, c], _ =>
    rw [o0, k0] at g0
    rw [o1, k1] at g1
    rw [o2, k2] at g2
    obtain ⟨i, e0, _, w0⟩ := DataW.trod_int h0 g0
    obtain ⟨j, e1, _, w1⟩ := DataW.trod_int h1 g1
    obtain ⟨s, e2, _, w2⟩ := DataW.trod_string h2 g2
    simp at e0 e1 e2
    subst e0 e1 e2
    obtain ⟨l, rfl, hl⟩ := str_of s
    exact ⟨(i, j, l), rfl, i64_of w0, i64_of w1, by show l.length ≤ maxLen; omega⟩
end
end Go.Proofs.YtdeiehgghhiijaaDoor
