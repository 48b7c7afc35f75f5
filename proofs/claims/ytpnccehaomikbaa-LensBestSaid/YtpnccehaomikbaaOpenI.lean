/- Plain facts on arguments: a slice of numbers. -/
import Derived.Test.YtpnccehaomikbaaOpen
import Derived.Test.YtpnccehaomikbaaStr
namespace Go.Proofs.Ytpnccehaomikbaa
set_option linter.unusedVariables false
set_option linter.unusedSimpArgs false
set_option linter.unnecessarySimpa false
open Go.RowKit Go.ChangeShapes Go.WideShapes Go.Deep
namespace ArgI
theorem ints_flat (l : List Int) : (l.flatMap fun x : Int => [Value.int .i64 x]) = ints l := by
  induction l with
  | nil => rfl
  | cons x l ih => rw [List.flatMap_cons, ih]; rfl
theorem trod_i {H : Type} {enc : TypeId × Value → H} {P : Program} {w : World} {base : Nat} {spare : Nat → Bool} {held : Bool} {t : Nat} (h0 : P.underlying t = some (.int .i64))
    (n : Nat) (cs : List Value) (y : DataW H × List MemPlace) (h : DataW.trod enc P w base spare held n t cs = some y) (hl : cs.length = 1) :
    ∃ x : Int, cs = [.int .i64 x] ∧ I64 x := by
  obtain ⟨i, e0, _, w0⟩ := DataW.trod_int h0 h
  exact ⟨i, e0, i64_of w0⟩
set_option maxRecDepth 100000 in
theorem open_ints {H : Type} {enc : TypeId × Value → H} {w : World} {base : Nat} {spare : Nat → Bool} {held : Bool} {r : Reach} {b0 : Nat} {v : Value} {d : DataW H} {p : List MemPlace}
    (hv : Value.okWide Try.prog w r b0 22 v) (h : DataW.Trod enc Try.prog w base spare held 22 v d p) :
    ∃ (A : Option Addr) (n c : Nat) (l : List Int), v = .slice A n c ∧ n ≤ c ∧ c ≤ maxLen ∧ (∀ x ∈ l, I64 x) ∧ Rd w w.heap.size 1 A n (ints l) := by
  obtain ⟨A, n, c, l, hv', h1, h2, _, h4, _, h6⟩ := open_rows Try.underlying22 (by kernel_rfl) (by decide) (fun x : Int => [.int .i64 x]) I64
    (fun n cs y => trod_i Try.underlying3 n cs y) hv h
  refine ⟨A, n, c, l, hv', h1, h2, h4, ?_⟩
  rw [← ints_flat]; exact h6
end ArgI
end Go.Proofs.Ytpnccehaomikbaa
