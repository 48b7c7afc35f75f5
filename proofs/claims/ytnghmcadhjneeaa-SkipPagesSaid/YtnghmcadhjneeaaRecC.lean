/- The law of package record on rows: its walk. -/
import Derived.Test.YtnghmcadhjneeaaRecA
import Derived.Test.YtnghmcadhjneeaaOpenR
namespace Go.Proofs.Ytnghmcadhjneeaa
set_option linter.unusedVariables false
set_option linter.unusedSimpArgs false
set_option linter.unnecessarySimpa false
open Go.RowKit Go.ChangeShapes Go.WideShapes Go.Deep
namespace RecW

set_option maxRecDepth 100000 in
theorem open_recs {H : Type} {enc : TypeId × Value → H} {w : World} {base : Nat} {spare : Nat → Bool} {held : Bool} {r : Reach} {b0 : Nat} {v : Value} {d : DataW H} {p : List MemPlace}
    (hv : Value.okWide Try.prog w r b0 22 v) (h : DataW.Trod enc Try.prog w base spare held 22 v d p) :
    ∃ (A : Option Addr) (n c : Nat) (l : List Rc), v = .slice A n c ∧ n ≤ c ∧ c ≤ maxLen ∧ (∀ x ∈ l, RcOk x) ∧ Rd w w.heap.size 3 A n (rcells l) := by
  obtain ⟨A, n, c, l, hv', h1, h2, _, h4, _, h6⟩ := open_rows Try.underlying22 (by kernel_rfl) (by decide) rcell RcOk
    (fun n cs y hh hl => trod_iis Try.underlying26 (by kernel_rfl) Try.underlying3 Try.underlying3 Try.underlying9 n cs y hh hl) hv h
  exact ⟨A, n, c, l, hv', h1, h2, h4, h6⟩
theorem few_len {l : List Rc} (h : fewB l = true) : l.length ≤ 200 := by
  unfold fewB at h
  simp at h
  exact h.1

/-- A length of a row that was split. -/
theorem splitF_len (s : List UInt8) (f : Nat) : ∀ (a : Nat), ((splitF s f a).1.length : Int) + a ≤ s.length ∨ (splitF s f a).1 = [] := by
  induction f with
  | zero => intro a; exact .inr rfl
  | succ f ih =>
    intro a
    rw [splitF]
    split
    · split
      · rename_i h1 h2
        obtain ⟨h3, h4, h5, _⟩ := getR_ok h2
        obtain ⟨to, hto⟩ := Int.eq_ofNat_of_zero_le (show 0 ≤ (getR s a).2.1 by omega)
        rw [hto] at h4 h5 ⊢
        left
        rcases ih to with h | h
        · simp only [List.length_cons]; omega
        · rw [h]; simp only [List.length_cons, List.length_nil]; omega
      · exact .inr rfl
    · exact .inr rfl
theorem splitV_len (s : List UInt8) : (splitV s).1.length ≤ s.length := by
  unfold splitV
  split
  · simp
  · have h := splitF_len s (s.length + 1) 0
    rw [show ((0 : Nat) : Int) = 0 from rfl] at h
    unfold splitR
    split
    · split
      · dsimp only
        rcases h with h | h
        · omega
        · rw [h]; simp
      · simp
    · simp

end RecW
end Go.Proofs.Ytnghmcadhjneeaa
