/- Plain facts on arguments: a slice that came in reads as a list of its elements; a number that came in fits its kind. No program is named here. Plain facts on arguments: a slice of numbers. -/
import Derived.Test.YtdeiehgghhiijaaDoorMem
import Derived.ProofKit
import Derived.OpenShut
import Derived.Deep.Slices
import Derived.Lib.SmallJoins
namespace Go.Proofs.YtdeiehgghhiijaaDoor
set_option linter.unusedVariables false
open Go.RowKit Go.ChangeShapes Go.WideShapes Go.Deep

section
variable {H : Type} {enc : TypeId × Value → H} {P : Program} {w : World} {base : Nat} {spare : Nat → Bool} {held : Bool} {α : Type}

theorem list_of (n : Nat) (p : Nat → α → Prop) (h : ∀ i, i < n → ∃ x, p i x) : ∃ l : List α, l.length = n ∧ ∀ i (hi : i < l.length), p i l[i] := by
  induction n with
  | zero => exact ⟨[], rfl, fun i hi => absurd hi (by simp)⟩
  | succ n ih =>
    obtain ⟨l, hl, hp⟩ := ih (fun i hi => h i (by omega))
    obtain ⟨x, hx⟩ := h n (by omega)
    refine ⟨l ++ [x], by simp [hl], fun i hi => ?_⟩
    by_cases hin : i < l.length
    · rw [List.getElem_append_left hin]; exact hp i hin
    · have : i = n := by simp at hi; omega
      subst this
      rw [List.getElem_append_right (by omega)]
      simpa [hl] using hx

theorem flat_len (f : α → List Value) (size : Nat) (l : List α) (h : ∀ x ∈ l, (f x).length = size) : (l.flatMap f).length = l.length * size := by
  induction l with
  | nil => simp
  | cons x l ih =>
    rw [List.flatMap_cons, List.length_append, ih (fun y hy => h y (by simp [hy])), h x (by simp), List.length_cons, Nat.add_mul]
    omega
theorem flat_get (f : α → List Value) (size : Nat) (l : List α) (h : ∀ x ∈ l, (f x).length = size) (k j : Nat) (hk : k < l.length) (hj : j < size) : (l.flatMap f)[k * size + j]? = (f l[k])[j]? := by
  induction l generalizing k with
  | nil => simp at hk
  | cons x l ih =>
    rw [List.flatMap_cons]
    have hx := h x (by simp)
    cases k with
    | zero => rw [List.getElem?_append_left (by omega)]; simp
    | succ k =>
      rw [List.getElem?_append_right (by rw [hx, Nat.add_mul]; omega), hx]
      have e : (k + 1) * size + j - size = k * size + j := by rw [Nat.add_mul]; omega
      rw [e, ih (fun y hy => h y (by simp [hy])) k (by simpa using hk)]
      simp

/-- A slice that came in, its elements of 'size' cells each, each read as f x for an x that fits. -/
theorem open_rows {r : Reach} {b0 : Nat} {t e size : Nat} {v : Value} {d : DataW H} {p : List MemPlace} (ht : P.underlying t = some (.slice e)) (hC : P.cellsOf e = size) (hpos : 0 < size)
    (f : α → List Value) (Q : α → Prop) (hf : ∀ n cs y, DataW.trod enc P w base spare held n e cs = some y → cs.length = size → ∃ x, cs = f x ∧ Q x)
    (hv : Value.okWide P w r b0 t v) (h : DataW.Trod enc P w base spare held t v d p) :
    ∃ (A : Option Addr) (n c : Nat) (l : List α), v = .slice A n c ∧ n ≤ c ∧ c ≤ maxLen ∧ l.length = n ∧ (∀ x ∈ l, Q x) ∧ (∀ x ∈ l, (f x).length = size) ∧ Rd w w.heap.size size A n (l.flatMap f) := by
  obtain ⟨a0, len, cap, rfl⟩ := okWide_slice ht hv
  obtain ⟨fuel, hfu⟩ := h
  rcases open_slice ht hfu with ⟨hcs, _⟩ | ⟨a, l', c', m, n, D, Pl, hcs, hb, hl, hm, hmm, _, hx⟩
  · simp only [Value.cells, List.cons.injEq, and_true] at hcs
    injection hcs with h1 h2 h3
    subst h1 h2 h3
    exact ⟨none, 0, 0, [], rfl, Nat.le_refl _, Nat.zero_le _, rfl, fun _ h => absurd h List.not_mem_nil, fun _ h => absurd h List.not_mem_nil, Rd.nil _ _ _ _⟩
  · simp only [Value.cells, List.cons.injEq, and_true] at hcs
    injection hcs with h1 h2 h3
    subst h1 h2 h3
    have hlen : len ≤ m := by rw [hmm]; split <;> omega
    obtain ⟨l, hll, hlp⟩ := list_of len (fun i x => (∃ cs', w.cells? base (a.add (i * size)) size = some cs' ∧ cs' = f x) ∧ Q x ∧ (f x).length = size) (fun i hi => by
      obtain ⟨cs', h1, h2⟩ := hx i (by omega)
      rw [hC] at h1
      have hcl := (World.cells?_some h1).2.1
      obtain ⟨x, hx1, hx2⟩ := hf _ _ _ h2 hcl
      exact ⟨x, ⟨cs', h1, hx1⟩, hx2, by rw [← hx1]; exact hcl⟩)
    have hsz : ∀ x ∈ l, (f x).length = size := fun x hx => by
      obtain ⟨i, hi, rfl⟩ := List.getElem_of_mem hx
      exact (hlp i hi).2.2
    refine ⟨some a, len, cap, l, rfl, hl, hm, hll, fun x hx => ?_, hsz, ?_⟩
    · obtain ⟨i, hi, rfl⟩ := List.getElem_of_mem hx
      exact (hlp i hi).2.1
    · refine ⟨by rw [flat_len f size l hsz, hll], fun hn => ?_⟩
      have hcell : ∀ i j, i < len → j < size → ∃ u, w.cell? ((a.add (i * size)).add j) = some u ∧ (l.flatMap f)[i * size + j]? = some u := by
        intro i j hi hj
        obtain ⟨⟨cs', h1, h2⟩, _, h3⟩ := hlp i (by omega)
        obtain ⟨_, h4, h5⟩ := World.cells?_some h1
        have h6 := h5 j hj
        rw [flat_get f size l hsz i j (by omega) hj, ← h2]
        rw [List.getElem?_eq_getElem (by omega)] at h6 ⊢
        exact ⟨_, h6, rfl⟩
      obtain ⟨u0, hu0, _⟩ := hcell 0 0 (by omega) hpos
      obtain ⟨b, o, spot⟩ := a
      have hspot : spot = none := by simpa [Addr.add] using World.cell?_spot hu0
      subst hspot
      refine ⟨b, o, rfl, ?_, fun j hj => ?_⟩
      · have := World.block_lt_of_cell? w _ hu0
        simpa [add_lit] using this
      · rw [flat_len f size l hsz, hll] at hj
        have hj1 : j / size < len := (Nat.div_lt_iff_lt_mul hpos).2 hj
        have hj2 : j % size < size := Nat.mod_lt _ hpos
        obtain ⟨u, h1, h2⟩ := hcell (j / size) (j % size) hj1 hj2
        have e : j / size * size + j % size = j := by rw [Nat.mul_comm]; exact Nat.div_add_mod j size
        rw [add_lit, add_lit, Nat.add_assoc, e] at h1
        rw [e] at h2
        rw [h1, ← h2, List.getElem?_eq_getElem]

/-- A struct of two numbers. -/
theorem trod_ii {t : Nat} {f0 f1 : Field} (hs : P.underlying t = some (.struct #[f0, f1])) (hone : oneCellFields P #[f0, f1] = true) (h0 : P.underlying f0.type = some (.int .i64)) (h1 : P.underlying f1.type = some (.int .i64))
    (n : Nat) (cs : List Value) (y : DataW H × List MemPlace) (h : DataW.trod enc P w base spare held n t cs = some y) (hl : cs.length = 2) :
    ∃ x : Int × Int, cs = [.int .i64 x.1, .int .i64 x.2] ∧ I64 x.1 ∧ I64 x.2 := by
  obtain ⟨y0, y1, m, _, _, g0, g1⟩ := trod_struct2 hs h
  obtain ⟨o0, k0⟩ := hone_of hone 0 f0 rfl
  obtain ⟨o1, k1⟩ := hone_of hone 1 f1 rfl
  match cs, hl with
  | [a, b], _ =>
    rw [o0, k0] at g0
    rw [o1, k1] at g1
    obtain ⟨i, e0, _, w0⟩ := DataW.trod_int h0 g0
    obtain ⟨j, e1, _, w1⟩ := DataW.trod_int h1 g1
    simp at e0 e1
    subst e0 e1
    exact ⟨(i, j), rfl, i64_of w0, i64_of w1⟩
end
end Go.Proofs.YtdeiehgghhiijaaDoor

namespace Go.Proofs.YtdeiehgghhiijaaDoor
set_option linter.unusedVariables false
set_option linter.unusedSimpArgs false
set_option linter.unnecessarySimpa false
open Go.RowKit Go.ChangeShapes Go.WideShapes Go.Deep
namespace ArgI
theorem ints_flat (l : List Int) : (l.flatMap fun x : Int => [Value.int .i64 x]) = ints l := by
  induction l with
  | nil => rfl
  | cons x l ih => rw [List.flatMap_cons, ih]; rfl
theorem trod_i {H : Type} {enc : TypeId × Value → H} {P : Program} {w : World} {base : Nat} {spare : Nat → Bool} {held : Bool} {t : Nat} (h0 : P.underlying t = some (.int .i64))
    (n : Nat) (cs : List Value) (y : DataW H × List MemPlace) (h : DataW.trod enc P w base spare held n t cs = some y) (hl : cs.length = 1) :
    ∃ x : Int, cs = [.int .i64 x] ∧ I64 x := by
  obtain ⟨i, e0, _, w0⟩ := DataW.trod_int h0 h
  exact ⟨i, e0, i64_of w0⟩
set_option maxRecDepth 100000 in
theorem open_ints {H : Type} {enc : TypeId × Value → H} {w : World} {base : Nat} {spare : Nat → Bool} {held : Bool} {r : Reach} {b0 : Nat} {v : Value} {d : DataW H} {p : List MemPlace}
    (hv : Value.okWide Tryd.prog w r b0 73 v) (h : DataW.Trod enc Tryd.prog w base spare held 73 v d p) :
    ∃ (A : Option Addr) (n c : Nat) (l : List Int), v = .slice A n c ∧ n ≤ c ∧ c ≤ maxLen ∧ (∀ x ∈ l, I64 x) ∧ Rd w w.heap.size 1 A n (ints l) := by
  obtain ⟨A, n, c, l, hv', h1, h2, _, h4, _, h6⟩ := open_rows Tryd.underlying73 (by kernel_rfl) (by decide) (fun x : Int => [.int .i64 x]) I64
    (fun n cs y => trod_i Tryd.underlying3 n cs y) hv h
  refine ⟨A, n, c, l, hv', h1, h2, h4, ?_⟩
  rw [← ints_flat]; exact h6
end ArgI
end Go.Proofs.YtdeiehgghhiijaaDoor
