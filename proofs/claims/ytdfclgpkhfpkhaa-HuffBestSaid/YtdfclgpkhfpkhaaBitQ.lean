/- Plain: rows of fields as cells; what packing and unpacking give. -/
import Derived.Test.YtdfclgpkhfpkhaaBits
import Derived.Test.YtdfclgpkhfpkhaaApp
namespace Go.Proofs.Ytdfclgpkhfpkhaa
set_option linter.unusedVariables false
set_option linter.unusedSimpArgs false
set_option linter.unnecessarySimpa false
open Go.RowKit

def fcells (l : List (Int × Int)) : List Value := l.flatMap fun r => [.int .i64 r.1, .int .i64 r.2]
theorem fcells_cons (p : Int × Int) (l : List (Int × Int)) : fcells (p :: l) = .int .i64 p.1 :: .int .i64 p.2 :: fcells l := rfl
theorem fcells_len (l : List (Int × Int)) : (fcells l).length = l.length * 2 := by
  induction l with
  | nil => rfl
  | cons x l ih => rw [fcells_cons]; simp only [List.length_cons] at *; omega
theorem fcells_get (l : List (Int × Int)) (k : Nat) (h : k < l.length) : (fcells l)[k * 2]? = some (.int .i64 l[k].1) ∧ (fcells l)[k * 2 + 1]? = some (.int .i64 l[k].2) := by
  induction l generalizing k with
  | nil => simp at h
  | cons p l ih =>
    rw [fcells_cons]
    cases k with
    | zero => simp
    | succ k =>
      have := ih k (by simpa using h)
      simpa [Nat.add_mul] using this
theorem rd_fcells {w : World} {B : Nat} {A : Option Addr} {n : Nat} {l : List (Int × Int)} (h : Rd w B 2 A n (fcells l)) (hn : 0 < n) :
    ∃ b o, A = some ⟨b, o, none⟩ ∧ b < B ∧ ∀ k (hk : k < l.length), w.cell? ⟨b, o + k * 2, none⟩ = some (.int .i64 l[k].1) ∧ w.cell? ⟨b, o + k * 2 + 1, none⟩ = some (.int .i64 l[k].2) := by
  obtain ⟨b, o, rfl, hb, hc⟩ := h.at_ hn
  refine ⟨b, o, rfl, hb, fun k hk => ?_⟩
  have hlen := fcells_len l
  obtain ⟨e0, e1⟩ := fcells_get l k hk
  refine ⟨?_, ?_⟩
  · rw [hc (k * 2) (by omega)]; rw [List.getElem?_eq_getElem (by omega)] at e0; exact e0
  · rw [Nat.add_assoc, hc (k * 2 + 1) (by omega)]; rw [List.getElem?_eq_getElem (by omega)] at e1; exact e1
theorem rd_flen {w : World} {B : Nat} {A : Option Addr} {n : Nat} {l : List (Int × Int)} (h : Rd w B 2 A n (fcells l)) : l.length = n := by have := h.len; rw [fcells_len] at this; omega

def fitsB (n w : Int) : Bool := decide (0 ≤ w) && decide (w ≤ 32) && decide (0 ≤ n) && decide (n < 2 ^ w.toNat)
def fieldB (f : Int × Int) : List Nat := dg f.2.toNat f.1.toNat
def fieldsB (l : List (Int × Int)) : List Nat := l.flatMap fieldB
theorem fieldsB_snoc (l : List (Int × Int)) (k : Nat) (h : k < l.length) : fieldsB (l.take (k + 1)) = fieldsB (l.take k) ++ fieldB l[k] := by
  unfold fieldsB
  rw [List.take_succ_eq_append_getElem h, List.flatMap_append]
  simp
def fitsAll (l : List (Int × Int)) : Bool := l.all fun f => fitsB f.1 f.2
def packV (l : List (Int × Int)) : List UInt8 × Int := if fitsAll l = true then (textB (fieldsB l), 0) else ([], 2)
theorem packV_no {l : List (Int × Int)} {k : Nat} (h : k < l.length) (hf : fitsB l[k].1 l[k].2 = false) : packV l = ([], 2) := by
  unfold packV
  rw [if_neg]
  intro e
  unfold fitsAll at e
  have := List.all_eq_true.1 e l[k] (List.getElem_mem _)
  rw [hf] at this
  cases this
theorem packV_yes {l : List (Int × Int)} (h : ∀ f ∈ l, fitsB f.1 f.2 = true) : packV l = (textB (fieldsB l), 0) := by
  unfold packV fitsAll
  rw [if_pos (List.all_eq_true.2 h)]
theorem fits_width {n w : Int} (h : fitsB n w = true) : 0 ≤ w ∧ w ≤ 32 := by
  simp only [fitsB, Bool.and_eq_true, decide_eq_true_eq] at h
  exact ⟨h.1.1.1, h.1.1.2⟩
theorem fieldsB_len {l : List (Int × Int)} (h : ∀ f ∈ l, fitsB f.1 f.2 = true) : (fieldsB l).length ≤ 32 * l.length := by
  induction l with
  | nil => simp [fieldsB]
  | cons f l ih =>
    have h1 := ih (fun x hx => h x (by simp [hx]))
    have h2 := fits_width (h f (by simp))
    simp only [fieldsB, List.flatMap_cons, List.length_append, List.length_cons] at h1 ⊢
    rw [fieldB, dg_len]
    omega

/-- The number of a width that stands at a bit. -/
def getB (l : List Nat) (at_ width : Int) : Int × Int :=
  if width < 0 ∨ 32 < width then (0, 2) else if (l.length : Int) < at_ + width then (0, 4) else ((num ((l.drop at_.toNat).take width.toNat) : Int), 0)
def unpackF (l : List Nat) : List Int → Int → List Int × Int × Int
  | [], at_ => ([], at_, 0)
  | x :: r, at_ => if (getB l at_ x).2 = 0 then ((getB l at_ x).1 :: (unpackF l r (at_ + x)).1, (unpackF l r (at_ + x)).2) else ([], at_, (getB l at_ x).2)
theorem unpackF_yes {l : List Nat} {ws : List Int} {k : Nat} {p : Int} (h : k < ws.length) (h0 : (getB l p ws[k]).2 = 0) :
    unpackF l (ws.drop k) p = ((getB l p ws[k]).1 :: (unpackF l (ws.drop (k + 1)) (p + ws[k])).1, (unpackF l (ws.drop (k + 1)) (p + ws[k])).2) := by
  rw [List.drop_eq_getElem_cons h, unpackF, if_pos h0]
theorem unpackF_no {l : List Nat} {ws : List Int} {k : Nat} {p : Int} (h : k < ws.length) (h0 : (getB l p ws[k]).2 ≠ 0) : unpackF l (ws.drop k) p = ([], p, (getB l p ws[k]).2) := by
  rw [List.drop_eq_getElem_cons h, unpackF, if_neg h0]
theorem unpackF_len (l : List Nat) (ws : List Int) : ∀ p, (unpackF l ws p).1.length ≤ ws.length := by
  induction ws with
  | nil => intro p; exact Nat.le_refl _
  | cons x r ih => intro p; unfold unpackF; split
                   · simpa using ih _
                   · simp
end Go.Proofs.Ytdfclgpkhfpkhaa
