/- Plain: rows of wants and of what was taken, as cells. -/
import Derived.Test.YtjdmbpkabeaccaaTakP
import Derived.Test.YtjdmbpkabeaccaaApp
import Derived.Test.YtjdmbpkabeaccaaRecP
namespace Go.Proofs.Ytjdmbpkabeaccaa
set_option linter.unusedVariables false
set_option linter.unusedSimpArgs false
set_option linter.unnecessarySimpa false
open Go.RowKit

def wcells (l : List (Int × Int)) : List Value := l.flatMap fun r => [.int .i64 r.1, .int .i64 r.2]
def gcells (l : List (Int × List UInt8)) : List Value := l.flatMap fun r => [.int .i64 r.1, str r.2]
theorem wcells_cons (p : (Int × Int)) (l : List (Int × Int)) : wcells (p :: l) = .int .i64 p.1 :: .int .i64 p.2 :: wcells l := rfl
theorem wcells_len (l : List (Int × Int)) : (wcells l).length = l.length * 2 := by
  induction l with
  | nil => rfl
  | cons x l ih => rw [wcells_cons]; simp only [List.length_cons] at *; omega
theorem wcells_append (l m : List (Int × Int)) : wcells (l ++ m) = wcells l ++ wcells m := by simp [wcells]
theorem wcells_one (l : List (Int × Int)) : ∀ u ∈ wcells l, u.oneCell' = true := by
  intro u hu
  obtain ⟨r, _, h⟩ := List.mem_flatMap.1 hu
  simp only [List.mem_cons, List.not_mem_nil, or_false] at h
  rcases h with rfl | rfl <;> rfl
theorem wcells_get (l : List (Int × Int)) (k : Nat) (h : k < l.length) : (wcells l)[k * 2]? = some (.int .i64 l[k].1) ∧ (wcells l)[k * 2 + 1]? = some (.int .i64 l[k].2) := by
  induction l generalizing k with
  | nil => simp at h
  | cons p l ih =>
    rw [wcells_cons]
    cases k with
    | zero => simp
    | succ k =>
      have := ih k (by simpa using h)
      simpa [Nat.add_mul] using this
theorem rd_wcells {w : World} {B : Nat} {A : Option Addr} {n : Nat} {l : List (Int × Int)} (h : Rd w B 2 A n (wcells l)) (hn : 0 < n) :
    ∃ b o, A = some ⟨b, o, none⟩ ∧ b < B ∧ ∀ k (hk : k < l.length), w.cell? ⟨b, o + k * 2, none⟩ = some (.int .i64 l[k].1) ∧ w.cell? ⟨b, o + k * 2 + 1, none⟩ = some (.int .i64 l[k].2) := by
  obtain ⟨b, o, rfl, hb, hc⟩ := h.at_ hn
  refine ⟨b, o, rfl, hb, fun k hk => ?_⟩
  have hlen := wcells_len l
  obtain ⟨e0, e1⟩ := wcells_get l k hk
  refine ⟨?_, ?_⟩
  · rw [hc (k * 2) (by omega)]; rw [List.getElem?_eq_getElem (by omega)] at e0; exact e0
  · rw [Nat.add_assoc, hc (k * 2 + 1) (by omega)]; rw [List.getElem?_eq_getElem (by omega)] at e1; exact e1
theorem rd_wlen {w : World} {B : Nat} {A : Option Addr} {n : Nat} {l : List (Int × Int)} (h : Rd w B 2 A n (wcells l)) : l.length = n := by have := h.len; rw [wcells_len] at this; omega
theorem gcells_cons (p : (Int × List UInt8)) (l : List (Int × List UInt8)) : gcells (p :: l) = .int .i64 p.1 :: str p.2 :: gcells l := rfl
theorem gcells_len (l : List (Int × List UInt8)) : (gcells l).length = l.length * 2 := by
  induction l with
  | nil => rfl
  | cons x l ih => rw [gcells_cons]; simp only [List.length_cons] at *; omega
theorem gcells_append (l m : List (Int × List UInt8)) : gcells (l ++ m) = gcells l ++ gcells m := by simp [gcells]
theorem gcells_one (l : List (Int × List UInt8)) : ∀ u ∈ gcells l, u.oneCell' = true := by
  intro u hu
  obtain ⟨r, _, h⟩ := List.mem_flatMap.1 hu
  simp only [List.mem_cons, List.not_mem_nil, or_false] at h
  rcases h with rfl | rfl <;> rfl
theorem gcells_get (l : List (Int × List UInt8)) (k : Nat) (h : k < l.length) : (gcells l)[k * 2]? = some (.int .i64 l[k].1) ∧ (gcells l)[k * 2 + 1]? = some (str l[k].2) := by
  induction l generalizing k with
  | nil => simp at h
  | cons p l ih =>
    rw [gcells_cons]
    cases k with
    | zero => simp
    | succ k =>
      have := ih k (by simpa using h)
      simpa [Nat.add_mul] using this
theorem rd_gcells {w : World} {B : Nat} {A : Option Addr} {n : Nat} {l : List (Int × List UInt8)} (h : Rd w B 2 A n (gcells l)) (hn : 0 < n) :
    ∃ b o, A = some ⟨b, o, none⟩ ∧ b < B ∧ ∀ k (hk : k < l.length), w.cell? ⟨b, o + k * 2, none⟩ = some (.int .i64 l[k].1) ∧ w.cell? ⟨b, o + k * 2 + 1, none⟩ = some (str l[k].2) := by
  obtain ⟨b, o, rfl, hb, hc⟩ := h.at_ hn
  refine ⟨b, o, rfl, hb, fun k hk => ?_⟩
  have hlen := gcells_len l
  obtain ⟨e0, e1⟩ := gcells_get l k hk
  refine ⟨?_, ?_⟩
  · rw [hc (k * 2) (by omega)]; rw [List.getElem?_eq_getElem (by omega)] at e0; exact e0
  · rw [Nat.add_assoc, hc (k * 2 + 1) (by omega)]; rw [List.getElem?_eq_getElem (by omega)] at e1; exact e1
theorem rd_glen {w : World} {B : Nat} {A : Option Addr} {n : Nat} {l : List (Int × List UInt8)} (h : Rd w B 2 A n (gcells l)) : l.length = n := by have := h.len; rw [gcells_len] at this; omega
end Go.Proofs.Ytjdmbpkabeaccaa
