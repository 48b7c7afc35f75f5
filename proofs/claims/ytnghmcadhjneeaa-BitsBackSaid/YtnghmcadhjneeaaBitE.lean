/- Plain facts: fields that were packed are unpacked by their widths. -/
import Derived.Test.YtnghmcadhjneeaaBitC
import Derived.Test.YtnghmcadhjneeaaBitV
import Derived.Test.YtnghmcadhjneeaaBitS
namespace Go.Proofs.Ytnghmcadhjneeaa
set_option linter.unusedVariables false
set_option linter.unusedSimpArgs false
set_option linter.unnecessarySimpa false
open Go.RowKit
namespace BitW

theorem fieldsB_cons (f : Int × Int) (l : List (Int × Int)) : fieldsB (f :: l) = fieldB f ++ fieldsB l := rfl
theorem unpack_pack (rest : List Nat) : ∀ (l : List (Int × Int)) (pre : List Nat), (∀ f ∈ l, fitsB f.1 f.2 = true) →
    unpackF (pre ++ (fieldsB l ++ rest)) (l.map (·.2)) (pre.length : Nat) = (l.map (·.1), ((pre.length + (fieldsB l).length : Nat) : Int), 0) := by
  intro l
  induction l with
  | nil => intro pre _; simp [unpackF, fieldsB]
  | cons f l ih =>
    intro pre h
    have hf := h f (by simp)
    have hl := ih (pre ++ fieldB f) (fun x hx => h x (by simp [hx]))
    obtain ⟨x, k, e1, e2, hk, hx⟩ := fitsB_yes hf
    obtain ⟨f1, f2⟩ := f
    dsimp only at e1 e2
    subst e1 e2
    have hfb : fieldB ((x : Int), (k : Int)) = dg k x := by simp [fieldB]
    rw [hfb] at hl
    have hdl := dg_len k x
    have hg : getB (pre ++ (fieldsB (((x : Int), (k : Int)) :: l) ++ rest)) (pre.length : Nat) (k : Nat) = ((x : Int), 0) := by
      rw [getB_yes hk (by simp only [fieldsB_cons, hfb, List.length_append, hdl]; omega), List.drop_left, fieldsB_cons, hfb, List.append_assoc, List.take_left' hdl, num_dg, Nat.mod_eq_of_lt hx]
    simp only [List.map_cons, unpackF]
    rw [hg, if_pos rfl]
    rw [fieldsB_cons, hfb]
    have e3 : ((pre.length : Nat) : Int) + (k : Int) = (((pre ++ dg k x).length : Nat) : Int) := by simp [hdl]
    have e4 : pre ++ (dg k x ++ fieldsB l ++ rest) = pre ++ dg k x ++ (fieldsB l ++ rest) := by simp
    rw [e3, e4, hl]
    simp [Nat.add_assoc]
theorem back_plain {l : List (Int × Int)} (h : ∀ f ∈ l, fitsB f.1 f.2 = true) : unpackF (bitsB (textB (fieldsB l))) (l.map (·.2)) 0 = (l.map (·.1), ((fieldsB l).length : Int), 0) := by
  obtain ⟨k, _, hk⟩ := bits_text (fieldsB l) (fieldsB_lt l)
  have := unpack_pack (List.replicate k 0) l [] h
  rw [hk]
  simpa using this
theorem packV_cases (l : List (Int × Int)) : packV l = ([], 2) ∨ (packV l = (textB (fieldsB l), 0) ∧ ∀ f ∈ l, fitsB f.1 f.2 = true) := by
  unfold packV fitsAll
  split
  · rename_i h
    exact .inr ⟨rfl, List.all_eq_true.1 h⟩
  · exact .inl rfl
end BitW
end Go.Proofs.Ytnghmcadhjneeaa
