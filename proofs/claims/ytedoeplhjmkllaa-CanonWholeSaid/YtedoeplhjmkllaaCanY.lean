/- The walks of package canon: Pack. -/
import Derived.Test.YtedoeplhjmkllaaCanZ
import Derived.Laws.EntriesVeiled
namespace Go.Proofs.Ytedoeplhjmkllaa
set_option linter.unusedVariables false
set_option linter.unusedSimpArgs false
set_option linter.unnecessarySimpa false
open Go.RowKit
namespace LenW
open BitW (Wr Wfr Fresh Puts)

/-- The bits of symbols, or none's. -/
def symsB (l : List Int) : List Int → List Nat
  | [] => []
  | s :: r => dg (wordV l s).1.2.toNat (wordV l s).1.1.toNat ++ symsB l r
def symsOk (l : List Int) (r : List Int) : Bool := r.all fun s => decide ((wordV l s).2 = 0)
def packC (l r : List Int) : List UInt8 × Int := if chkL l = 0 then (if symsOk l r = true then (textB (symsB l r), 0) else ([], 70)) else ([], chkL l)
theorem symsB_app (l a b : List Int) : symsB l (a ++ b) = symsB l a ++ symsB l b := by
  induction a with
  | nil => rfl
  | cons x a ih => simp [symsB, ih]
theorem symsB_snoc (l r : List Int) (k : Nat) (h : k < r.length) : symsB l (r.take (k + 1)) = symsB l (r.take k) ++ dg (wordV l r[k]).1.2.toNat (wordV l r[k]).1.1.toNat := by
  rw [List.take_succ_eq_append_getElem h, symsB_app]
  simp [symsB]
theorem wordV_width (l : List Int) (hk : chkL l = 0) (s : Int) (h : (wordV l s).2 = 0) : (wordV l s).1.2.toNat ≤ 32 := by
  have := (word_fits l hk s h).1
  unfold fitsB at this
  simp only [Bool.and_eq_true, decide_eq_true_eq] at this
  omega
theorem symsB_len (l : List Int) (hk : chkL l = 0) (r : List Int) (h : symsOk l r = true) : (symsB l r).length ≤ 32 * r.length := by
  induction r with
  | nil => simp [symsB]
  | cons s r ih =>
    unfold symsOk at h ih
    rw [List.all_cons, Bool.and_eq_true, decide_eq_true_eq] at h
    have := ih h.2
    have hw := wordV_width l hk s h.1
    simp only [symsB, List.length_append, List.length_cons, dg_len]
    omega
theorem symsOk_take (l r : List Int) (k : Nat) (h : k < r.length) : symsOk l (r.take (k + 1)) = (symsOk l (r.take k) && decide ((wordV l r[k]).2 = 0)) := by
  unfold symsOk
  rw [List.take_succ_eq_append_getElem h, List.all_append]
  simp
theorem symsOk_no (l r : List Int) (k : Nat) (h : k < r.length) (hn : ¬ (wordV l r[k]).2 = 0) : symsOk l r = false := by
  cases ho : symsOk l r with
  | false => rfl
  | true =>
    unfold symsOk at ho
    rw [List.all_eq_true] at ho
    have := ho _ (List.getElem_mem h)
    simp only [decide_eq_true_eq] at this
    exact absurd this hn
end LenW
end Go.Proofs.Ytedoeplhjmkllaa
