/- The walks of package want and its reference: two numbers, parted by a -, as the reference reads them; how they are written. -/
import Derived.Test.YtdeiehgghhiijaaDoorWanJ
namespace Go.Proofs.YtdeiehgghhiijaaDoor
set_option linter.unusedVariables false
set_option linter.unusedSimpArgs false
set_option linter.unnecessarySimpa false
open Go.RowKit
namespace WanW

theorem ext_str (l : List UInt8) (a b : Nat) : (⟨l.toArray⟩ : ByteArray).extract a b = ⟨((l.drop a).take (b - a)).toArray⟩ := by
  apply ByteArray.ext
  simp [ByteArray.extract, ByteArray.copySlice]
theorem bef_at (c : UInt8) (s : List UInt8) (k : Nat) (hk : k < s.length) (h0 : ∀ j (h : j < k), s[j] ≠ c) (h : s[k] = c) : bef c s = s.take k ∧ aft c s = s.drop (k + 1) ∧ s.contains c = true := by
  induction s generalizing k with
  | nil => simp at hk
  | cons b s ih =>
    cases k with
    | zero =>
      have : b = c := by simpa using h
      subst this
      simp [bef, aft]
    | succ k =>
      have hb : b ≠ c := by simpa using h0 0 (by omega)
      have h2 : (b != c) = true := by simp; exact hb
      obtain ⟨i1, i2, i3⟩ := ih k (by simpa using hk) (fun j hj => by simpa using h0 (j + 1) (by omega)) (by simpa using h)
      refine ⟨?_, ?_, ?_⟩
      · rw [bef, List.takeWhile_cons, h2]; simp only [if_true, List.take_succ_cons]; rw [← i1]; rfl
      · rw [aft, List.dropWhile_cons, h2]; simp only [if_true, List.drop_succ_cons]; rw [← i2]; rfl
      · simp [List.contains_cons, i3]; right; simpa using i3
theorem no_contains (c : UInt8) (s : List UInt8) (h : ∀ j (h : j < s.length), s[j] ≠ c) : s.contains c = false := by
  rw [Bool.eq_false_iff]
  intro hh
  obtain ⟨j, hj, e⟩ := List.getElem_of_mem (List.contains_iff_mem.1 hh)
  exact h j hj e
end WanW
end Go.Proofs.YtdeiehgghhiijaaDoor
