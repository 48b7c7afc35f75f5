/- Plain facts: ranks and bytes come back of each other. No program is named here. -/
import Derived.Test.YtehlgpfkpagaeaaFrontY
namespace Go.Proofs.Ytehlgpfkpagaeaa
set_option linter.unusedVariables false
set_option linter.unusedSimpArgs false
set_option linter.unnecessarySimpa false
open Go.RowKit
namespace FrontW

theorem snoc_ind {α : Type} {p : List α → Prop} (h0 : p []) (h1 : ∀ l a, p l → p (l ++ [a])) (l : List α) : p l := by
  have h : ∀ m : List α, p m.reverse := by
    intro m
    induction m with
    | nil => exact h0
    | cons a m ih => rw [List.reverse_cons]; exact h1 _ _ ih
  have := h l.reverse
  rwa [List.reverse_reverse] at this
theorem runR_app (s : List UInt8) (b : UInt8) : runR (s ++ [b]) = stepR (runR s) b := by rw [runR, List.foldl_append]; rfl
theorem runT_app (l : List Int) (n : Int) : runT (l ++ [n]) = stepT (runT l) n := by rw [runT, List.foldl_append]; rfl
theorem get_idx {r : List UInt8} {b : UInt8} (h : b ∈ r) : r.getD (r.idxOf b) 0 = b := by
  have h1 := List.idxOf_lt_length_of_mem h
  rw [List.getD, List.getElem?_eq_getElem h1, Option.getD_some]
  exact List.getElem_idxOf h1
theorem idx_get {r : List UInt8} (h : r.Nodup) {k : Nat} (hk : k < r.length) : r.idxOf (r.getD k 0) = k := by
  rw [List.getD, List.getElem?_eq_getElem hk, Option.getD_some]
  exact h.idxOf_getElem k hk
theorem runR_ok (s : List UInt8) : okT (runR s).2 := by
  refine snoc_ind (p := fun s => okT (runR s).2) (fun n hn => absurd hn List.not_mem_nil) (fun s b ih => ?_) s
  rw [runR_app]
  intro n hn
  rcases List.mem_append.1 hn with hn | hn
  · exact ih n hn
  · obtain rfl := List.mem_singleton.1 hn
    have := (runR_full s).idx b
    omega
theorem back1 (s : List UInt8) : runT (runR s).2 = ((runR s).1, s) := by
  refine snoc_ind (p := fun s => runT (runR s).2 = ((runR s).1, s)) rfl (fun s b ih => ?_) s
  rw [runR_app]
  show runT ((runR s).2 ++ [_]) = _
  rw [runT_app, ih]
  simp only [stepT, stepR, Int.toNat_natCast]
  rw [get_idx ((runR_full s).mem b)]
theorem back2 (l : List Int) (h : okT l) : runR (runT l).2 = ((runT l).1, l) := by
  revert h
  refine snoc_ind (p := fun l => okT l → runR (runT l).2 = ((runT l).1, l)) (fun _ => rfl) (fun l n ih h => ?_) l
  have h0 : okT l := fun m hm => h m (List.mem_append_left _ hm)
  obtain ⟨h1, h2⟩ := h n (by simp)
  have hF := runT_full l h0
  rw [runT_app]
  show runR ((runT l).2 ++ [_]) = _
  rw [runR_app, ih h0]
  simp only [stepT, stepR]
  rw [idx_get hF.nodup (by rw [hF.len]; omega), Int.toNat_of_nonneg h1]
theorem text_back (s : List UInt8) : textS (runR s).2 = (s, 0) := by
  rw [textS, if_pos ((okB_iff _).2 (runR_ok s)), back1]
end FrontW
end Go.Proofs.Ytehlgpfkpagaeaa
