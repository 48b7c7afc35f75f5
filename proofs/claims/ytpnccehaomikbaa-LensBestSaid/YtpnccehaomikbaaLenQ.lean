/- Package lens, plainly: a row that is sorted, none of equal ones ahead of its elder. -/
import Derived.Test.YtpnccehaomikbaaLenJ
namespace Go.Proofs.Ytpnccehaomikbaa
set_option linter.unusedVariables false
set_option linter.unusedSimpArgs false
set_option linter.unnecessarySimpa false
open Go.RowKit
namespace LenW

/-- Those that weigh v, as they stand. -/
def keyF (v : Int) (l : List (Int × Int)) : List (Int × Int) := l.filter fun x => decide (x.1 = v)
theorem keyF_app (v : Int) (a b : List (Int × Int)) : keyF v (a ++ b) = keyF v a ++ keyF v b := by simp [keyF]
theorem keyF_cons (v : Int) (x : Int × Int) (l : List (Int × Int)) : keyF v (x :: l) = (if x.1 = v then [x] else []) ++ keyF v l := by
  unfold keyF
  rw [List.filter_cons]
  by_cases h : x.1 = v <;> simp [h]
theorem keyF_no (v : Int) (l : List (Int × Int)) (h : ∀ x ∈ l, x.1 ≠ v) : keyF v l = [] := by
  unfold keyF
  rw [List.filter_eq_nil_iff]
  intro x hx
  simpa using h x hx
theorem keyF_ins (v : Int) (x : Int × Int) (l : List (Int × Int)) (h : upW l) : keyF v (insW x l) = keyF v l ++ (if x.1 = v then [x] else []) := by
  induction l with
  | nil => show keyF v [x] = _; rw [keyF_cons]; simp [keyF]
  | cons y r ih =>
    unfold upW at h
    obtain ⟨h1, h2⟩ := List.pairwise_cons.1 h
    unfold insW
    split
    · rename_i hlt
      rw [keyF_cons]
      by_cases hv : x.1 = v
      · have : keyF v (y :: r) = [] := keyF_no _ _ (fun z hz => by
          rcases List.mem_cons.1 hz with rfl | hz
          · omega
          · have := h1 z hz; omega)
        rw [this]
        simp
      · simp [hv]
    · rw [keyF_cons, ih h2, keyF_cons, List.append_assoc]
theorem keyF_sort (v : Int) (l : List (Int × Int)) : keyF v (sortW l) = keyF v l := by
  suffices ∀ n (l : List (Int × Int)), l.length = n → keyF v (sortW l) = keyF v l from this l.length l rfl
  intro n
  induction n with
  | zero => intro l h; obtain rfl := List.length_eq_zero_iff.1 h; rfl
  | succ n ih =>
    intro l h
    obtain ⟨a, x, rfl⟩ : ∃ a x, l = a ++ [x] := ⟨l.dropLast, l.getLast (by intro e; subst e; simp at h), (List.dropLast_concat_getLast _).symm⟩
    rw [sortW_snoc, keyF_ins v x _ (sortW_up a), ih a (by simpa using h), keyF_app]
    congr 1
    rw [keyF_cons]
    simp [keyF]
theorem keyF_mem {v : Int} {x : Int × Int} {l : List (Int × Int)} : x ∈ keyF v l ↔ x ∈ l ∧ x.1 = v := by simp [keyF]
/-- There is but one such row. -/
theorem up_unique (X : List (Int × Int)) : ∀ (Y : List (Int × Int)), upW X → upW Y → (∀ v, keyF v X = keyF v Y) → X = Y := by
  induction X with
  | nil =>
    intro Y _ _ h
    cases Y with
    | nil => rfl
    | cons y Y =>
      have : y ∈ keyF y.1 ([] : List (Int × Int)) := by rw [h y.1]; exact keyF_mem.2 ⟨by simp, rfl⟩
      simp [keyF] at this
  | cons x X ih =>
    intro Y hX hY h
    cases Y with
    | nil =>
      have : x ∈ keyF x.1 ([] : List (Int × Int)) := by rw [← h x.1]; exact keyF_mem.2 ⟨by simp, rfl⟩
      simp [keyF] at this
    | cons y Y =>
      obtain ⟨x1, x2⟩ := List.pairwise_cons.1 hX
      obtain ⟨y1, y2⟩ := List.pairwise_cons.1 hY
      have m1 : x ∈ y :: Y := (keyF_mem.1 (by rw [← h x.1]; exact keyF_mem.2 ⟨by simp, rfl⟩ : x ∈ keyF x.1 (y :: Y))).1
      have m2 : y ∈ x :: X := (keyF_mem.1 (by rw [h y.1]; exact keyF_mem.2 ⟨by simp, rfl⟩ : y ∈ keyF y.1 (x :: X))).1
      have e1 : y.1 ≤ x.1 := by
        rcases List.mem_cons.1 m1 with e | e
        · rw [e]; omega
        · exact y1 x e
      have e2 : x.1 ≤ y.1 := by
        rcases List.mem_cons.1 m2 with e | e
        · rw [e]; omega
        · exact x1 y e
      have hk := h x.1
      rw [keyF_cons, keyF_cons, if_pos rfl, if_pos (by omega)] at hk
      simp only [List.cons_append, List.nil_append, List.cons.injEq] at hk
      obtain ⟨rfl, hk2⟩ := hk
      congr 1
      refine ih Y x2 y2 (fun v => ?_)
      have := h v
      rw [keyF_cons, keyF_cons] at this
      exact List.append_cancel_left this
theorem sort_eq (l Y : List (Int × Int)) (hY : upW Y) (h : ∀ v, keyF v l = keyF v Y) : sortW l = Y := up_unique _ _ (sortW_up l) hY (fun v => by rw [keyF_sort, h])
theorem sort_self {l : List (Int × Int)} (h : upW l) : sortW l = l := sort_eq l l h (fun _ => rfl)
theorem sort_two (X Y : List (Int × Int)) : sortW (sortW X ++ sortW Y) = sortW (X ++ Y) := sort_eq _ _ (sortW_up _) (fun v => by rw [keyF_sort, keyF_app, keyF_app, keyF_sort, keyF_sort])
theorem sort_mem {x : Int × Int} {l : List (Int × Int)} : x ∈ sortW l ↔ x ∈ l := (sortW_perm l).mem_iff
/-- Two rows are parted, each at a place, so that they may be sorted part by part. -/
theorem sort_parts (A1 A2 B1 B2 : List (Int × Int)) (hA : upW (A1 ++ A2)) (hB : upW (B1 ++ B2)) (h1 : ∀ x ∈ A1, ∀ y ∈ B2, x.1 ≤ y.1) (h2 : ∀ x ∈ B1, ∀ y ∈ A2, x.1 < y.1) :
    sortW (A1 ++ A2 ++ (B1 ++ B2)) = sortW (A1 ++ B1) ++ sortW (A2 ++ B2) := by
  have hA' := (List.pairwise_append.1 hA).2.2
  have hB' := (List.pairwise_append.1 hB).2.2
  refine sort_eq _ _ ?_ (fun v => ?_)
  · refine List.pairwise_append.2 ⟨sortW_up _, sortW_up _, fun x hx y hy => ?_⟩
    rcases List.mem_append.1 (sort_mem.1 hx) with hx | hx <;> rcases List.mem_append.1 (sort_mem.1 hy) with hy | hy
    · exact hA' x hx y hy
    · exact h1 x hx y hy
    · exact Int.le_of_lt (h2 x hx y hy)
    · exact hB' x hx y hy
  · rw [keyF_app v (sortW _), keyF_sort, keyF_sort]
    simp only [keyF_app, List.append_assoc]
    congr 1
    rw [← List.append_assoc, ← List.append_assoc]
    congr 1
    by_cases hn : keyF v A2 = []
    · rw [hn]; simp
    · obtain ⟨y, hy⟩ := List.exists_mem_of_ne_nil _ hn
      have : keyF v B1 = [] := keyF_no _ _ (fun x hx e => by
        have h := h2 x hx y (keyF_mem.1 hy).1
        have := (keyF_mem.1 hy).2
        omega)
      rw [this]; simp
/-- One ahead of a row. -/
theorem sort_first (x : Int × Int) (B1 B2 : List (Int × Int)) (hB : upW (B1 ++ B2)) (h1 : ∀ y ∈ B1, y.1 < x.1) (h2 : ∀ y ∈ B2, x.1 ≤ y.1) : sortW (x :: (B1 ++ B2)) = B1 ++ x :: B2 := by
  have := sort_parts [] [x] B1 B2 (by unfold upW; simp) hB (by simp) (fun y hy z hz => by simp at hz; subst hz; exact h1 y hy)
  simp only [List.nil_append, List.singleton_append] at this
  rw [this, sort_self (List.pairwise_append.1 hB).1, sort_self]
  unfold upW
  exact List.pairwise_cons.2 ⟨fun y hy => h2 y hy, (List.pairwise_append.1 hB).2.1⟩
/-- One behind a row. -/
theorem sort_last (y : Int × Int) (A1 A2 : List (Int × Int)) (hA : upW (A1 ++ A2)) (h1 : ∀ x ∈ A1, x.1 ≤ y.1) (h2 : ∀ x ∈ A2, y.1 < x.1) : sortW (A1 ++ A2 ++ [y]) = A1 ++ y :: A2 := by
  have := sort_parts A1 A2 [y] [] hA (by unfold upW; simp) (by simp) (fun x hx z hz => by simp at hx; subst hx; exact h2 z hz)
  simp only [List.append_nil] at this
  rw [this]
  have e1 : sortW (A1 ++ [y]) = A1 ++ [y] := sort_self (by unfold upW; exact List.pairwise_append.2 ⟨(List.pairwise_append.1 hA).1, by simp, fun x hx z hz => by simp at hz; subst hz; exact h1 x hx⟩)
  rw [e1, sort_self (List.pairwise_append.1 hA).2.1]
  simp
end LenW
end Go.Proofs.Ytpnccehaomikbaa
