/- Plain: two rows of records, one behind the other. -/
import Derived.Test.YtnghmcadhjneeaaRecJ
namespace Go.Proofs.Ytnghmcadhjneeaa
set_option linter.unusedVariables false
set_option linter.unusedSimpArgs false
set_option linter.unnecessarySimpa false

theorem rowFrom_some {p : Rc} {l : List Rc} (h : rowFrom (some p) l = 0) : rowN l = 0 := by
  cases l with
  | nil => rfl
  | cons x r =>
    unfold rowFrom at h
    unfold rowN rowFrom
    by_cases hx : okR x = true
    · rw [if_pos hx] at h ⊢
      dsimp only at h ⊢
      split at h
      · exact h
      · cases h
    · rw [if_neg hx] at h; cases h
theorem rowFrom_cons (p : Option Rc) (x : Rc) (l : List Rc) : rowFrom p (x :: l) = if okR x then (match p with | none => rowFrom (some x) l | some q => if nextB q x then rowFrom (some x) l else 151) else 150 := by
  cases p <;> rfl
theorem rowFrom_app (a b : List Rc) : ∀ (p : Option Rc), rowFrom p (a ++ b) = 0 ↔ rowFrom p a = 0 ∧ rowFrom (match a.getLast? with | some q => some q | none => p) b = 0 := by
  induction a with
  | nil => intro p; simp [rowFrom]
  | cons x r ih =>
    intro p
    rw [List.cons_append, rowFrom_cons, rowFrom_cons]
    have hl : (match (x :: r).getLast? with | some q => some q | none => p) = (match r.getLast? with | some q => some q | none => some x) := by
      cases r with
      | nil => rfl
      | cons y s => rw [List.getLast?_cons_cons]; cases h : (y :: s).getLast? with
        | none => simp at h
        | some q => rfl
    rw [hl]
    by_cases hx : okR x = true
    · rw [if_pos hx, if_pos hx]
      cases p with
      | none => exact ih (some x)
      | some q =>
        dsimp only
        by_cases hn : nextB q x = true
        · rw [if_pos hn, if_pos hn]
          exact ih (some x)
        · rw [if_neg hn, if_neg hn]
          simp
    · rw [if_neg hx, if_neg hx]
      simp
theorem last_get {l : List Rc} (h : 0 < l.length) : l.getLast? = some (l[l.length - 1]'(by omega)) := by
  rw [List.getLast?_eq_getElem?, List.getElem?_eq_getElem (by omega)]
theorem row_app {a b : List Rc} (ha : 0 < a.length) (hb : 0 < b.length) :
    rowN (a ++ b) = 0 ↔ rowN a = 0 ∧ rowN b = 0 ∧ b[0].1 = (a[a.length - 1]'(by omega)).1 + 1 ∧ (a[a.length - 1]'(by omega)).2.1 ≤ b[0].2.1 := by
  unfold rowN
  rw [rowFrom_app, last_get ha]
  dsimp only
  constructor
  · rintro ⟨h1, h2⟩
    refine ⟨h1, rowFrom_some h2, ?_⟩
    match b, hb with
    | x :: r, _ =>
      unfold rowFrom at h2
      by_cases hx : okR x = true
      · rw [if_pos hx] at h2
        dsimp only at h2
        split at h2
        · rename_i hn
          simpa [nextB] using hn
        · cases h2
      · rw [if_neg hx] at h2; cases h2
  · rintro ⟨h1, h2, h3, h4⟩
    refine ⟨h1, ?_⟩
    match b, hb with
    | x :: r, _ =>
      unfold rowFrom at h2 ⊢
      by_cases hx : okR x = true
      · rw [if_pos hx] at h2 ⊢
        dsimp only at h2 ⊢
        rw [if_pos (by simp only [nextB, Bool.and_eq_true, decide_eq_true_eq]; exact ⟨h3, h4⟩)]
        exact h2
      · rw [if_neg hx] at h2; cases h2
theorem last_ok {a : List Rc} (ha : 0 < a.length) (h : rowN a = 0) : 1 ≤ (a[a.length - 1]'(by omega)).1 :=
  ((okR_iff _).1 (rowFrom_ok h _ (List.getElem_mem _))).1
theorem join_app_ok {a b : List Rc} (ha : 0 < a.length) (hb : 0 < b.length) (h : (joinV (a ++ b)).2 = 0) :
    rowN a = 0 ∧ rowN b = 0 ∧ joinV a = (flatR a, 0) ∧ joinV b = (flatR b, 0) ∧ joinV (a ++ b) = (flatR a ++ flatR b, 0) := by
  by_cases hr : rowN (a ++ b) = 0
  · obtain ⟨h1, h2, _⟩ := (row_app ha hb).1 hr
    by_cases hbig : 20000 < (flatR (a ++ b)).length
    · rw [joinV_big hr hbig] at h; cases h
    · have hl := flatR_append a b
      have hl2 := congrArg List.length hl
      rw [List.length_append] at hl2
      exact ⟨h1, h2, joinV_yes h1 (by omega), joinV_yes h2 (by omega), by rw [joinV_yes hr hbig, hl]⟩
  · rw [joinV_bad hr] at h; exact absurd h hr
theorem join_app_big {a b : List Rc} (hr : rowN (a ++ b) = 0) (h : (joinV (a ++ b)).2 ≠ 0) (h1 : joinV a = (flatR a, 0)) (h2 : joinV b = (flatR b, 0)) :
    (joinV (a ++ b)).2 = 3 ∧ 20000 < (joinV a).1.length + (joinV b).1.length := by
  by_cases hbig : 20000 < (flatR (a ++ b)).length
  · have hl := flatR_append a b
    have hl2 := congrArg List.length hl
    rw [List.length_append] at hl2
    rw [joinV_big hr hbig, h1, h2]
    exact ⟨rfl, by dsimp only; omega⟩
  · rw [joinV_yes hr hbig] at h; exact absurd rfl h
theorem joinV_big3 {l : List Rc} (hr : rowN l = 0) (h : (joinV l).2 ≠ 0) : (joinV l).2 = 3 := by
  by_cases hbig : 20000 < (flatR l).length
  · rw [joinV_big hr hbig]
  · rw [joinV_yes hr hbig] at h; exact absurd rfl h
end Go.Proofs.Ytnghmcadhjneeaa
