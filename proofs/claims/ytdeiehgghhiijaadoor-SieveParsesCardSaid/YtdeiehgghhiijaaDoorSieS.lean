/- Plain: sentences: what may meet one; the reference's list of parts. -/
import Derived.Test.YtdeiehgghhiijaaDoorSieQ
import Derived.Test.YtdeiehgghhiijaaDoorSpanD
namespace Go.Proofs.YtdeiehgghhiijaaDoor
set_option linter.unusedVariables false
set_option linter.unusedSimpArgs false
set_option linter.unnecessarySimpa false
open Go.RowKit
namespace SieW
open SpanW (meetsB withinB)
mutual
/-- A part may be true (or, of no, may be false) of a record of a block. -/
def mayN (sq tk : SpanW.R) : Nd → Bool → Bool
  | .within k lo hi, yes => if k = 2 then true else if yes then meetsB (if k = 0 then sq else tk) (lo, hi) else !withinB (if k = 0 then sq else tk) (lo, hi)
  | .has _, _ => true
  | .all, yes => yes
  | .not n, yes => mayN sq tk n (!yes)
  | .row o l, yes => mayL sq tk o l yes
def mayL (sq tk : SpanW.R) (o : Bool) : List Nd → Bool → Bool
  | [], yes => !(o == yes)
  | a :: l, yes => if mayN sq tk a yes = (o == yes) then (o == yes) else mayL sq tk o l yes
end
theorem mayL_or (sq tk : SpanW.R) (o yes : Bool) (l : List Nd) (h : (o == yes) = true) : mayL sq tk o l yes = l.any fun x => mayN sq tk x yes := by
  induction l with
  | nil => simp [mayL, h]
  | cons a l ih => simp only [mayL, ih, List.any_cons, h]; cases mayN sq tk a yes <;> simp
theorem mayL_and (sq tk : SpanW.R) (o yes : Bool) (l : List Nd) (h : (o == yes) = false) : mayL sq tk o l yes = l.all fun x => mayN sq tk x yes := by
  induction l with
  | nil => simp [mayL, h]
  | cons a l ih => simp only [mayL, ih, List.all_cons, h]; cases mayN sq tk a yes <;> simp
/-- A part of the reference's list. -/
structure RP where
  word : List UInt8
  lo : Int
  hi : Int
  what : List UInt8
  of_ : List Nat
mutual
/-- The part k of a list is a sentence's part. -/
def Rep (ps : List RP) : Nd → Nat → Prop
  | .within kk lo hi, k => ps[k]? = some ⟨kwS kk, lo, hi, [], []⟩
  | .has s, k => ps[k]? = some ⟨sHas, 0, 0, s, []⟩
  | .all, k => ps[k]? = some ⟨sAll, 0, 0, [], []⟩
  | .not n, k => ∃ j, ps[k]? = some ⟨sNot, 0, 0, [], [j]⟩ ∧ j < k ∧ Rep ps n j
  | .row o l, k => ∃ js, ps[k]? = some ⟨byW o, 0, 0, [], js⟩ ∧ (∀ j ∈ js, j < k) ∧ Reps ps l js
def Reps (ps : List RP) : List Nd → List Nat → Prop
  | [], js => js = []
  | a :: l, js => ∃ j r, js = j :: r ∧ Rep ps a j ∧ Reps ps l r
end
theorem get_app {α : Type} {ps qs : List α} {k : Nat} {x : α} (h : ps[k]? = some x) : (ps ++ qs)[k]? = some x := by
  rw [List.getElem?_append_left (List.getElem?_eq_some_iff.1 h).1, h]
mutual
theorem Rep.more (ps qs : List RP) : ∀ (n : Nd) (k : Nat), Rep ps n k → Rep (ps ++ qs) n k
  | .within _ _ _, k, h => get_app h
  | .has _, k, h => get_app h
  | .all, k, h => get_app h
  | .not n, k, h => by
    obtain ⟨j, h1, h2, h3⟩ := h
    exact ⟨j, get_app h1, h2, Rep.more ps qs n j h3⟩
  | .row o l, k, h => by
    obtain ⟨js, h1, h2, h3⟩ := h
    exact ⟨js, get_app h1, h2, Reps.more ps qs l js h3⟩
theorem Reps.more (ps qs : List RP) : ∀ (l : List Nd) (js : List Nat), Reps ps l js → Reps (ps ++ qs) l js
  | [], js, h => h
  | a :: l, js, h => by
    obtain ⟨j, r, h1, h2, h3⟩ := h
    exact ⟨j, r, h1, Rep.more ps qs a j h2, Reps.more ps qs l r h3⟩
end
theorem Reps.app {ps : List RP} : ∀ {a b : List Nd} {js ks : List Nat}, Reps ps a js → Reps ps b ks → Reps ps (a ++ b) (js ++ ks)
  | [], b, js, ks, h, h2 => by have e : js = [] := h; subst e; exact h2
  | x :: a, b, js, ks, h, h2 => by
    obtain ⟨j, r, rfl, h3, h4⟩ := h
    exact ⟨j, r ++ ks, rfl, h3, h4.app h2⟩
theorem Reps.len {ps : List RP} : ∀ {a : List Nd} {js : List Nat}, Reps ps a js → js.length = a.length
  | [], js, h => by have e : js = [] := h; subst e; rfl
  | x :: a, js, h => by
    obtain ⟨j, r, rfl, h3, h4⟩ := h
    simp [h4.len]
theorem Reps.at_ {ps : List RP} : ∀ {a : List Nd} {js : List Nat}, Reps ps a js → ∀ i (h1 : i < a.length) (h2 : i < js.length), Rep ps a[i] js[i]
  | [], js, h, i, h1, h2 => by simp at h1
  | x :: a, js, h, i, h1, h2 => by
    obtain ⟨j, r, rfl, h3, h4⟩ := h
    cases i with
    | zero => exact h3
    | succ i => exact h4.at_ i (by simp at h1; omega) (by simp at h2; omega)
theorem Rep.lt {ps : List RP} {n : Nd} {k : Nat} (h : Rep ps n k) : k < ps.length := by
  cases n with
  | within _ _ _ => exact (List.getElem?_eq_some_iff.1 h).1
  | has _ => exact (List.getElem?_eq_some_iff.1 h).1
  | all => exact (List.getElem?_eq_some_iff.1 h).1
  | not n => obtain ⟨j, h1, _⟩ := h; exact (List.getElem?_eq_some_iff.1 h1).1
  | row o l => obtain ⟨j, h1, _⟩ := h; exact (List.getElem?_eq_some_iff.1 h1).1
/-- Of a row of one kind its own parts' numbers, else its number. -/
def flatR (ps : List RP) (o : Bool) (k : Nat) : List Nat := if ((ps[k]?.map (·.word)).getD [] = byW o) then (ps[k]?.map (·.of_)).getD [] else [k]
theorem Rep.word {ps : List RP} {n : Nd} {k : Nat} (h : Rep ps n k) (o : Bool) : ((ps[k]?.map (·.word)).getD [] = byW o) ↔ ∃ l, n = .row o l := by
  cases n with
  | within kk _ _ => 
    rw [show ps[k]? = _ from h]
    simp only [Option.map_some, Option.getD_some]
    constructor
    · intro e
      exfalso
      revert e
      unfold kwS
      split
      · cases o <;> decide
      · split <;> cases o <;> decide
    · rintro ⟨l, e⟩; cases e
  | has _ =>
    rw [show ps[k]? = _ from h]
    simp only [Option.map_some, Option.getD_some]
    constructor
    · intro e; exfalso; revert e; cases o <;> decide
    · rintro ⟨l, e⟩; cases e
  | all =>
    rw [show ps[k]? = _ from h]
    simp only [Option.map_some, Option.getD_some]
    constructor
    · intro e; exfalso; revert e; cases o <;> decide
    · rintro ⟨l, e⟩; cases e
  | not n =>
    obtain ⟨j, h1, _⟩ := h
    rw [h1]
    simp only [Option.map_some, Option.getD_some]
    constructor
    · intro e; exfalso; revert e; cases o <;> decide
    · rintro ⟨l, e⟩; cases e
  | row o2 l =>
    obtain ⟨j, h1, _⟩ := h
    rw [h1]
    simp only [Option.map_some, Option.getD_some]
    constructor
    · intro e
      have : o2 = o := by revert e; cases o2 <;> cases o <;> first | (intro _; rfl) | (intro e; exact absurd e (by decide))
      subst this; exact ⟨l, rfl⟩
    · rintro ⟨l', e⟩; cases e; rfl
theorem Rep.flat {ps : List RP} {n : Nd} {k : Nat} (h : Rep ps n k) (o : Bool) : Reps ps (flat o n) (flatR ps o k) ∧ ∀ j ∈ flatR ps o k, j ≤ k := by
  have hw := h.word o
  unfold flatR
  by_cases c : ((ps[k]?.map (·.word)).getD [] = byW o)
  · rw [if_pos c]
    obtain ⟨l, rfl⟩ := hw.1 c
    obtain ⟨js, h1, h2, h3⟩ := h
    rw [h1]
    simp only [SieW.flat, if_true, Option.map_some, Option.getD_some]
    exact ⟨h3, fun j hj => by have := h2 j hj; omega⟩
  · rw [if_neg c]
    have hn : notRow o n := by
      cases n with
      | row o2 l => intro e; subst e; exact c (hw.2 ⟨l, rfl⟩)
      | _ => trivial
    rw [flat_not o n hn]
    exact ⟨⟨k, [], rfl, h, rfl⟩, fun j hj => by simp at hj; omega⟩
end SieW
end Go.Proofs.YtdeiehgghhiijaaDoor
