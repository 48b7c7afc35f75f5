/- Plain: rows of things, as the best lengths take them. No program is named here. -/
import Derived.Test.YtdfclgpkhfpkhaaLenP
import Derived.Test.YtdfclgpkhfpkhaaBitQ
namespace Go.Proofs.Ytdfclgpkhfpkhaa
set_option linter.unusedVariables false
set_option linter.unusedSimpArgs false
set_option linter.unnecessarySimpa false
open Go.RowKit
namespace LenW

/-- Into a row, behind all that weigh as much or less. -/
def insW (x : Int × Int) : List (Int × Int) → List (Int × Int)
  | [] => [x]
  | y :: r => if x.1 < y.1 then x :: y :: r else y :: insW x r
def sortW (l : List (Int × Int)) : List (Int × Int) := l.foldl (fun a x => insW x a) []
theorem insW_len (x : Int × Int) (l : List (Int × Int)) : (insW x l).length = l.length + 1 := by
  induction l with
  | nil => rfl
  | cons y r ih =>
    unfold insW
    split
    · rfl
    · simp only [List.length_cons, ih]
theorem sortW_snoc (l : List (Int × Int)) (x : Int × Int) : sortW (l ++ [x]) = insW x (sortW l) := by simp [sortW]
theorem sortW_len (l : List (Int × Int)) : (sortW l).length = l.length := by
  suffices ∀ n (l : List (Int × Int)), l.length = n → (sortW l).length = n from this l.length l rfl
  intro n
  induction n with
  | zero => intro l h; obtain rfl := List.length_eq_zero_iff.1 h; rfl
  | succ n ih =>
    intro l h
    obtain ⟨a, x, rfl⟩ : ∃ a x, l = a ++ [x] := ⟨l.dropLast, l.getLast (by intro e; subst e; simp at h), (List.dropLast_concat_getLast _).symm⟩
    rw [sortW_snoc, insW_len, ih a (by simpa using h)]
/-- Weights do not fall. -/
def upW (l : List (Int × Int)) : Prop := l.Pairwise fun a b => a.1 ≤ b.1
theorem insW_mem {x y : Int × Int} {l : List (Int × Int)} (h : y ∈ insW x l) : y = x ∨ y ∈ l := by
  induction l with
  | nil => simp [insW] at h; exact .inl h
  | cons z r ih =>
    unfold insW at h
    split at h
    · rcases List.mem_cons.1 h with h | h
      · exact .inl h
      · exact .inr h
    · rcases List.mem_cons.1 h with h | h
      · exact .inr (by rw [h]; simp)
      · rcases ih h with h | h
        · exact .inl h
        · exact .inr (by simp [h])
theorem insW_up (x : Int × Int) (l : List (Int × Int)) (h : upW l) : upW (insW x l) := by
  induction l with
  | nil => simp [insW, upW]
  | cons y r ih =>
    unfold upW at h ih ⊢
    rw [List.pairwise_cons] at h
    unfold insW
    split
    · rename_i hlt
      rw [List.pairwise_cons]
      refine ⟨fun b hb => ?_, by rw [List.pairwise_cons]; exact h⟩
      rcases List.mem_cons.1 hb with rfl | hb
      · omega
      · have := h.1 b hb; omega
    · rename_i hlt
      rw [List.pairwise_cons]
      refine ⟨fun b hb => ?_, ih h.2⟩
      rcases insW_mem hb with rfl | hb
      · omega
      · exact h.1 b hb
theorem sortW_up (l : List (Int × Int)) : upW (sortW l) := by
  suffices ∀ n (l : List (Int × Int)), l.length = n → upW (sortW l) from this l.length l rfl
  intro n
  induction n with
  | zero => intro l h; obtain rfl := List.length_eq_zero_iff.1 h; exact List.Pairwise.nil
  | succ n ih =>
    intro l h
    obtain ⟨a, x, rfl⟩ : ∃ a x, l = a ++ [x] := ⟨l.dropLast, l.getLast (by intro e; subst e; simp at h), (List.dropLast_concat_getLast _).symm⟩
    rw [sortW_snoc]
    exact insW_up _ _ (ih a (by simpa using h))
/-- A thing goes between what weighs as much or less and what weighs more. -/
theorem insW_split (x : Int × Int) (A B : List (Int × Int)) (hA : ∀ a ∈ A, a.1 ≤ x.1) (hB : ∀ b, B.head? = some b → x.1 < b.1) : insW x (A ++ B) = A ++ x :: B := by
  induction A with
  | nil =>
    cases B with
    | nil => rfl
    | cons b B =>
      have := hB b rfl
      show insW x (b :: B) = _
      rw [insW, if_pos this]
      rfl
  | cons a A ih =>
    have ha := hA a (by simp)
    rw [List.cons_append, insW, if_neg (by omega), ih (fun b hb => hA b (by simp [hb]))]
    rfl
/-- The symbols that come, with how often they do, as they stand. -/
def lvsK (l : List Int) (k : Nat) : List (Int × Int) := (List.range k).filterMap fun i : Nat => if 0 < l[i]?.getD 0 then some (l[i]?.getD 0, (i : Int)) else none
theorem lvsK_succ (l : List Int) (k : Nat) (h : k < l.length) : lvsK l (k + 1) = lvsK l k ++ (if 0 < l[k] then [(l[k], (k : Int))] else []) := by
  unfold lvsK
  rw [List.range_succ, List.filterMap_append]
  congr 1
  simp only [List.filterMap_cons, List.filterMap_nil, List.getElem?_eq_getElem h, Option.getD_some]
  split
  · rename_i h2
    split at h2
    · simp at h2
    · rename_i h3; rw [if_neg h3]
  · rename_i y h2
    split at h2
    · rename_i h3; rw [if_pos h3]; simp at h2; rw [h2]
    · simp at h2
theorem lvsK_len (l : List Int) (k : Nat) (h : k ≤ l.length) : (lvsK l k).length = usedL (l.take k) := by
  induction k with
  | zero => simp [lvsK, usedL]
  | succ k ih =>
    rw [lvsK_succ l k h, List.length_append, ih (by omega), usedL_snoc l k h]
    split <;> rfl
def lvs (l : List Int) : List (Int × Int) := sortW (lvsK l l.length)
theorem lvs_len (l : List Int) : (lvs l).length = usedL l := by
  unfold lvs
  rw [sortW_len, lvsK_len l _ (Nat.le_refl _), List.take_length]
/-- Two by two. -/
def pkgs : Nat → List (Int × Int) → List (Int × Int)
  | i, a :: b :: r => (a.1 + b.1, -1 - (i : Int)) :: pkgs (i + 1) r
  | _, _ => []
theorem pkgs_len (l : List (Int × Int)) : ∀ i, (pkgs i l).length = l.length / 2 := by
  suffices ∀ n (l : List (Int × Int)), l.length ≤ n → ∀ i, (pkgs i l).length = l.length / 2 from this l.length l (Nat.le_refl _)
  intro n
  induction n with
  | zero => intro l h i; obtain rfl := List.length_eq_zero_iff.1 (Nat.le_zero.1 h); simp [pkgs]
  | succ n ih =>
    intro l h i
    match l with
    | [] => simp [pkgs]
    | [a] => simp [pkgs]
    | a :: b :: r =>
      simp only [List.length_cons] at h
      rw [pkgs]
      simp only [List.length_cons]
      rw [ih r (by omega)]
      omega
/-- Two rows as one, the first one's ahead. -/
def mrgIn (x : Int × Int) (f : List (Int × Int) → List (Int × Int)) : List (Int × Int) → List (Int × Int)
  | [] => x :: f []
  | y :: b => if x.1 ≤ y.1 then x :: f (y :: b) else y :: mrgIn x f b
def mrg : List (Int × Int) → List (Int × Int) → List (Int × Int)
  | [] => fun b => b
  | x :: a => mrgIn x (mrg a)
theorem mrg_nil (b : List (Int × Int)) : mrg [] b = b := rfl
theorem mrg_cons (x y : Int × Int) (a b : List (Int × Int)) : mrg (x :: a) (y :: b) = if x.1 ≤ y.1 then x :: mrg a (y :: b) else y :: mrg (x :: a) b := rfl
theorem mrg_right (a : List (Int × Int)) : mrg a [] = a := by
  induction a with
  | nil => rfl
  | cons x a ih => show x :: mrg a [] = x :: a; rw [ih]
theorem mrg_len (a b : List (Int × Int)) : (mrg a b).length = a.length + b.length := by
  suffices ∀ n (a b : List (Int × Int)), a.length + b.length ≤ n → (mrg a b).length = a.length + b.length from this _ a b (Nat.le_refl _)
  intro n
  induction n with
  | zero =>
    intro a b h
    obtain rfl := List.length_eq_zero_iff.1 (show a.length = 0 by omega)
    simp [mrg]
  | succ n ih =>
    intro a b h
    match a, b with
    | [], b => simp [mrg]
    | x :: a, [] => rw [mrg_right]; simp
    | x :: a, y :: b =>
      simp only [List.length_cons] at h
      rw [mrg_cons]
      split
      · simp only [List.length_cons]
        rw [ih a (y :: b) (by simp only [List.length_cons]; omega)]
        simp only [List.length_cons]; omega
      · simp only [List.length_cons]
        rw [ih (x :: a) b (by simp only [List.length_cons]; omega)]
        simp only [List.length_cons]; omega
/-- The rows. -/
def rowW (first : List (Int × Int)) : Nat → List (Int × Int)
  | 0 => first
  | m + 1 => mrg first (pkgs 0 (rowW first m))
theorem rowW_len (first : List (Int × Int)) (m : Nat) : (rowW first (m + 1)).length = first.length + (rowW first m).length / 2 := by rw [rowW, mrg_len, pkgs_len]
theorem rowW_room (first : List (Int × Int)) (most : Nat) (h : first.length ≤ 2 ^ most) : ∀ m, m < most → 2 * first.length ≤ (rowW first m).length + 2 ^ (most - m) := by
  intro m
  induction m with
  | zero => intro _; show 2 * first.length ≤ first.length + _; rw [Nat.sub_zero]; omega
  | succ m ih =>
    intro hm
    have h1 := ih (by omega)
    rw [rowW_len]
    rw [show most - m = (most - (m + 1)) + 1 by omega, Nat.pow_succ] at h1
    omega
theorem rowW_le (first : List (Int × Int)) (m : Nat) : (rowW first m).length ≤ 2 * first.length := by
  induction m with
  | zero => show first.length ≤ _; omega
  | succ m ih => rw [rowW_len]; omega
/-- Things of a row: each leaf's symbol has one more; how many are packages. -/
def bumpL (L : List Int) (x : Int × Int) : List Int := if x.2 < 0 then L else L.set x.2.toNat (L[x.2.toNat]?.getD 0 + 1)
def packsW (l : List (Int × Int)) : Nat := (l.filter fun x => decide (x.2 < 0)).length
/-- i rows are left. -/
def takenW (first : List (Int × Int)) : Nat → Nat → List Int → List Int
  | 0, _, L => L
  | i + 1, n, L => if n = 0 then L else takenW first i (2 * packsW ((rowW first i).take n)) (((rowW first i).take n).foldl bumpL L)
def bestW (l : List Int) (most : Nat) : List Int :=
  if usedL l < 2 then (lvs l).foldl (fun L x => L.set x.2.toNat 1) (List.replicate l.length 0)
  else takenW (lvs l) most (2 * usedL l - 2) (List.replicate l.length 0)
/-- Why counts may not be. -/
def refuseW (l : List Int) (most : Int) : Int :=
  if 257 < l.length then 3 else if most < 1 ∨ 15 < most ∨ l.any (fun n => decide (n < 0) || decide (1000000 < n)) = true then 2 else if 2 ^ most.toNat < usedL l then 3 else 0
example : bestW [1, 1, 2, 4] 15 = [3, 3, 2, 1] := by decide +kernel
example : bestW [1, 1, 2, 4] 2 = [2, 2, 2, 2] := by decide +kernel
end LenW
end Go.Proofs.Ytdfclgpkhfpkhaa
