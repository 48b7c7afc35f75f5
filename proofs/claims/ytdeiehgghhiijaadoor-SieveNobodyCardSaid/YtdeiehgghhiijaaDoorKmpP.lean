/- Plain facts of Knuth, Morris and Pratt: the longest beginning that a text ends in. -/
import Derived.Test.YtdeiehgghhiijaaDoorMem
namespace Go.Proofs.YtdeiehgghhiijaaDoor
set_option linter.unusedVariables false
set_option linter.unusedSimpArgs false
set_option linter.unnecessarySimpa false
open Go.RowKit
namespace KmpW

/-- The longest beginning of p, of at most k bytes, that t ends in. -/
def mx (p t : List UInt8) : Nat → Nat
  | 0 => 0
  | k + 1 => if p.take (k + 1) <:+ t then k + 1 else mx p t k
def M (p t : List UInt8) : Nat := mx p t p.length
theorem mx_le (p t : List UInt8) (k : Nat) : mx p t k ≤ k := by
  induction k with
  | zero => exact Nat.le_refl _
  | succ k ih => rw [mx]; split <;> omega
theorem mx_suf (p t : List UInt8) (k : Nat) : p.take (mx p t k) <:+ t := by
  induction k with
  | zero => rw [mx, List.take_zero]; exact List.nil_suffix
  | succ k ih =>
    rw [mx]
    split
    · assumption
    · exact ih
theorem mx_max (p t : List UInt8) (n : Nat) : ∀ k, k ≤ n → p.take k <:+ t → k ≤ mx p t n := by
  induction n with
  | zero => intro k h _; omega
  | succ n ih =>
    intro k h hs
    rw [mx]
    split
    · omega
    · rename_i hn
      rcases Nat.lt_or_ge n k with h1 | h1
      · obtain rfl : k = n + 1 := by omega
        exact absurd hs hn
      · exact ih k h1 hs
theorem M_le (p t : List UInt8) : M p t ≤ p.length := mx_le p t _
theorem M_suf (p t : List UInt8) : p.take (M p t) <:+ t := mx_suf p t _
theorem M_max {p t : List UInt8} {k : Nat} (h : k ≤ p.length) (hs : p.take k <:+ t) : k ≤ M p t := mx_max p t _ k h hs
theorem M_eq {p t : List UInt8} {k : Nat} (h : k ≤ p.length) (hs : p.take k <:+ t) (hm : ∀ j, j ≤ p.length → p.take j <:+ t → j ≤ k) : M p t = k :=
  Nat.le_antisymm (hm _ (M_le p t) (M_suf p t)) (M_max h hs)
theorem M_len (p t : List UInt8) : M p t ≤ t.length := by
  have h1 := M_suf p t
  have h2 := M_le p t
  have := h1.length_le
  rw [List.length_take] at this
  omega
theorem M_nil (p : List UInt8) : M p [] = 0 := by have := M_len p []; simpa using this
/-- The longest border of p's first j + 1 bytes. -/
def brd (p : List UInt8) (j : Nat) : Nat := M p ((p.drop 1).take j)
theorem brd_lt {p : List UInt8} {j : Nat} : brd p j ≤ j := by
  have := M_len p ((p.drop 1).take j)
  rw [List.length_take] at this
  unfold brd
  omega
theorem brd_iff {p : List UInt8} {s k : Nat} (hs : s < p.length) (hk : k ≤ p.length) : p.take k <:+ (p.drop 1).take s ↔ (p.take k <:+ p.take (s + 1) ∧ k ≤ s) := by
  cases p with
  | nil => simp at hs
  | cons a q =>
    simp only [List.drop_succ_cons, List.drop_zero, List.take_succ_cons]
    rw [List.suffix_cons_iff]
    simp only [List.length_cons] at hs hk
    constructor
    · intro h
      refine ⟨.inr h, ?_⟩
      have := h.length_le
      rw [List.length_take, List.length_take, List.length_cons] at this
      omega
    · rintro ⟨h | h, hks⟩
      · have := congrArg List.length h
        simp only [List.length_take, List.length_cons] at this
        omega
      · exact h
/-- What a step keeps: s is where we look, and nothing longer can go on. -/
structure Inv (p t : List UInt8) (b : UInt8) (s : Nat) : Prop where
  le : s ≤ p.length
  suf : p.take s <:+ t
  max : ∀ k, k + 1 ≤ p.length → p.take (k + 1) <:+ t ++ [b] → k ≤ s
theorem snoc_suf {p t : List UInt8} {b : UInt8} {k : Nat} (h : k < p.length) : p.take (k + 1) <:+ t ++ [b] ↔ (p.take k <:+ t ∧ p[k] = b) := by
  rw [List.take_succ_eq_append_getElem h]
  constructor
  · rintro ⟨r, hr⟩
    rw [← List.append_assoc] at hr
    have h1 := List.append_inj' hr rfl
    refine ⟨⟨r, h1.1⟩, ?_⟩
    have := h1.2
    simpa using this
  · rintro ⟨⟨r, hr⟩, rfl⟩
    exact ⟨r, by rw [← List.append_assoc, hr]⟩
theorem Inv.start (p t : List UInt8) (b : UInt8) : Inv p t b (M p t) :=
  ⟨M_le p t, M_suf p t, fun k hk hs => M_max (by omega) ((snoc_suf (by omega)).1 hs).1⟩
theorem Inv.hit {p t : List UInt8} {b : UInt8} {s : Nat} (h : Inv p t b s) (hs : s < p.length) (hb : p[s] = b) : M p (t ++ [b]) = s + 1 := by
  refine M_eq (by omega) ((snoc_suf hs).2 ⟨h.suf, hb⟩) ?_
  intro j hj hsuf
  cases j with
  | zero => omega
  | succ j => have := h.max j hj hsuf; omega
theorem Inv.zero {p t : List UInt8} {b : UInt8} (h : Inv p t b 0) (hn : ∀ hs : 0 < p.length, ¬ p[0] = b) : M p (t ++ [b]) = 0 := by
  refine M_eq (by omega) (by rw [List.take_zero]; exact List.nil_suffix) ?_
  intro j hj hsuf
  cases j with
  | zero => omega
  | succ j =>
    exfalso
    have h0 := h.max j hj hsuf
    obtain rfl : j = 0 := by omega
    exact hn (by omega) ((snoc_suf (by omega)).1 hsuf).2
theorem Inv.next {p t : List UInt8} {b : UInt8} {s : Nat} (h : Inv p t b (s + 1)) (hn : ∀ hs : s + 1 < p.length, ¬ p[s + 1] = b) : Inv p t b (brd p s) := by
  have hsl := h.le
  have hb := (brd_iff (p := p) (s := s) (k := brd p s) (by omega) (M_le _ _)).1 (M_suf _ _)
  refine ⟨M_le _ _, hb.1.trans h.suf, ?_⟩
  intro k hk hsuf
  have h1 := h.max k hk hsuf
  obtain ⟨h2, h3⟩ := (snoc_suf (by omega)).1 hsuf
  have hne : k ≠ s + 1 := by
    rintro rfl
    exact hn (by omega) h3
  have hks : k ≤ s := by omega
  refine M_max (by omega) ((brd_iff (p := p) (s := s) (k := k) (by omega) (by omega)).2 ⟨?_, hks⟩)
  exact List.suffix_of_suffix_length_le h2 h.suf (by rw [List.length_take, List.length_take]; omega)
/-- Of the borders: one more. -/
theorem brd_succ (p : List UInt8) (i : Nat) (h : i + 1 < p.length) : brd p (i + 1) = M p (((p.drop 1).take i) ++ [p[i + 1]]) := by
  unfold brd
  have e : (p.drop 1)[i]'(by rw [List.length_drop]; omega) = p[i + 1] := by
    rw [List.getElem_drop]
    congr 1
    omega
  rw [List.take_succ_eq_append_getElem (by rw [List.length_drop]; omega), e]
theorem brd_zero (p : List UInt8) : brd p 0 = 0 := M_nil p
/-- p stands in s: somewhere s ends in it. -/
theorem in_iff (p s : List UInt8) : p <:+: s ↔ ∃ i, i ≤ s.length ∧ M p (s.take i) = p.length := by
  constructor
  · rintro ⟨a, b, hab⟩
    refine ⟨(a ++ p).length, by rw [← hab]; simp, M_eq (Nat.le_refl _) ?_ (fun j hj _ => hj)⟩
    rw [List.take_length, ← hab, List.take_left]
    exact ⟨a, rfl⟩
  · rintro ⟨i, _, h⟩
    have := M_suf p (s.take i)
    rw [h, List.take_length] at this
    exact this.isInfix.trans (List.take_prefix i s).isInfix
theorem M_step (p s : List UInt8) (i : Nat) (h : i < s.length) : M p (s.take (i + 1)) = M p (s.take i ++ [s[i]]) := by rw [List.take_succ_eq_append_getElem h]
/-- p stands in s, place by place. -/
theorem in_iff2 (p s : List UInt8) : p <:+: s ↔ ∃ i, i + p.length ≤ s.length ∧ (s.drop i).take p.length = p := by
  constructor
  · rintro ⟨a, b, hab⟩
    refine ⟨a.length, by rw [← hab]; simp, ?_⟩
    rw [← hab, List.append_assoc, List.drop_left, List.take_left]
  · rintro ⟨i, h, e⟩
    exact ⟨s.take i, (s.drop i).drop p.length, by
      rw [List.append_assoc]
      conv => lhs; rw [show p ++ List.drop p.length (List.drop i s) = List.take p.length (s.drop i) ++ List.drop p.length (List.drop i s) from by rw [e]]
      rw [List.take_append_drop, List.take_append_drop]⟩
end KmpW
end Go.Proofs.YtdeiehgghhiijaaDoor
