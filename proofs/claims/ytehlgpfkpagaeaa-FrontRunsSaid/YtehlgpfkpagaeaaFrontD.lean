/- Plain facts: the row behind bytes holds those that came, the last one first, and behind them the others in their order. No program is named here. -/
import Derived.Test.YtehlgpfkpagaeaaFrontQ
namespace Go.Proofs.Ytehlgpfkpagaeaa
set_option linter.unusedVariables false
set_option linter.unusedSimpArgs false
set_option linter.unnecessarySimpa false
open Go.RowKit
namespace FrontW

/-- Each byte once, where it comes first. -/
def ddS (acc : List UInt8) (b : UInt8) : List UInt8 := if b ∈ acc then acc else acc ++ [b]
def dd (m : List UInt8) : List UInt8 := m.foldl ddS []
def others (x : List UInt8) : List UInt8 := init.filter fun b => decide (b ∉ x)

theorem dd_snoc (m : List UInt8) (b : UInt8) : dd (m ++ [b]) = ddS (dd m) b := by simp [dd, List.foldl_append]
theorem dd_mem (m : List UInt8) (x : UInt8) : x ∈ dd m ↔ x ∈ m := by
  refine snoc_ind (p := fun m => x ∈ dd m ↔ x ∈ m) (by simp [dd]) (fun m b ih => ?_) m
  rw [dd_snoc, ddS]
  split
  · next h =>
    constructor
    · intro hx; exact List.mem_append_left _ (ih.1 hx)
    · intro hx
      rcases List.mem_append.1 hx with hx | hx
      · exact ih.2 hx
      · rw [List.mem_singleton.1 hx]; exact h
  · rw [List.mem_append, List.mem_append, ih]
theorem dd_prefix (a b : List UInt8) : dd a <+: dd (a ++ b) := by
  refine snoc_ind (p := fun b => dd a <+: dd (a ++ b)) (by simp) (fun b c ih => ?_) b
  rw [← List.append_assoc, dd_snoc, ddS]
  split
  · exact ih
  · exact ih.trans (List.prefix_append _ _)
theorem dd_nodup (m : List UInt8) : (dd m).Nodup := by
  refine snoc_ind (p := fun m => (dd m).Nodup) (by simp [dd]) (fun m b ih => ?_) m
  rw [dd_snoc, ddS]
  split
  · exact ih
  · next h =>
    rw [List.nodup_append]
    exact ⟨ih, by simp, fun x hx y hy e => h (by rw [List.mem_singleton.1 hy] at e; exact e ▸ hx)⟩
theorem fold_front (b : UInt8) (m : List UInt8) (acc : List UInt8) : m.foldl ddS (b :: acc.erase b) = b :: (m.foldl ddS acc).erase b := by
  induction m generalizing acc with
  | nil => rfl
  | cons c m ih =>
    rw [List.foldl_cons, List.foldl_cons]
    have e : ddS (b :: acc.erase b) c = b :: (ddS acc c).erase b := by
      unfold ddS
      by_cases hcb : c = b
      · subst hcb
        rw [if_pos (by simp)]
        split
        · rfl
        · next h => rw [List.erase_append_right _ h, List.erase_of_not_mem h]; simp
      · have hm : c ∈ b :: acc.erase b ↔ c ∈ acc := by simp [hcb, List.mem_erase_of_ne hcb]
        by_cases hc : c ∈ acc
        · rw [if_pos (hm.2 hc), if_pos hc]
        · rw [if_neg (fun h => hc (hm.1 h)), if_neg hc]
          by_cases hb : b ∈ acc
          · rw [List.erase_append_left _ hb, List.cons_append]
          · rw [List.erase_append_right _ hb, List.erase_of_not_mem hb, List.erase_of_not_mem (by simpa using fun h => hcb h.symm), List.cons_append]
    rw [e, ih]
theorem dd_cons (b : UInt8) (m : List UInt8) : dd (b :: m) = b :: (dd m).erase b := fold_front b m []
theorem mtf_erase {r : List UInt8} {b : UInt8} (h : b ∈ r) : mtf r (r.idxOf b) = b :: r.erase b := by
  unfold mtf
  rw [get_idx h, List.erase_eq_eraseIdx_of_idxOf (i := r.idxOf b) rfl, List.eraseIdx_eq_take_drop_succ]
theorem others_erase (x : List UInt8) (b : UInt8) : (others x).erase b = others (b :: x) := by
  unfold others
  rw [List.Nodup.erase_eq_filter (List.Pairwise.filter _ init_nodup), List.filter_filter]
  refine List.filter_congr fun y _ => ?_
  simp only [List.mem_cons, not_or, bne_iff_ne, ne_eq, Bool.decide_and, bne, Bool.not_eq_eq_eq_not]
  by_cases h : y = b <;> simp [h]
theorem others_congr {x y : List UInt8} (h : ∀ b, b ∈ x ↔ b ∈ y) : others x = others y := by
  unfold others
  exact List.filter_congr fun b _ => by simp [h b]
theorem row_is (s : List UInt8) : (runR s).1 = dd s.reverse ++ others s := by
  refine snoc_ind (p := fun s => (runR s).1 = dd s.reverse ++ others s) ?_ (fun s b ih => ?_) s
  · have e : others [] = init := List.filter_eq_self.2 fun b _ => by simp
    show init = [] ++ others []
    rw [e]; rfl
  · rw [runR_app, List.reverse_append, List.reverse_singleton, List.singleton_append, dd_cons]
    show mtf (runR s).1 ((runR s).1.idxOf b) = _
    rw [mtf_erase ((runR_full s).mem b), ih]
    by_cases hb : b ∈ dd s.reverse
    · rw [List.erase_append_left _ hb, others_congr (x := s ++ [b]) (y := s)]
      · rfl
      · intro c
        have : b ∈ s := by simpa using (dd_mem _ _).1 hb
        constructor
        · intro h; rcases List.mem_append.1 h with h | h
          · exact h
          · rw [List.mem_singleton.1 h]; exact this
        · exact List.mem_append_left _
    · rw [List.erase_append_right _ hb, others_erase, List.erase_of_not_mem hb, others_congr (x := s ++ [b]) (y := b :: s)]
      · rfl
      · intro c; simp [or_comm]
theorem init_sorted : init.Pairwise fun a b => a.toNat < b.toNat := by
  unfold init
  rw [List.pairwise_map]
  refine List.Pairwise.imp_of_mem ?_ (List.pairwise_lt_range (n := 256))
  intro a b ha hb h
  rw [List.mem_range] at ha hb
  simp
  omega
theorem others_sorted (x : List UInt8) : (others x).Pairwise fun a b => a.toNat < b.toNat := init_sorted.filter _
theorem others_mem {x : List UInt8} {b : UInt8} (h : b ∈ others x) : b ∉ x := by
  have := (List.mem_filter.1 h).2
  simpa using this
theorem row_len (s : List UInt8) : (runR s).1.length = 256 := (runR_full s).len
theorem drop_rev (s : List UInt8) (m : Nat) (hm : m < s.length) : (s.drop m).reverse = (s.drop (m + 1)).reverse ++ [s[m]] := by
  rw [List.drop_eq_getElem_cons hm, List.reverse_cons]
theorem dd_in (s : List UInt8) (m : Nat) (hm : m < s.length) (h : s[m] ∈ s.drop (m + 1)) : dd (s.drop m).reverse = dd (s.drop (m + 1)).reverse := by
  rw [drop_rev s m hm, dd_snoc, ddS, if_pos ((dd_mem _ _).2 (by simpa using h))]
theorem dd_out (s : List UInt8) (m : Nat) (hm : m < s.length) (h : s[m] ∉ s.drop (m + 1)) : dd (s.drop m).reverse = dd (s.drop (m + 1)).reverse ++ [s[m]] := by
  rw [drop_rev s m hm, dd_snoc, ddS, if_neg (fun g => h (by simpa using (dd_mem _ _).1 g))]
theorem row_at (s : List UInt8) (m : Nat) (hm : m < s.length) (h : s[m] ∉ s.drop (m + 1)) : (runR s).1[(dd (s.drop (m + 1)).reverse).length]? = some s[m] := by
  have e : s.reverse = (s.drop m).reverse ++ (s.take m).reverse := by rw [← List.reverse_append, List.take_append_drop]
  obtain ⟨t, ht⟩ := dd_prefix (s.drop m).reverse (s.take m).reverse
  rw [row_is, e, ← ht, dd_out s m hm h]
  simp
theorem row_at_lt (s : List UInt8) (m : Nat) (hm : m < s.length) (h : s[m] ∉ s.drop (m + 1)) : (dd (s.drop (m + 1)).reverse).length < 256 := by
  have h1 := row_at s m hm h
  rw [← row_len s]
  exact (List.getElem?_eq_some_iff.1 h1).1
theorem dd_le (s : List UInt8) : (dd s.reverse).length ≤ 256 := by
  rw [← row_len s, row_is, List.length_append]; omega
theorem row_rest (s : List UInt8) (i : Nat) (h1 : (dd s.reverse).length ≤ i) (h2 : i < (runR s).1.length) : (runR s).1[i] ∉ s := by
  have e : (runR s).1[i] = (dd s.reverse ++ others s)[i]'(by rw [← row_is]; exact h2) := by congr 1; exact row_is s
  rw [e, List.getElem_append_right h1]
  exact others_mem (List.getElem_mem _)
theorem row_sort (s : List UInt8) (i : Nat) (h1 : (dd s.reverse).length ≤ i) (h2 : i + 1 < (runR s).1.length) : (runR s).1[i].toNat < (runR s).1[i + 1].toNat := by
  have e : ∀ j (hj : j < (runR s).1.length), (runR s).1[j] = (dd s.reverse ++ others s)[j]'(by rw [← row_is]; exact hj) := fun j hj => by congr 1; exact row_is s
  rw [e, e, List.getElem_append_right h1, List.getElem_append_right (by omega)]
  exact List.pairwise_iff_getElem.1 (others_sorted s) _ _ _ _ (by omega)
theorem rank_at (s : List UInt8) (i : Nat) (hi : i < s.length) : (runR s).2[i]? = some (((runR (s.take i)).1.idxOf s[i] : Nat) : Int) := by
  have h : ∀ k, i < k → k ≤ s.length → (runR (s.take k)).2[i]? = some (((runR (s.take i)).1.idxOf s[i] : Nat) : Int) := by
    intro k
    induction k with
    | zero => intro h; omega
    | succ k ih =>
      intro h1 h2
      rw [runR_snoc s k (by omega)]
      show ((runR (s.take k)).2 ++ [_])[i]? = _
      have hl : (runR (s.take k)).2.length = k := by rw [runR_len, List.length_take]; omega
      by_cases hik : i < k
      · rw [List.getElem?_append_left (by omega)]; exact ih hik (by omega)
      · obtain rfl : i = k := by omega
        rw [List.getElem?_append_right (by omega), hl]; simp
  have := h s.length hi (Nat.le_refl _)
  rwa [List.take_of_length_le (Nat.le_refl _)] at this
/-- The rank of a byte that stands in m behind m1 unlike it. -/
theorem idx_between (b : UInt8) (m1 m2 y : List UInt8) (h : b ∉ m1) : (dd (m1 ++ b :: m2) ++ y).idxOf b = (dd m1).length := by
  have e : m1 ++ b :: m2 = (m1 ++ [b]) ++ m2 := by simp
  obtain ⟨t, ht⟩ := dd_prefix (m1 ++ [b]) m2
  have hn : b ∉ dd m1 := fun g => h ((dd_mem _ _).1 g)
  rw [e, ← ht, dd_snoc, ddS, if_neg hn, List.append_assoc, List.append_assoc, List.idxOf_append, if_neg hn]
  simp
/-- The first of the row. -/
theorem row_head (s : List UInt8) : (runR s).1[0]? = some (match s.reverse with | [] => 0 | b :: _ => b) := by
  rw [row_is]
  cases h : s.reverse with
  | nil =>
    obtain rfl : s = [] := by simpa using h
    have e : others [] = init := List.filter_eq_self.2 fun b _ => by simp
    rw [e]
    simp [dd, init]
  | cons b m => rw [dd_cons]; simp
end FrontW
end Go.Proofs.Ytehlgpfkpagaeaa
