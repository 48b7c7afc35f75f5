/- Package lens, plainly: a code has the best lengths. -/
import Derived.Test.YtpnccehaomikbaaLfG
namespace Go.Proofs.Ytpnccehaomikbaa
set_option linter.unusedVariables false
set_option linter.unusedSimpArgs false
set_option linter.unnecessarySimpa false
open Go.RowKit
namespace LenW

/-- How many leaves are taken of each row, the last one ahead. -/
def aList (G : List (Int × Int)) : Nat → Nat → List Nat
  | 0, _ => []
  | i + 1, n => if n = 0 then [] else (n - packsW ((rowW G i).take n)) :: aList G i (2 * packsW ((rowW G i).take n))
theorem mrg_leaves (a b : List (Int × Int)) (ha : ∀ y ∈ a, 0 ≤ y.2) (hb : ∀ y ∈ b, y.2 < 0) : (mrg a b).filter (fun x => !decide (x.2 < 0)) = a := by
  suffices ∀ n (a b : List (Int × Int)), a.length + b.length ≤ n → (∀ y ∈ a, 0 ≤ y.2) → (∀ y ∈ b, y.2 < 0) → (mrg a b).filter (fun x => !decide (x.2 < 0)) = a from this _ a b (Nat.le_refl _) ha hb
  have full : ∀ a : List (Int × Int), (∀ y ∈ a, 0 ≤ y.2) → a.filter (fun x => !decide (x.2 < 0)) = a := fun a ha => List.filter_eq_self.2 (fun x hx => by have := ha x hx; simp; omega)
  have none : ∀ b : List (Int × Int), (∀ y ∈ b, y.2 < 0) → b.filter (fun x => !decide (x.2 < 0)) = [] := fun b hb => List.filter_eq_nil_iff.2 (fun x hx => by have := hb x hx; simp; omega)
  intro n
  induction n with
  | zero =>
    intro a b h ha hb
    obtain rfl := List.length_eq_zero_iff.1 (show a.length = 0 by omega)
    exact none b hb
  | succ n ih =>
    intro a b h ha hb
    match a, b with
    | [], b => exact none b hb
    | x :: a, [] => rw [mrg_right]; exact full _ ha
    | x :: a, y :: b =>
      simp only [List.length_cons] at h
      have hx := ha x (by simp)
      have hy := hb y (by simp)
      rw [mrg_cons]
      split
      · rw [List.filter_cons, if_pos (by simp; omega), ih a (y :: b) (by simp only [List.length_cons]; omega) (fun z hz => ha z (by simp [hz])) hb]
      · rw [List.filter_cons, if_neg (by simpa using hy), ih (x :: a) b (by simp only [List.length_cons]; omega) ha (fun z hz => hb z (by simp [hz]))]
theorem row_leaves {G : List (Int × Int)} (hl : ∀ y ∈ G, 0 ≤ y.2) (i : Nat) : (rowW G i).filter (fun x => !decide (x.2 < 0)) = G := by
  cases i with
  | zero => exact List.filter_eq_self.2 (fun x hx => by have := hl x hx; simp; omega)
  | succ i => exact mrg_leaves _ _ hl (pkgs_neg _ 0)
theorem leaves_len (l : List (Int × Int)) : (l.filter fun x => !decide (x.2 < 0)).length = l.length - packsW l := by
  unfold packsW
  induction l with
  | nil => rfl
  | cons x l ih =>
    have h2 := List.length_filter_le (fun x : Int × Int => decide (x.2 < 0)) l
    rw [List.filter_cons, List.filter_cons]
    by_cases h : x.2 < 0
    · simp [h]; omega
    · simp [h]; omega
theorem take_leaves {G : List (Int × Int)} (hl : ∀ y ∈ G, 0 ≤ y.2) (i n : Nat) (hn : n ≤ (rowW G i).length) : ((rowW G i).take n).filter (fun x => !decide (x.2 < 0)) = G.take (n - packsW ((rowW G i).take n)) := by
  rw [take_filter, row_leaves hl, leaves_len, List.length_take, Nat.min_eq_left hn]
/-- Symbols have one more. -/
def upL (G : List (Int × Int)) (L : List Int) (a : Nat) : List Int := ((G.take a).map (·.2)).foldl incL L
theorem taken_as {G : List (Int × Int)} (hl : ∀ y ∈ G, 0 ≤ y.2) (i : Nat) : ∀ (n : Nat) (L : List Int), (∀ j, i = j + 1 → n ≤ (rowW G j).length) → takenW G i n L = (aList G i n).foldl (upL G) L := by
  induction i with
  | zero => intro n L _; rfl
  | succ i ih =>
    intro n L hn
    rw [takenW, aList]
    by_cases h0 : n = 0
    · rw [if_pos h0, if_pos h0]; rfl
    · rw [if_neg h0, if_neg h0, List.foldl_cons, bump_flat, take_leaves hl i n (hn i rfl), ih _ _ (fun j e => by subst e; exact rowW_packs G hl j n)]
      rfl
/-- How often a number stands in a list. -/
def cntN (s : Int) (S : List Int) : Nat := (S.filter fun x => decide (x = s)).length
theorem incs_at (S : List Int) : ∀ (L : List Int) (k : Nat) (hk : k < L.length), (∀ x ∈ S, 0 ≤ x) → (S.foldl incL L)[k]? = some (L[k] + (cntN (k : Int) S : Int)) := by
  induction S with
  | nil => intro L k hk _; simp [cntN]
  | cons x S ih =>
    intro L k hk hS
    have hx := hS x (by simp)
    rw [List.foldl_cons, ih (incL L x) k (by simpa [incL] using hk) (fun y hy => hS y (by simp [hy]))]
    congr 1
    unfold cntN
    rw [List.filter_cons]
    by_cases h : x = (k : Int)
    · subst h
      simp only [incL, Int.toNat_natCast, List.getElem_set_self, List.getElem?_eq_getElem hk, Option.getD_some, decide_true, if_true, List.length_cons]
      omega
    · have h2 : x.toNat ≠ k := by omega
      simp only [incL, List.getElem_set_ne h2, h, decide_false, Bool.false_eq_true, if_false]
theorem ups_flat (G : List (Int × Int)) (av : List Nat) : ∀ L : List Int, av.foldl (upL G) L = (av.flatMap fun a => (G.take a).map (·.2)).foldl incL L := by
  induction av with
  | nil => intro L; rfl
  | cons a av ih => intro L; rw [List.foldl_cons, ih, List.flatMap_cons, List.foldl_append]; rfl
theorem cnt_app (s : Int) (S T : List Int) : cntN s (S ++ T) = cntN s S + cntN s T := by simp [cntN]
/-- How many rows have more than r leaves. -/
def lamL (av : List Nat) (r : Nat) : Nat := (av.filter fun a => decide (r < a)).length
theorem cnt_take {G : List (Int × Int)} (hd : G.Pairwise fun a b => a.2 ≠ b.2) (r : Nat) (hr : r < G.length) (a : Nat) : cntN G[r].2 ((G.take a).map (·.2)) = if r < a then 1 else 0 := by
  induction G generalizing r a with
  | nil => simp at hr
  | cons x G ih =>
    obtain ⟨d1, d2⟩ := List.pairwise_cons.1 hd
    cases a with
    | zero => simp [cntN]
    | succ a =>
      rw [List.take_succ_cons, List.map_cons]
      cases r with
      | zero =>
        have hz : cntN x.2 ((G.take a).map (·.2)) = 0 := by
          unfold cntN
          rw [List.length_eq_zero_iff, List.filter_eq_nil_iff]
          intro z hz
          obtain ⟨y, hy, rfl⟩ := List.mem_map.1 hz
          have := d1 y (List.mem_of_mem_take hy)
          simpa using fun e => this e.symm
        show cntN x.2 ([x.2] ++ _) = _
        rw [cnt_app, hz]
        simp [cntN]
      | succ r =>
        simp only [List.length_cons] at hr
        have hne : x.2 ≠ G[r].2 := d1 _ (List.getElem_mem (by omega))
        show cntN G[r].2 ([x.2] ++ _) = _
        rw [cnt_app, ih d2 r (by omega) a]
        simp [cntN, hne]
theorem cnt_flat {G : List (Int × Int)} (hd : G.Pairwise fun a b => a.2 ≠ b.2) (r : Nat) (hr : r < G.length) (av : List Nat) : cntN G[r].2 (av.flatMap fun a => (G.take a).map (·.2)) = lamL av r := by
  induction av with
  | nil => rfl
  | cons a av ih =>
    rw [List.flatMap_cons, cnt_app, ih, cnt_take hd r hr]
    unfold lamL
    rw [List.filter_cons]
    by_cases h : r < a
    · simp [h]; omega
    · simp [h]
theorem cnt_none {G : List (Int × Int)} (s : Int) (h : ∀ x ∈ G, x.2 ≠ s) (av : List Nat) : cntN s (av.flatMap fun a => (G.take a).map (·.2)) = 0 := by
  unfold cntN
  rw [List.length_eq_zero_iff, List.filter_eq_nil_iff]
  intro z hz
  obtain ⟨a, _, hz⟩ := List.mem_flatMap.1 hz
  obtain ⟨y, hy, rfl⟩ := List.mem_map.1 hz
  simpa using h y (List.mem_of_mem_take hy)
/-- Weighed by rows. -/
def sumA : Nat → List Nat → Nat
  | _, [] => 0
  | d, a :: av => a * 2 ^ d + sumA (d - 1) av
theorem aList_sum {G : List (Int × Int)} (hl : ∀ y ∈ G, 0 ≤ y.2) (i : Nat) : ∀ (n d : Nat), i ≤ d + 1 → (∀ j, i = j + 1 → n ≤ (rowW G j).length) → (i = 0 → n = 0) → sumA d (aList G i n) = n * 2 ^ d := by
  induction i with
  | zero => intro n d _ _ h; rw [h rfl]; simp [aList, sumA]
  | succ i ih =>
    intro n d hd hn _
    rw [aList]
    by_cases h0 : n = 0
    · rw [if_pos h0, h0]; simp [sumA]
    · rw [if_neg h0, sumA]
      have hp := packsW_le ((rowW G i).take n)
      rw [List.length_take] at hp
      cases i with
      | zero =>
        have hpk : packsW ((rowW G 0).take n) = 0 := packsW_pos _ (fun x hx => hl x (List.mem_of_mem_take hx))
        rw [hpk]
        simp [aList, sumA]
      | succ i =>
        rw [ih _ (d - 1) (by omega) (fun j e => by obtain rfl : i = j := (by omega); exact rowW_packs G hl i n) (by omega)]
        obtain ⟨d, rfl⟩ : ∃ e, d = e + 1 := ⟨d - 1, by omega⟩
        rw [Nat.add_sub_cancel, Nat.pow_succ]
        generalize packsW ((rowW G (i + 1)).take n) = p at *
        obtain ⟨q, rfl⟩ : ∃ q, n = p + q := ⟨n - p, by omega⟩
        rw [Nat.add_sub_cancel_left, Nat.add_mul, Nat.add_comm (q * _)]
        congr 1
        rw [Nat.mul_comm 2 p, Nat.mul_assoc, Nat.mul_comm 2]
theorem rowW_pos {G : List (Int × Int)} (h : ∀ x ∈ G, 0 < x.1) (m : Nat) : ∀ x ∈ rowW G m, 0 < x.1 := by
  induction m with
  | zero => exact h
  | succ m ih =>
    intro x hx
    rcases List.mem_append.1 ((mrg_perm _ _).mem_iff.1 hx) with hx | hx
    · exact h x hx
    · obtain ⟨k, hk, rfl⟩ := List.getElem_of_mem hx
      have hl := pkgs_len (rowW G m) 0
      have e := pkgs_get (rowW G m) 0 k (by omega)
      rw [List.getElem?_eq_getElem hk] at e
      rw [Option.some.inj e]
      have h1 := ih _ (List.getElem_mem (show 2 * k < (rowW G m).length by omega))
      have h2 := ih _ (List.getElem_mem (show 2 * k + 1 < (rowW G m).length by omega))
      dsimp only
      omega
theorem packsW_all {G : List (Int × Int)} (hl : ∀ y ∈ G, 0 ≤ y.2) (i n : Nat) : ((rowW G (i + 1)).take n).filter (fun x => decide (x.2 < 0)) = (pkgs 0 (rowW G i)).take (packsW ((rowW G (i + 1)).take n)) := by
  rw [take_filter, show (rowW G (i + 1)).filter (fun x => decide (x.2 < 0)) = pkgs 0 (rowW G i) from mrg_packs _ _ hl (pkgs_neg _ 0)]
  rfl
/-- Of a row ahead no more leaves are taken. -/
theorem nested {G : List (Int × Int)} (hu : upW G) (hp : ∀ x ∈ G, 0 < x.1) (hl : ∀ y ∈ G, 0 ≤ y.2) (i n : Nat) (hn : n ≤ (rowW G (i + 1)).length) :
    2 * packsW ((rowW G (i + 1)).take n) - packsW ((rowW G i).take (2 * packsW ((rowW G (i + 1)).take n))) ≤ n - packsW ((rowW G (i + 1)).take n) := by
  have hpk := rowW_packs G hl i n
  obtain ⟨p, hpe⟩ : ∃ p, packsW ((rowW G (i + 1)).take n) = p := ⟨_, rfl⟩
  have hall := packsW_all hl i n
  have hlv := take_leaves hl (i + 1) n hn
  rw [hpe] at hpk hall hlv ⊢
  have hlv2 := take_leaves hl i (2 * p) hpk
  obtain ⟨a, ha⟩ : ∃ a, n - p = a := ⟨_, rfl⟩
  obtain ⟨a', ha'⟩ : ∃ a', 2 * p - packsW ((rowW G i).take (2 * p)) = a' := ⟨_, rfl⟩
  rw [ha] at hlv ⊢
  rw [ha'] at hlv2 ⊢
  rcases Nat.lt_or_ge a a' with hlt | hge
  · exfalso
    have hGl : a' ≤ G.length ∨ G.length < a' := by omega
    have haG : a < G.length := by
      have e1 := congrArg List.length hlv2
      have h1 := List.length_filter_le (fun x : Int × Int => !decide (x.2 < 0)) ((rowW G i).take (2 * p))
      have e2 := leaves_len ((rowW G i).take (2 * p))
      rw [List.length_take, Nat.min_eq_left hpk, ha'] at e2
      rw [e2, List.length_take] at e1
      omega
    -- the leaf stands among those that were taken of the row ahead
    have m1 : G[a] ∈ (rowW G i).take (2 * p) := by
      have : G[a] ∈ ((rowW G i).take (2 * p)).filter (fun x => !decide (x.2 < 0)) := by
        rw [hlv2]
        exact List.mem_take_iff_getElem.2 ⟨a, by omega, rfl⟩
      exact (List.mem_filter.1 this).1
    obtain ⟨t, ht, het⟩ := List.mem_take_iff_getElem.1 m1
    have htl : t < (rowW G i).length := by omega
    have ht2 : t < 2 * p := by omega
    have hkl : 2 * (t / 2) + 1 < (rowW G i).length := by omega
    have hpl := pkgs_len (rowW G i) 0
    have e := pkgs_get (rowW G i) 0 (t / 2) hkl
    have hkp : t / 2 < (pkgs 0 (rowW G i)).length := by omega
    rw [List.getElem?_eq_getElem hkp] at e
    have hw : G[a].1 < ((pkgs 0 (rowW G i))[t / 2]).1 := by
      rw [Option.some.inj e]
      have w1 := rowW_pos hp i _ (List.getElem_mem (show 2 * (t / 2) < (rowW G i).length by omega))
      have w2 := rowW_pos hp i _ (List.getElem_mem hkl)
      dsimp only
      rcases Nat.mod_two_eq_zero_or_one t with h | h
      · have : (rowW G i)[2 * (t / 2)]'(by omega) = G[a] := by rw [← het]; congr 1; omega
        rw [this] at w1 ⊢
        omega
      · have : (rowW G i)[2 * (t / 2) + 1]'hkl = G[a] := by rw [← het]; congr 1; omega
        rw [this] at w2 ⊢
        omega
    -- the package is among those that were taken
    have m2 : (pkgs 0 (rowW G i))[t / 2] ∈ (rowW G (i + 1)).take n := by
      have : (pkgs 0 (rowW G i))[t / 2] ∈ ((rowW G (i + 1)).take n).filter (fun x => decide (x.2 < 0)) := by
        rw [hall]
        exact List.mem_take_iff_getElem.2 ⟨t / 2, by omega, rfl⟩
      exact (List.mem_filter.1 this).1
    -- the leaf is not
    have m3 : G[a] ∈ (rowW G (i + 1)).drop n := by
      have e3 : ((rowW G (i + 1)).take n).filter (fun x => !decide (x.2 < 0)) ++ ((rowW G (i + 1)).drop n).filter (fun x => !decide (x.2 < 0)) = G := by rw [← List.filter_append, List.take_append_drop, row_leaves hl]
      rw [hlv] at e3
      have e4 : ((rowW G (i + 1)).drop n).filter (fun x => !decide (x.2 < 0)) = G.drop a := by
        have := List.take_append_drop a G
        exact List.append_cancel_left (e3.trans this.symm)
      have : G[a] ∈ G.drop a := List.mem_drop_iff_getElem.2 ⟨0, by omega, by simp⟩
      rw [← e4] at this
      exact (List.mem_filter.1 this).1
    have hup := rowW_up hu (i + 1)
    rw [← List.take_append_drop n (rowW G (i + 1))] at hup
    have := (List.pairwise_append.1 hup).2.2 _ m2 _ m3
    omega
  · exact hge
/-- They do not rise. -/
def downA : List Nat → Prop
  | a :: b :: r => b ≤ a ∧ downA (b :: r)
  | _ => True
theorem aList_down {G : List (Int × Int)} (hu : upW G) (hp : ∀ x ∈ G, 0 < x.1) (hl : ∀ y ∈ G, 0 ≤ y.2) (i : Nat) : ∀ n, (∀ j, i = j + 1 → n ≤ (rowW G j).length) → downA (aList G i n) := by
  induction i with
  | zero => intro n _; trivial
  | succ i ih =>
    intro n hn
    rw [aList]
    split
    · trivial
    · cases i with
      | zero => trivial
      | succ i =>
        have h1 := ih (2 * packsW ((rowW G (i + 1)).take n)) (fun j e => by obtain rfl : i = j := (by omega); exact rowW_packs G hl i n)
        have h2 := nested hu hp hl i n (hn _ rfl)
        rw [aList] at h1 ⊢
        split
        · trivial
        · rename_i h3
          rw [if_neg h3] at h1
          exact ⟨h2, h1⟩
theorem down_le {a : Nat} {av : List Nat} (h : downA (a :: av)) : downA av ∧ ∀ b ∈ av, b ≤ a := by
  induction av generalizing a with
  | nil => exact ⟨trivial, fun b hb => by simp at hb⟩
  | cons b av ih =>
    obtain ⟨h1, h2⟩ := h
    obtain ⟨_, h3⟩ := ih h2
    refine ⟨h2, fun c hc => ?_⟩
    rcases List.mem_cons.1 hc with rfl | hc
    · exact h1
    · exact Nat.le_trans (h3 c hc) h1
/-- One symbol's share. -/
def shareA : Nat → List Nat → Nat → Nat
  | _, [], _ => 0
  | d, a :: av, r => (if r < a then 2 ^ d else 0) + shareA (d - 1) av r
theorem share_eq (av : List Nat) : ∀ (d r : Nat), downA av → av.length ≤ d + 1 → shareA d av r + 2 ^ (d + 1 - lamL av r) = 2 ^ (d + 1) := by
  induction av with
  | nil => intro d r _ _; simp [shareA, lamL]
  | cons a av ih =>
    intro d r hd hl
    simp only [List.length_cons] at hl
    obtain ⟨h1, h2⟩ := down_le hd
    rw [shareA]
    by_cases h : r < a
    · have e : lamL (a :: av) r = lamL av r + 1 := by unfold lamL; rw [List.filter_cons]; simp [h]
      rw [if_pos h, e]
      cases d with
      | zero =>
        obtain rfl := List.length_eq_zero_iff.1 (show av.length = 0 by omega)
        simp [shareA, lamL]
      | succ d =>
        have := ih d r h1 (by omega)
        rw [show d + 1 + 1 - (lamL av r + 1) = d + 1 - lamL av r by omega, Nat.add_sub_cancel, Nat.add_assoc, this, Nat.pow_succ 2 (d + 1)]
        omega
    · have e0 : ∀ (av : List Nat) (d : Nat), (∀ b ∈ av, b ≤ r) → shareA d av r = 0 ∧ lamL av r = 0 := by
        intro av
        induction av with
        | nil => intro d _; exact ⟨rfl, rfl⟩
        | cons b av ih2 =>
          intro d hb
          have hb1 := hb b (by simp)
          obtain ⟨q1, q2⟩ := ih2 (d - 1) (fun c hc => hb c (by simp [hc]))
          refine ⟨by rw [shareA, q1, if_neg (by omega)], ?_⟩
          unfold lamL at *
          rw [List.filter_cons, if_neg (by simp; omega)]
          exact q2
      obtain ⟨q1, q2⟩ := e0 (a :: av) d (fun b hb => by
        rcases List.mem_cons.1 hb with rfl | hb
        · omega
        · have := h2 b hb; omega)
      rw [shareA] at q1
      rw [q1, q2]
      simp
theorem share_sum (f : Nat) (av : List Nat) : ∀ d, (∀ a ∈ av, a ≤ f) → ((List.range f).map (shareA d av)).sum = sumA d av := by
  induction av with
  | nil => intro d _; show ((List.range f).map fun _ => 0).sum = 0; induction f with
    | zero => rfl
    | succ f ih => rw [List.range_succ, List.map_append, List.sum_append, ih (by simp)]; rfl
  | cons a av ih =>
    intro d ha
    have h1 : ∀ (f : Nat) (g h : Nat → Nat), ((List.range f).map fun r => g r + h r).sum = ((List.range f).map g).sum + ((List.range f).map h).sum := by
      intro f g h
      induction f with
      | zero => rfl
      | succ f ih => rw [List.range_succ, List.map_append, List.map_append, List.map_append, List.sum_append, List.sum_append, List.sum_append, ih]; simp; omega
    have h2 : ∀ f, ((List.range f).map fun r => if r < a then 2 ^ d else 0).sum = min a f * 2 ^ d := by
      intro f
      induction f with
      | zero => simp
      | succ f ih =>
        rw [List.range_succ, List.map_append, List.sum_append, ih]
        simp only [List.map_cons, List.map_nil, List.sum_cons, List.sum_nil, Nat.add_zero]
        by_cases h : f < a
        · rw [if_pos h, show min a (f + 1) = min a f + 1 by omega, Nat.add_mul, Nat.one_mul]
        · rw [if_neg h, show min a (f + 1) = min a f by omega, Nat.add_zero]
    show ((List.range f).map fun r => (if r < a then 2 ^ d else 0) + shareA (d - 1) av r).sum = _
    rw [h1, h2, ih (d - 1) (fun b hb => ha b (by simp [hb])), sumA, Nat.min_eq_left (ha a (by simp))]
end LenW
end Go.Proofs.Ytpnccehaomikbaa
