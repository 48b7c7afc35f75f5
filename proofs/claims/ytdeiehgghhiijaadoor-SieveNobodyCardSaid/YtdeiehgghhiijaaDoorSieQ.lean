/- Plain: sentences: what meets one; the same words put elsewhere; two sentences joined. -/
import Derived.Test.YtdeiehgghhiijaaDoorSieP
import Derived.Test.YtdeiehgghhiijaaDoorSpanW
import Derived.Test.YtdeiehgghhiijaaDoorKmpH
namespace Go.Proofs.YtdeiehgghhiijaaDoor
set_option linter.unusedVariables false
set_option linter.unusedSimpArgs false
set_option linter.unnecessarySimpa false
open Go.RowKit
namespace SieW
mutual
/-- A record meets a part. -/
def meetN (q t : Int) (d : List UInt8) : Nd → Bool
  | .within k lo hi => SpanW.hasB lo hi (if k = 0 then q else if k = 1 then t else (d.length : Int))
  | .has s => KmpW.kin s d
  | .all => true
  | .not n => !meetN q t d n
  | .row o l => meetL q t d o l
def meetL (q t : Int) (d : List UInt8) (o : Bool) : List Nd → Bool
  | [] => !o
  | a :: l => if meetN q t d a = o then o else meetL q t d o l
end
section
variable (q t : Int) (d : List UInt8)
theorem meetL_or (l : List Nd) : meetL q t d true l = l.any (meetN q t d) := by
  induction l with
  | nil => simp [meetL]
  | cons a l ih => simp only [meetL, ih, List.any_cons]; cases meetN q t d a <;> simp
theorem meetL_and (l : List Nd) : meetL q t d false l = l.all (meetN q t d) := by
  induction l with
  | nil => simp [meetL]
  | cons a l ih => simp only [meetL, ih, List.all_cons]; cases meetN q t d a <;> simp
theorem meetL_app (o : Bool) (a b : List Nd) : meetL q t d o (a ++ b) = if o then meetL q t d o a || meetL q t d o b else meetL q t d o a && meetL q t d o b := by
  cases o
  · simp [meetL_and]
  · simp [meetL_or]
theorem meetL_flat (o : Bool) (n : Nd) : meetL q t d o (flat o n) = meetN q t d n := by
  have one : ∀ x : Nd, meetL q t d o [x] = meetN q t d x := by
    intro x; simp only [meetL]; cases o <;> cases meetN q t d x <;> rfl
  cases n with
  | row o2 l =>
    rw [flat]
    split
    · next e => subst e; simp [meetN]
    · exact one _
  | _ => exact one _
theorem meetN_mk (o : Bool) (l : List Nd) : meetN q t d (mkN o l) = meetL q t d o l := by
  unfold mkN
  split
  · next x => simp only [meetL]; cases o <;> cases meetN q t d x <;> rfl
  · rw [meetN]
end
/-- Two ends go on alike: neither, or both, by and, by or. -/
def alikeW (a b : List UInt8) : Prop := ∀ o, (a = byW o ↔ b = byW o)
theorem alikeW.refl (a : List UInt8) : alikeW a a := fun _ => Iff.rfl
theorem hd_drop (en : Int) (l : List Wd) (k : Nat) : hdW en (l.drop k) = l[k]?.getD ([], en) := by unfold hdW; rw [List.head?_drop]
/-- Two rows have the same first k words, and go on alike behind them. -/
def Pre (en en' : Int) (k : Nat) (l l' : List Wd) : Prop := k ≤ l.length ∧ k ≤ l'.length ∧ (∀ j, j < k → (hdW en (l.drop j)).1 = (hdW en' (l'.drop j)).1) ∧ alikeW (hdW en (l.drop k)).1 (hdW en' (l'.drop k)).1
theorem Pre.fst {en en' : Int} {k : Nat} {l l' : List Wd} (h : Pre en en' k l l') (j : Nat) (hj : j < k) : (hdW en (l.drop j)).1 = (hdW en' (l'.drop j)).1 := h.2.2.1 j hj
theorem Pre.any {en en' : Int} {k : Nat} {l l' : List Wd} (h : Pre en en' k l l') (j : Nat) (hj : j ≤ k) : alikeW (hdW en (l.drop j)).1 (hdW en' (l'.drop j)).1 := by
  rcases Nat.lt_or_ge j k with h1 | h1
  · rw [h.fst j h1]; exact alikeW.refl _
  · have : j = k := by omega
    subst this; exact h.2.2.2
theorem Pre.cut {en en' : Int} {k : Nat} {l l' : List Wd} (h : Pre en en' k l l') (j : Nat) (hj : j ≤ k) : Pre en en' (k - j) (l.drop j) (l'.drop j) := by
  obtain ⟨h1, h2, h3, h4⟩ := h
  refine ⟨by simp only [List.length_drop]; omega, by simp only [List.length_drop]; omega, fun i hi => ?_, ?_⟩
  · rw [List.drop_drop, List.drop_drop]; exact h3 _ (by omega)
  · rw [List.drop_drop, List.drop_drop, show j + (k - j) = k by omega]; exact h4
theorem Pre.less {en en' : Int} {k : Nat} {l l' : List Wd} (h : Pre en en' k l l') (j : Nat) (hj : j ≤ k) : Pre en en' j l l' :=
  ⟨by have := h.1; omega, by have := h.2.1; omega, fun i hi => h.fst i (by omega), h.any j hj⟩
/-- Put elsewhere, the same words answer the same, or are too many. -/
theorem pM_else (en en' : Int) : ∀ (f m : Nat) (acc : List Nd) (l : List Wd) (sz dp : Nat) (n : Nd) (k s2 d2 : Nat), m ≤ 2 → k ≤ l.length → pG en f m acc l sz dp = .ok n (l.drop k) s2 d2 →
    ∀ (l' : List Wd) (sz' dp' : Nat), Pre en en' k l l' →
    (∃ a, pM en' m acc l' sz' dp' = .err 3 a) ∨ pM en' m acc l' sz' dp' = .ok n (l'.drop k) (sz' + (s2 - sz)) dp' := by
  intro f
  induction f with
  | zero => intro m acc l sz dp n k s2 d2 hm hk h; rw [pG] at h; cases h
  | succ f ih =>
    intro m acc l sz dp n k s2 d2 hm hk h l' sz' dp' hp
    cases m with
    | zero =>
      rw [pG] at h
      rw [pM0]
      have hkl : ∀ a b, l.drop a = l.drop b → a ≤ l.length → b ≤ l.length → a = b := by
        intro a b e ha hb
        have := congrArg List.length e
        simp only [List.length_drop] at this
        omega
      have hl1 : ∀ c : Nat, 0 < c → c ≤ l.length → l ≠ [] := by intro c hc hc2 e; rw [e] at hc2; simp at hc2; omega
      have d0 : l = l.drop 0 := rfl
      have d0' : l' = l'.drop 0 := rfl
      rcases facS_ok h with ⟨kk, a, b, h1, hs, h2, rfl, e2, rfl, rfl⟩ | ⟨h1, hs, b, h2, rfl, e2, rfl, rfl⟩ | ⟨h1, hs, rfl, e2, rfl, rfl⟩ | ⟨h1, hs, n', e, rfl⟩ | ⟨h1, hd', l3, d3, e, h2, e2, rfl⟩
      · have z1 := List.length_pos_iff.2 (hd_ne rfl (kind_ne h1))
        have z2 := List.length_pos_iff.2 (hd_ne (en := en) rfl (nums_ne h2))
        simp only [tail_drop, List.drop_drop] at e2 h2 z2
        simp only [List.length_drop] at z2
        have := hkl _ _ e2 hk (by omega)
        subst this
        have p0 := hp.fst 0 (by omega)
        have p1 := hp.fst 1 (by omega)
        simp only [List.drop_zero] at p0
        rw [facS, ← p0, h1]
        simp only [tail_drop]
        rw [← p1, h2]
        by_cases c : 100 ≤ sz'
        · exact .inl ⟨_, by rw [if_pos c]⟩
        · exact .inr (by rw [if_neg c]; simp)
      · have z1 := List.length_pos_iff.2 (hd_ne h1 (by decide))
        have z2 := List.length_pos_iff.2 (hd_ne (en := en) rfl (bytes_ne h2))
        simp only [tail_drop, List.drop_drop] at e2 h2 z2
        simp only [List.length_drop] at z2
        have := hkl _ _ e2 hk (by omega)
        subst this
        have p0 := hp.fst 0 (by omega)
        have p1 := hp.fst 1 (by omega)
        simp only [List.drop_zero] at p0
        rw [facS, ← p0, h1]
        simp only [tail_drop]
        rw [← p1, h2]
        have hk0 : kindP sHas = none := by decide
        rw [hk0]
        by_cases c : 100 ≤ sz'
        · exact .inl ⟨(hdW en' l').2, by simp [c]⟩
        · exact .inr (by simp [c])
      · have z1 := List.length_pos_iff.2 (hd_ne h1 (by decide))
        simp only [tail_drop] at e2
        have := hkl _ _ e2 hk (by omega)
        subst this
        have p0 := hp.fst 0 (by omega)
        simp only [List.drop_zero] at p0
        rw [facS, ← p0, h1]
        have hk0 : kindP sAll = none := by decide
        have hk1 : sAll ≠ sHas := by decide
        rw [hk0]
        by_cases c : 100 ≤ sz'
        · exact .inl ⟨(hdW en' l').2, by simp [c, hk1]⟩
        · exact .inr (by simp [c, hk1])
      · have z1 := List.length_pos_iff.2 (hd_ne h1 (by decide))
        obtain ⟨k', k1, k2, e3, e4, _⟩ := pG_left en _ _ _ _ _ _ _ _ _ _ e
        simp only [tail_drop, List.drop_drop, List.length_drop] at e3 k2
        have := hkl _ _ e3 hk (by omega)
        subst this
        have p0 := hp.fst 0 (by omega)
        simp only [List.drop_zero] at p0
        have hk0 : kindP sNot = none := by decide
        have hk1 : sNot ≠ sHas := by decide
        have hk2 : sNot ≠ sAll := by decide
        have e5 : pG en f 0 [] (l.drop 1) (sz + 1) dp = .ok n' ((l.drop 1).drop k') s2 d2 := by rw [← tail_drop, tail_drop, List.drop_drop, ← e3]; rw [tail_drop] at e; exact e
        rw [facS, ← p0, h1, hk0]
        by_cases c : 100 ≤ sz'
        · exact .inl ⟨(hdW en' l').2, by simp [c, hk1, hk2]⟩
        · have hp' := hp.cut 1 (by omega)
          rw [show 1 + k' - 1 = k' by omega] at hp'
          have hw := pG_left en _ _ _ _ _ _ _ _ _ _ e
          obtain ⟨_, _, _, _, _, hle, _⟩ := hw
          rcases ih 0 [] _ _ _ _ k' _ _ (by omega) (by simp only [List.length_drop]; omega) e5 (l'.drop 1) (sz' + 1) dp' hp' with ⟨a, e6⟩ | e6
          · exact .inl ⟨a, by simp only [tail_drop, e6, if_neg hk1, if_neg hk2, if_neg c, if_true]⟩
          · refine .inr ?_
            simp only [tail_drop, e6, if_neg hk1, if_neg hk2, if_neg c, if_true, List.drop_drop]
            rw [show sz' + 1 + (s2 - (sz + 1)) = sz' + (s2 - sz) by omega]
      · have z1 := List.length_pos_iff.2 (hd_ne h1 (by decide))
        obtain ⟨k', k1, k2, e3, e4, hle, _⟩ := pG_left en _ _ _ _ _ _ _ _ _ _ e
        have z2 := List.length_pos_iff.2 (hd_ne h2 (by decide))
        subst e3
        simp only [tail_drop, List.drop_drop] at e2 h2 z2
        simp only [tail_drop, List.length_drop] at z2 k2
        have := hkl _ _ e2 hk (by omega)
        subst this
        have p0 := hp.fst 0 (by omega)
        simp only [List.drop_zero] at p0
        have hk0 : kindP [40] = none := by decide
        have hk1 : ([40] : List UInt8) ≠ sHas := by decide
        have hk2 : ([40] : List UInt8) ≠ sAll := by decide
        have hk3 : ([40] : List UInt8) ≠ sNot := by decide
        rw [tail_drop] at e
        rw [facS, ← p0, h1, hk0]
        by_cases c : 20 ≤ dp'
        · exact .inl ⟨(hdW en' l').2, by simp [c, hk1, hk2, hk3]⟩
        · have hp' := (hp.cut 1 (by omega)).less k' (by omega)
          have p2 := hp.fst (1 + k') (by omega)
          rcases ih 2 [] _ _ _ _ k' _ _ (by omega) (by simp only [List.length_drop]; omega) e (l'.drop 1) sz' (dp' + 1) hp' with ⟨a, e6⟩ | e6
          · exact .inl ⟨a, by simp only [tail_drop, e6, if_neg hk1, if_neg hk2, if_neg hk3, if_neg c, if_true]⟩
          · refine .inr ?_
            have h4 : (hdW en' (l'.drop (1 + k'))).1 = [41] := by rw [← p2]; exact h2
            simp only [tail_drop, e6, if_neg hk1, if_neg hk2, if_neg hk3, if_neg c, if_true, List.drop_drop, h4]
            rw [show dp' + 1 - 1 = dp' by omega]
    | succ m =>
      obtain ⟨n1, l1, s1, d1, e, hh⟩ := pG_ok h
      obtain ⟨k', k1, k2, rfl, _, hle, _⟩ := pG_left en _ _ _ _ _ _ _ _ _ _ e
      rw [pM1 en' m (by omega)]
      rcases hh with ⟨hb, e5⟩ | ⟨hb, rfl, e6, rfl, rfl⟩
      · have z2 := List.length_pos_iff.2 (hd_ne hb (byW_ne _))
        obtain ⟨k3, k4, k5, e7, _, hle2, _⟩ := pG_left en _ _ _ _ _ _ _ _ _ _ e5
        simp only [tail_drop, List.drop_drop, List.length_drop] at e7 k5 z2 e5
        have hkk : k = k' + 1 + k3 := by
          have := congrArg List.length e7
          simp only [List.length_drop] at this
          omega
        subst hkk
        rcases ih m [] _ _ _ _ k' _ _ (by omega) k2 e l' sz' dp' (hp.less k' (by omega)) with ⟨a, e8⟩ | e8
        · exact .inl ⟨a, by rw [e8]⟩
        · rw [e8]
          have p1 := hp.fst k' (by omega)
          rw [p1] at hb
          simp only [if_pos hb, tail_drop, List.drop_drop]
          have hp' := hp.cut (k' + 1) (by omega)
          rw [show k' + 1 + k3 - (k' + 1) = k3 by omega] at hp'
          rw [show l.drop (k' + 1 + k3) = (l.drop (k' + 1)).drop k3 by rw [List.drop_drop]] at e5
          rcases ih (m + 1) _ _ _ _ _ k3 _ _ hm (by simp only [List.length_drop]; omega) e5 (l'.drop (k' + 1)) (sz' + (s1 - sz)) dp' hp' with ⟨a, e9⟩ | e9
          · exact .inl ⟨a, e9⟩
          · refine .inr ?_
            rw [e9, List.drop_drop, show sz' + (s1 - sz) + (s2 - s1) = sz' + (s2 - sz) by omega]
      · have hkk : k = k' := by
          have := congrArg List.length e6
          simp only [List.length_drop] at this
          omega
        subst hkk
        rcases ih m [] _ _ _ _ k _ _ (by omega) k2 e l' sz' dp' hp with ⟨a, e8⟩ | e8
        · exact .inl ⟨a, by rw [e8]⟩
        · rw [e8]
          have p1 := (hp.any k (Nat.le_refl _)) (decide (m = 1))
          have hb' : ¬ (hdW en' (l'.drop k)).1 = byW (decide (m = 1)) := fun h => hb (p1.2 h)
          simp only [if_neg hb']
          exact .inr trivial
theorem toks_delim (x y : List UInt8) (b : UInt8) (hb : b = 40 ∨ b = 41) : ∀ c, toks (x ++ b :: y) c = toks x c ++ [b] :: toks y [] := by
  induction x with
  | nil =>
    intro c
    have h1 : b ≠ 32 := by rcases hb with rfl | rfl <;> decide
    simp only [List.nil_append, toks, if_neg h1, if_pos hb]
  | cons a x ih =>
    intro c
    rw [List.cons_append, toks, toks]
    split
    · rw [ih]; simp
    · split
      · rw [ih]; simp
      · rw [ih]
theorem toks_sp (x y : List UInt8) : ∀ c, toks (x ++ 32 :: y) c = toks x c ++ toks y [] := by
  induction x with
  | nil => intro c; simp only [List.nil_append, toks, if_true]
  | cons a x ih =>
    intro c
    rw [List.cons_append, toks, toks]
    split
    · rw [ih]; simp
    · split
      · rw [ih]; simp
      · rw [ih]
theorem hd_fst (en : Int) (l : List Wd) (j : Nat) : (hdW en (l.drop j)).1 = (l.map (·.1))[j]?.getD [] := by
  rw [hd_drop, List.getElem?_map]
  cases l[j]? <;> rfl
theorem pre_of {en en' : Int} {l l' : List Wd} {C : List (List UInt8)} (p : Nat) (h : (l'.map (·.1)).drop p = l.map (·.1) ++ C) (hC : ∀ o, C.head?.getD [] ≠ byW o) : Pre en en' l.length l (l'.drop p) := by
  have hl : l'.length - p = l.length + C.length := by have := congrArg List.length h; simpa using this
  have hg : ∀ j, (hdW en' ((l'.drop p).drop j)).1 = (l.map (·.1) ++ C)[j]?.getD [] := by
    intro j; rw [hd_fst, List.map_drop, h]
  refine ⟨Nat.le_refl _, by simp only [List.length_drop]; omega, fun j hj => ?_, ?_⟩
  · rw [hd_fst, hg, List.getElem?_append_left (by simpa using hj)]
  · intro o
    rw [hg, List.getElem?_append_right (by simp), List.drop_eq_nil_of_le (Nat.le_refl _)]
    simp only [List.length_map, Nat.sub_self]
    have h1 := hC o
    rw [← List.head?_eq_getElem?]
    constructor
    · intro e; exact absurd e.symm (byW_ne o)
    · intro e; exact absurd e h1
theorem pM_br {en : Int} {l : List Wd} {sz dp : Nat} (acc : List Nd) (h : (hdW en l).1 = [40]) (hd : dp < 20) : pM en 0 acc l sz dp =
    match pM en 2 [] l.tail sz (dp + 1) with
    | .ok n l2 s2 d2 => if (hdW en l2).1 = [41] then .ok n l2.tail s2 (d2 - 1) else .err 380 (hdW en l2).2
    | x => x := by
  have hk0 : kindP [40] = none := by decide
  have hk1 : ([40] : List UInt8) ≠ sHas := by decide
  have hk2 : ([40] : List UInt8) ≠ sAll := by decide
  have hk3 : ([40] : List UInt8) ≠ sNot := by decide
  have hd' : ¬ 20 ≤ dp := by omega
  rw [pM0, facS, h, hk0]
  simp only [if_neg hk1, if_neg hk2, if_neg hk3, if_neg hd', if_true]
  rfl
/-- Words in brackets answer what they answer, or are too many. -/
theorem pM_in (en en' : Int) {w : List Wd} {n : Nd} {s d : Nat} (h : pM en 2 [] w 0 0 = .ok n [] s d) (l' : List Wd) (p : Nat) (C : List (List UInt8)) (sz : Nat)
    (hl : (l'.map (·.1)).drop p = [40] :: (w.map (·.1) ++ [41] :: C)) :
    (∃ a, pM en' 0 [] (l'.drop p) sz 0 = .err 3 a) ∨ pM en' 0 [] (l'.drop p) sz 0 = .ok n (l'.drop (p + (w.length + 2))) (sz + s) 0 := by
  have e0 : (hdW en' (l'.drop p)).1 = [40] := by rw [hd_fst, ← List.head?_drop, hl]; rfl
  have e1 : (l'.map (·.1)).drop (p + 1) = w.map (·.1) ++ [41] :: C := by rw [← List.drop_drop, hl]; rfl
  have hp : Pre en en' w.length w (l'.drop (p + 1)) := pre_of (p + 1) e1 (by intro o; show [41] ≠ byW o; cases o <;> decide)
  rw [pM_br [] e0 (by omega), tail_drop, List.drop_drop]
  have h' : pG en (3 * w.length + 2 + 1) 2 [] w 0 0 = .ok n (w.drop w.length) s d := by rw [List.drop_eq_nil_of_le (Nat.le_refl _)]; exact h
  rcases pM_else en en' _ 2 [] w 0 0 n w.length s d (by omega) (Nat.le_refl _) h' _ sz (0 + 1) hp with ⟨a, e⟩ | e
  · exact .inl ⟨a, by rw [e]⟩
  · refine .inr ?_
    rw [e]
    have e2 : (hdW en' ((l'.drop (p + 1)).drop w.length)).1 = [41] := by
      rw [List.drop_drop, hd_fst, ← List.head?_drop, ← List.drop_drop, e1]
      simp
    simp only [if_pos e2]
    rw [tail_drop, List.drop_drop, List.drop_drop, show p + 1 + (w.length + 1) = p + (w.length + 2) by omega]
    rfl
def joinT (o : Bool) (a b : List UInt8) : List UInt8 := 40 :: (a ++ 41 :: ((if o then [111, 114] else [32, 97, 110, 100, 32]) ++ 40 :: (b ++ [41])))
theorem joinT_toks (o : Bool) (a b : List UInt8) : toks (joinT o a b) [] = [40] :: (toks a [] ++ [41] :: byW o :: [40] :: (toks b [] ++ [[41]])) := by
  have e1 : ∀ z, toks (40 :: z) [] = [40] :: toks z [] := fun z => by have := toks_delim [] z 40 (.inl rfl) []; simpa [toks, fl] using this
  have e2 : ∀ x, toks (x ++ [41]) [] = toks x [] ++ [[41]] := fun x => by have := toks_delim x [] 41 (.inr rfl) []; simpa [toks, fl] using this
  unfold joinT
  rw [e1, toks_delim a _ 41 (.inr rfl)]
  cases o
  · have : (if false = true then [111, 114] else [32, 97, 110, 100, 32] : List UInt8) ++ 40 :: (b ++ [41]) = [32, 97, 110, 100] ++ 32 :: 40 :: (b ++ [41]) := rfl
    rw [this, toks_sp, e1, e2]
    rfl
  · have : (if true = true then [111, 114] else [32, 97, 110, 100, 32] : List UInt8) ++ 40 :: (b ++ [41]) = [111, 114] ++ 40 :: (b ++ [41]) := rfl
    rw [this, toks_delim _ _ 40 (.inl rfl), e2]
    rfl
theorem parse_ok {s : List UInt8} {n : Nd} {z : Nat} {p e : Int} (h : parseP s = (some (n, z), p, e)) : ∃ d, pM s.length 2 [] (wordsP s) 0 0 = .ok n [] z d ∧ s.length ≤ 1000 ∧ p = s.length ∧ e = 0 := by
  rw [parse_pM] at h
  split at h
  · cases h
  · split at h
    · next n' l' z' d' e' =>
      split at h
      · next hl => subst hl; cases h; exact ⟨d', e', by omega, rfl, rfl⟩
      · cases h
    · cases h
    · cases h
theorem join_parse (o : Bool) (a b : List UInt8) (n1 n2 : Nd) (z1 z2 : Nat) (p1 p2 e1 e2 : Int) (ha : parseP a = (some (n1, z1), p1, e1)) (hb : parseP b = (some (n2, z2), p2, e2)) (hab : a.length + b.length ≤ 900) :
    (∃ p, parseP (joinT o a b) = (none, p, 3)) ∨ ∃ n z, parseP (joinT o a b) = (some (n, z), ((joinT o a b).length : Int), 0) ∧
      ∀ q t d, meetN q t d n = if o then meetN q t d n1 || meetN q t d n2 else meetN q t d n1 && meetN q t d n2 := by
  obtain ⟨d1, ha, _⟩ := parse_ok ha
  obtain ⟨d2, hb, _⟩ := parse_ok hb
  have hT : (joinT o a b).length ≤ 1000 := by cases o <;> simp [joinT] <;> omega
  have hw : (wordsP (joinT o a b)).map (·.1) = [40] :: ((wordsP a).map (·.1) ++ [41] :: byW o :: [40] :: ((wordsP b).map (·.1) ++ [[41]])) := by
    rw [words_toks, joinT_toks, words_toks, words_toks]
  rw [parse_pM, if_neg (by omega)]
  generalize hen : ((joinT o a b).length : Int) = en
  generalize wordsP (joinT o a b) = X at hw
  generalize wordsP a = wa at *
  generalize wordsP b = wb at *
  have hX : X.length = wa.length + wb.length + 5 := by have := congrArg List.length hw; simp at this; omega
  have dr2 : (X.map (·.1)).drop (wa.length + 2) = byW o :: [40] :: (wb.map (·.1) ++ [[41]]) := by
    have e : (wa.map (·.1)).length = wa.length := by simp
    rw [hw, List.drop_succ_cons, ← e, List.drop_length_add_append]; rfl
  have dr3 : (X.map (·.1)).drop (wa.length + 3) = [40] :: (wb.map (·.1) ++ [41] :: []) := by show (X.map (·.1)).drop (wa.length + 2 + 1) = _; rw [← List.drop_drop, dr2]; rfl
  have hd2 : (hdW en (X.drop (wa.length + 2))).1 = byW o := by rw [hd_fst, ← List.head?_drop, dr2]; rfl
  have hX0 : X.drop (wa.length + 3 + (wb.length + 2)) = [] := List.drop_eq_nil_of_le (by omega)
  have hdn : ∀ o', (hdW en ([] : List Wd)).1 ≠ byW o' := fun o' e => byW_ne o' e.symm
  have hne : byW true ≠ byW false := by decide
  have I1 := pM_in _ en ha X 0 (byW o :: [40] :: (wb.map (·.1) ++ [[41]])) 0 (by rw [List.drop_zero]; exact hw)
  rw [List.drop_zero, Nat.zero_add] at I1
  rcases I1 with ⟨x, I1⟩ | I1
  · refine .inl ⟨x, ?_⟩
    rw [pM1 en 1 (by omega), pM1 en 0 (by omega), I1]
  have I2 := pM_in _ en hb X (wa.length + 3) [] (0 + z1) dr3
  rw [hX0] at I2
  have t2 : (X.drop (wa.length + 2)).tail = X.drop (wa.length + 3) := by rw [tail_drop, List.drop_drop]
  cases o with
  | false =>
    have m1 : pM en 1 [] X 0 0 = pM en 1 ([] ++ flat false n1) (X.drop (wa.length + 3)) (0 + z1) 0 := by
      rw [pM1 en 0 (by omega), I1]
      simp only [show decide (0 = 1) = false from rfl]
      rw [if_pos hd2, t2]
    rcases I2 with ⟨x, I2⟩ | I2
    · refine .inl ⟨x, ?_⟩
      rw [pM1 en 1 (by omega), m1, pM1 en 0 (by omega), I2]
    · refine .inr ⟨mkN true ([] ++ flat true (mkN false ([] ++ flat false n1 ++ flat false n2))), 0 + z1 + z2, ?_, fun q t d => ?_⟩
      · have m2 : pM en 1 [] X 0 0 = .ok (mkN false ([] ++ flat false n1 ++ flat false n2)) [] (0 + z1 + z2) 0 := by
          rw [m1, pM1 en 0 (by omega), I2]
          simp only [show decide (0 = 1) = false from rfl]
          rw [if_neg (hdn false)]
        rw [pM1 en 1 (by omega), m2]
        simp only [decide_true]
        rw [if_neg (hdn true)]
        simp only [if_true]
      · simp only [List.nil_append, meetN_mk, meetL_flat, meetL_app, Bool.false_eq_true, if_false]
  | true =>
    have m1 : pM en 1 [] X 0 0 = .ok (mkN false ([] ++ flat false n1)) (X.drop (wa.length + 2)) (0 + z1) 0 := by
      rw [pM1 en 0 (by omega), I1]
      simp only [show decide (0 = 1) = false from rfl]
      rw [if_neg (by rw [hd2]; exact hne)]
    have m2 : pM en 2 [] X 0 0 = pM en 2 ([] ++ flat true (mkN false ([] ++ flat false n1))) (X.drop (wa.length + 3)) (0 + z1) 0 := by
      rw [pM1 en 1 (by omega), m1]
      simp only [decide_true]
      rw [if_pos hd2, t2]
    rcases I2 with ⟨x, I2⟩ | I2
    · refine .inl ⟨x, ?_⟩
      rw [m2, pM1 en 1 (by omega), pM1 en 0 (by omega), I2]
    · refine .inr ⟨mkN true ([] ++ flat true (mkN false ([] ++ flat false n1)) ++ flat true (mkN false ([] ++ flat false n2))), 0 + z1 + z2, ?_, fun q t d => ?_⟩
      · have m3 : pM en 1 [] (X.drop (wa.length + 3)) (0 + z1) 0 = .ok (mkN false ([] ++ flat false n2)) [] (0 + z1 + z2) 0 := by
          rw [pM1 en 0 (by omega), I2]
          simp only [show decide (0 = 1) = false from rfl]
          rw [if_neg (hdn false)]
        rw [m2, pM1 en 1 (by omega), m3]
        simp only [decide_true]
        rw [if_neg (hdn true)]
        simp only [if_true]
      · simp only [List.nil_append, meetN_mk, meetL_flat, meetL_app, if_true]
end SieW
end Go.Proofs.YtdeiehgghhiijaaDoor
