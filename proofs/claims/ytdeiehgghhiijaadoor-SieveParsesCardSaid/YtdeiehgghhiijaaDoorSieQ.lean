/- Plain: sentences: what meets one; the same words put elsewhere; two sentences joined. Plain: numbers and bytes are read as they were written. Plain: sentences: what was read, written, is read as the same. -/
import Derived.Test.YtdeiehgghhiijaaDoorSieP
import Derived.Test.YtdeiehgghhiijaaDoorSpanW
import Derived.Test.YtdeiehgghhiijaaDoorKmpP
import Derived.Test.YtdeiehgghhiijaaDoorWanJ
namespace Go.Proofs.YtdeiehgghhiijaaDoor
set_option linter.unusedVariables false
set_option linter.unusedSimpArgs false
set_option linter.unnecessarySimpa false
open Go.RowKit
namespace SieW
mutual
/-- A record meets a part. -/
def meetN (q t : Int) (d : List UInt8) : Nd → Bool
  | .within k lo hi => SpanW.hasB lo hi (if k = 0 then q else if k = 1 then t else (d.length : Int))
  | .has s => KmpW.kin s d
  | .all => true
  | .not n => !meetN q t d n
  | .row o l => meetL q t d o l
def meetL (q t : Int) (d : List UInt8) (o : Bool) : List Nd → Bool
  | [] => !o
  | a :: l => if meetN q t d a = o then o else meetL q t d o l
end
section
variable (q t : Int) (d : List UInt8)
theorem meetL_or (l : List Nd) : meetL q t d true l = l.any (meetN q t d) := by
  induction l with
  | nil => simp [meetL]
  | cons a l ih => simp only [meetL, ih, List.any_cons]; cases meetN q t d a <;> simp
theorem meetL_and (l : List Nd) : meetL q t d false l = l.all (meetN q t d) := by
  induction l with
  | nil => simp [meetL]
  | cons a l ih => simp only [meetL, ih, List.all_cons]; cases meetN q t d a <;> simp
theorem meetL_app (o : Bool) (a b : List Nd) : meetL q t d o (a ++ b) = if o then meetL q t d o a || meetL q t d o b else meetL q t d o a && meetL q t d o b := by
  cases o
  · simp [meetL_and]
  · simp [meetL_or]
theorem meetL_flat (o : Bool) (n : Nd) : meetL q t d o (flat o n) = meetN q t d n := by
  have one : ∀ x : Nd, meetL q t d o [x] = meetN q t d x := by
    intro x; simp only [meetL]; cases o <;> cases meetN q t d x <;> rfl
  cases n with
  | row o2 l =>
    rw [flat]
    split
    · next e => subst e; simp [meetN]
    · exact one _
  | _ => exact one _
theorem meetN_mk (o : Bool) (l : List Nd) : meetN q t d (mkN o l) = meetL q t d o l := by
  unfold mkN
  split
  · next x => simp only [meetL]; cases o <;> cases meetN q t d x <;> rfl
  · rw [meetN]
end
/-- Two ends go on alike: neither, or both, by and, by or. -/
def alikeW (a b : List UInt8) : Prop := ∀ o, (a = byW o ↔ b = byW o)
theorem alikeW.refl (a : List UInt8) : alikeW a a := fun _ => Iff.rfl
theorem hd_drop (en : Int) (l : List Wd) (k : Nat) : hdW en (l.drop k) = l[k]?.getD ([], en) := by unfold hdW; rw [List.head?_drop]
/-- Two rows have the same first k words, and go on alike behind them. -/
def Pre (en en' : Int) (k : Nat) (l l' : List Wd) : Prop := k ≤ l.length ∧ k ≤ l'.length ∧ (∀ j, j < k → (hdW en (l.drop j)).1 = (hdW en' (l'.drop j)).1) ∧ alikeW (hdW en (l.drop k)).1 (hdW en' (l'.drop k)).1
theorem Pre.fst {en en' : Int} {k : Nat} {l l' : List Wd} (h : Pre en en' k l l') (j : Nat) (hj : j < k) : (hdW en (l.drop j)).1 = (hdW en' (l'.drop j)).1 := h.2.2.1 j hj
theorem Pre.any {en en' : Int} {k : Nat} {l l' : List Wd} (h : Pre en en' k l l') (j : Nat) (hj : j ≤ k) : alikeW (hdW en (l.drop j)).1 (hdW en' (l'.drop j)).1 := by
  rcases Nat.lt_or_ge j k with h1 | h1
  · rw [h.fst j h1]; exact alikeW.refl _
  · have : j = k := by omega
    subst this; exact h.2.2.2
theorem Pre.cut {en en' : Int} {k : Nat} {l l' : List Wd} (h : Pre en en' k l l') (j : Nat) (hj : j ≤ k) : Pre en en' (k - j) (l.drop j) (l'.drop j) := by
  obtain ⟨h1, h2, h3, h4⟩ := h
  refine ⟨by simp only [List.length_drop]; omega, by simp only [List.length_drop]; omega, fun i hi => ?_, ?_⟩
  · rw [List.drop_drop, List.drop_drop]; exact h3 _ (by omega)
  · rw [List.drop_drop, List.drop_drop, show j + (k - j) = k by omega]; exact h4
theorem Pre.less {en en' : Int} {k : Nat} {l l' : List Wd} (h : Pre en en' k l l') (j : Nat) (hj : j ≤ k) : Pre en en' j l l' :=
  ⟨by have := h.1; omega, by have := h.2.1; omega, fun i hi => h.fst i (by omega), h.any j hj⟩
/-- Put elsewhere, the same words answer the same, or are too many. -/
theorem pM_else (en en' : Int) : ∀ (f m : Nat) (acc : List Nd) (l : List Wd) (sz dp : Nat) (n : Nd) (k s2 d2 : Nat), m ≤ 2 → k ≤ l.length → pG en f m acc l sz dp = .ok n (l.drop k) s2 d2 →
    ∀ (l' : List Wd) (sz' dp' : Nat), Pre en en' k l l' →
    (∃ a, pM en' m acc l' sz' dp' = .err 3 a) ∨ pM en' m acc l' sz' dp' = .ok n (l'.drop k) (sz' + (s2 - sz)) dp' := by
  intro f
  induction f with
  | zero => intro m acc l sz dp n k s2 d2 hm hk h; rw [pG] at h; cases h
  | succ f ih =>
    intro m acc l sz dp n k s2 d2 hm hk h l' sz' dp' hp
    cases m with
    | zero =>
      rw [pG] at h
      rw [pM0]
      have hkl : ∀ a b, l.drop a = l.drop b → a ≤ l.length → b ≤ l.length → a = b := by
        intro a b e ha hb
        have := congrArg List.length e
        simp only [List.length_drop] at this
        omega
      have hl1 : ∀ c : Nat, 0 < c → c ≤ l.length → l ≠ [] := by intro c hc hc2 e; rw [e] at hc2; simp at hc2; omega
      have d0 : l = l.drop 0 := rfl
      have d0' : l' = l'.drop 0 := rfl
      rcases facS_ok h with ⟨kk, a, b, h1, hs, h2, rfl, e2, rfl, rfl⟩ | ⟨h1, hs, b, h2, rfl, e2, rfl, rfl⟩ | ⟨h1, hs, rfl, e2, rfl, rfl⟩ | ⟨h1, hs, n', e, rfl⟩ | ⟨h1, hd', l3, d3, e, h2, e2, rfl⟩
      · have z1 := List.length_pos_iff.2 (hd_ne rfl (kind_ne h1))
        have z2 := List.length_pos_iff.2 (hd_ne (en := en) rfl (nums_ne h2))
        simp only [tail_drop, List.drop_drop] at e2 h2 z2
        simp only [List.length_drop] at z2
        have := hkl _ _ e2 hk (by omega)
        subst this
        have p0 := hp.fst 0 (by omega)
        have p1 := hp.fst 1 (by omega)
        simp only [List.drop_zero] at p0
        rw [facS, ← p0, h1]
        simp only [tail_drop]
        rw [← p1, h2]
        by_cases c : 100 ≤ sz'
        · exact .inl ⟨_, by rw [if_pos c]⟩
        · exact .inr (by rw [if_neg c]; simp)
      · have z1 := List.length_pos_iff.2 (hd_ne h1 (by decide))
        have z2 := List.length_pos_iff.2 (hd_ne (en := en) rfl (bytes_ne h2))
        simp only [tail_drop, List.drop_drop] at e2 h2 z2
        simp only [List.length_drop] at z2
        have := hkl _ _ e2 hk (by omega)
        subst this
        have p0 := hp.fst 0 (by omega)
        have p1 := hp.fst 1 (by omega)
        simp only [List.drop_zero] at p0
        rw [facS, ← p0, h1]
        simp only [tail_drop]
        rw [← p1, h2]
        have hk0 : kindP sHas = none := by decide
        rw [hk0]
        by_cases c : 100 ≤ sz'
        · exact .inl ⟨(hdW en' l').2, by simp [c]⟩
        · exact .inr (by simp [c])
      · have z1 := List.length_pos_iff.2 (hd_ne h1 (by decide))
        simp only [tail_drop] at e2
        have := hkl _ _ e2 hk (by omega)
        subst this
        have p0 := hp.fst 0 (by omega)
        simp only [List.drop_zero] at p0
        rw [facS, ← p0, h1]
        have hk0 : kindP sAll = none := by decide
        have hk1 : sAll ≠ sHas := by decide
        rw [hk0]
        by_cases c : 100 ≤ sz'
        · exact .inl ⟨(hdW en' l').2, by simp [c, hk1]⟩
        · exact .inr (by simp [c, hk1])
      · have z1 := List.length_pos_iff.2 (hd_ne h1 (by decide))
        obtain ⟨k', k1, k2, e3, e4, _⟩ := pG_left en _ _ _ _ _ _ _ _ _ _ e
        simp only [tail_drop, List.drop_drop, List.length_drop] at e3 k2
        have := hkl _ _ e3 hk (by omega)
        subst this
        have p0 := hp.fst 0 (by omega)
        simp only [List.drop_zero] at p0
        have hk0 : kindP sNot = none := by decide
        have hk1 : sNot ≠ sHas := by decide
        have hk2 : sNot ≠ sAll := by decide
        have e5 : pG en f 0 [] (l.drop 1) (sz + 1) dp = .ok n' ((l.drop 1).drop k') s2 d2 := by rw [← tail_drop, tail_drop, List.drop_drop, ← e3]; rw [tail_drop] at e; exact e
        rw [facS, ← p0, h1, hk0]
        by_cases c : 100 ≤ sz'
        · exact .inl ⟨(hdW en' l').2, by simp [c, hk1, hk2]⟩
        · have hp' := hp.cut 1 (by omega)
          rw [show 1 + k' - 1 = k' by omega] at hp'
          have hw := pG_left en _ _ _ _ _ _ _ _ _ _ e
          obtain ⟨_, _, _, _, _, hle, _⟩ := hw
          rcases ih 0 [] _ _ _ _ k' _ _ (by omega) (by simp only [List.length_drop]; omega) e5 (l'.drop 1) (sz' + 1) dp' hp' with ⟨a, e6⟩ | e6
          · exact .inl ⟨a, by simp only [tail_drop, e6, if_neg hk1, if_neg hk2, if_neg c, if_true]⟩
          · refine .inr ?_
            simp only [tail_drop, e6, if_neg hk1, if_neg hk2, if_neg c, if_true, List.drop_drop]
            rw [show sz' + 1 + (s2 - (sz + 1)) = sz' + (s2 - sz) by omega]
      · have z1 := List.length_pos_iff.2 (hd_ne h1 (by decide))
        obtain ⟨k', k1, k2, e3, e4, hle, _⟩ := pG_left en _ _ _ _ _ _ _ _ _ _ e
        have z2 := List.length_pos_iff.2 (hd_ne h2 (by decide))
        subst e3
        simp only [tail_drop, List.drop_drop] at e2 h2 z2
        simp only [tail_drop, List.length_drop] at z2 k2
        have := hkl _ _ e2 hk (by omega)
        subst this
        have p0 := hp.fst 0 (by omega)
        simp only [List.drop_zero] at p0
        have hk0 : kindP [40] = none := by decide
        have hk1 : ([40] : List UInt8) ≠ sHas := by decide
        have hk2 : ([40] : List UInt8) ≠ sAll := by decide
        have hk3 : ([40] : List UInt8) ≠ sNot := by decide
        rw [tail_drop] at e
        rw [facS, ← p0, h1, hk0]
        by_cases c : 20 ≤ dp'
        · exact .inl ⟨(hdW en' l').2, by simp [c, hk1, hk2, hk3]⟩
        · have hp' := (hp.cut 1 (by omega)).less k' (by omega)
          have p2 := hp.fst (1 + k') (by omega)
          rcases ih 2 [] _ _ _ _ k' _ _ (by omega) (by simp only [List.length_drop]; omega) e (l'.drop 1) sz' (dp' + 1) hp' with ⟨a, e6⟩ | e6
          · exact .inl ⟨a, by simp only [tail_drop, e6, if_neg hk1, if_neg hk2, if_neg hk3, if_neg c, if_true]⟩
          · refine .inr ?_
            have h4 : (hdW en' (l'.drop (1 + k'))).1 = [41] := by rw [← p2]; exact h2
            simp only [tail_drop, e6, if_neg hk1, if_neg hk2, if_neg hk3, if_neg c, if_true, List.drop_drop, h4]
            rw [show dp' + 1 - 1 = dp' by omega]
    | succ m =>
      obtain ⟨n1, l1, s1, d1, e, hh⟩ := pG_ok h
      obtain ⟨k', k1, k2, rfl, _, hle, _⟩ := pG_left en _ _ _ _ _ _ _ _ _ _ e
      rw [pM1 en' m (by omega)]
      rcases hh with ⟨hb, e5⟩ | ⟨hb, rfl, e6, rfl, rfl⟩
      · have z2 := List.length_pos_iff.2 (hd_ne hb (byW_ne _))
        obtain ⟨k3, k4, k5, e7, _, hle2, _⟩ := pG_left en _ _ _ _ _ _ _ _ _ _ e5
        simp only [tail_drop, List.drop_drop, List.length_drop] at e7 k5 z2 e5
        have hkk : k = k' + 1 + k3 := by
          have := congrArg List.length e7
          simp only [List.length_drop] at this
          omega
        subst hkk
        rcases ih m [] _ _ _ _ k' _ _ (by omega) k2 e l' sz' dp' (hp.less k' (by omega)) with ⟨a, e8⟩ | e8
        · exact .inl ⟨a, by rw [e8]⟩
        · rw [e8]
          have p1 := hp.fst k' (by omega)
          rw [p1] at hb
          simp only [if_pos hb, tail_drop, List.drop_drop]
          have hp' := hp.cut (k' + 1) (by omega)
          rw [show k' + 1 + k3 - (k' + 1) = k3 by omega] at hp'
          rw [show l.drop (k' + 1 + k3) = (l.drop (k' + 1)).drop k3 by rw [List.drop_drop]] at e5
          rcases ih (m + 1) _ _ _ _ _ k3 _ _ hm (by simp only [List.length_drop]; omega) e5 (l'.drop (k' + 1)) (sz' + (s1 - sz)) dp' hp' with ⟨a, e9⟩ | e9
          · exact .inl ⟨a, e9⟩
          · refine .inr ?_
            rw [e9, List.drop_drop, show sz' + (s1 - sz) + (s2 - s1) = sz' + (s2 - sz) by omega]
      · have hkk : k = k' := by
          have := congrArg List.length e6
          simp only [List.length_drop] at this
          omega
        subst hkk
        rcases ih m [] _ _ _ _ k _ _ (by omega) k2 e l' sz' dp' hp with ⟨a, e8⟩ | e8
        · exact .inl ⟨a, by rw [e8]⟩
        · rw [e8]
          have p1 := (hp.any k (Nat.le_refl _)) (decide (m = 1))
          have hb' : ¬ (hdW en' (l'.drop k)).1 = byW (decide (m = 1)) := fun h => hb (p1.2 h)
          simp only [if_neg hb']
          exact .inr trivial
theorem toks_delim (x y : List UInt8) (b : UInt8) (hb : b = 40 ∨ b = 41) : ∀ c, toks (x ++ b :: y) c = toks x c ++ [b] :: toks y [] := by
  induction x with
  | nil =>
    intro c
    have h1 : b ≠ 32 := by rcases hb with rfl | rfl <;> decide
    simp only [List.nil_append, toks, if_neg h1, if_pos hb]
  | cons a x ih =>
    intro c
    rw [List.cons_append, toks, toks]
    split
    · rw [ih]; simp
    · split
      · rw [ih]; simp
      · rw [ih]
theorem toks_sp (x y : List UInt8) : ∀ c, toks (x ++ 32 :: y) c = toks x c ++ toks y [] := by
  induction x with
  | nil => intro c; simp only [List.nil_append, toks, if_true]
  | cons a x ih =>
    intro c
    rw [List.cons_append, toks, toks]
    split
    · rw [ih]; simp
    · split
      · rw [ih]; simp
      · rw [ih]
theorem hd_fst (en : Int) (l : List Wd) (j : Nat) : (hdW en (l.drop j)).1 = (l.map (·.1))[j]?.getD [] := by
  rw [hd_drop, List.getElem?_map]
  cases l[j]? <;> rfl
theorem pre_of {en en' : Int} {l l' : List Wd} {C : List (List UInt8)} (p : Nat) (h : (l'.map (·.1)).drop p = l.map (·.1) ++ C) (hC : ∀ o, C.head?.getD [] ≠ byW o) : Pre en en' l.length l (l'.drop p) := by
  have hl : l'.length - p = l.length + C.length := by have := congrArg List.length h; simpa using this
  have hg : ∀ j, (hdW en' ((l'.drop p).drop j)).1 = (l.map (·.1) ++ C)[j]?.getD [] := by
    intro j; rw [hd_fst, List.map_drop, h]
  refine ⟨Nat.le_refl _, by simp only [List.length_drop]; omega, fun j hj => ?_, ?_⟩
  · rw [hd_fst, hg, List.getElem?_append_left (by simpa using hj)]
  · intro o
    rw [hg, List.getElem?_append_right (by simp), List.drop_eq_nil_of_le (Nat.le_refl _)]
    simp only [List.length_map, Nat.sub_self]
    have h1 := hC o
    rw [← List.head?_eq_getElem?]
    constructor
    · intro e; exact absurd e.symm (byW_ne o)
    · intro e; exact absurd e h1
theorem pM_br {en : Int} {l : List Wd} {sz dp : Nat} (acc : List Nd) (h : (hdW en l).1 = [40]) (hd : dp < 20) : pM en 0 acc l sz dp =
    match pM en 2 [] l.tail sz (dp + 1) with
    | .ok n l2 s2 d2 => if (hdW en l2).1 = [41] then .ok n l2.tail s2 (d2 - 1) else .err 380 (hdW en l2).2
    | x => x := by
  have hk0 : kindP [40] = none := by decide
  have hk1 : ([40] : List UInt8) ≠ sHas := by decide
  have hk2 : ([40] : List UInt8) ≠ sAll := by decide
  have hk3 : ([40] : List UInt8) ≠ sNot := by decide
  have hd' : ¬ 20 ≤ dp := by omega
  rw [pM0, facS, h, hk0]
  simp only [if_neg hk1, if_neg hk2, if_neg hk3, if_neg hd', if_true]
  rfl
/-- Words in brackets answer what they answer, or are too many. -/
theorem pM_in (en en' : Int) {w : List Wd} {n : Nd} {s d : Nat} (h : pM en 2 [] w 0 0 = .ok n [] s d) (l' : List Wd) (p : Nat) (C : List (List UInt8)) (sz : Nat)
    (hl : (l'.map (·.1)).drop p = [40] :: (w.map (·.1) ++ [41] :: C)) :
    (∃ a, pM en' 0 [] (l'.drop p) sz 0 = .err 3 a) ∨ pM en' 0 [] (l'.drop p) sz 0 = .ok n (l'.drop (p + (w.length + 2))) (sz + s) 0 := by
  have e0 : (hdW en' (l'.drop p)).1 = [40] := by rw [hd_fst, ← List.head?_drop, hl]; rfl
  have e1 : (l'.map (·.1)).drop (p + 1) = w.map (·.1) ++ [41] :: C := by rw [← List.drop_drop, hl]; rfl
  have hp : Pre en en' w.length w (l'.drop (p + 1)) := pre_of (p + 1) e1 (by intro o; show [41] ≠ byW o; cases o <;> decide)
  rw [pM_br [] e0 (by omega), tail_drop, List.drop_drop]
  have h' : pG en (3 * w.length + 2 + 1) 2 [] w 0 0 = .ok n (w.drop w.length) s d := by rw [List.drop_eq_nil_of_le (Nat.le_refl _)]; exact h
  rcases pM_else en en' _ 2 [] w 0 0 n w.length s d (by omega) (Nat.le_refl _) h' _ sz (0 + 1) hp with ⟨a, e⟩ | e
  · exact .inl ⟨a, by rw [e]⟩
  · refine .inr ?_
    rw [e]
    have e2 : (hdW en' ((l'.drop (p + 1)).drop w.length)).1 = [41] := by
      rw [List.drop_drop, hd_fst, ← List.head?_drop, ← List.drop_drop, e1]
      simp
    simp only [if_pos e2]
    rw [tail_drop, List.drop_drop, List.drop_drop, show p + 1 + (w.length + 1) = p + (w.length + 2) by omega]
    rfl
def joinT (o : Bool) (a b : List UInt8) : List UInt8 := 40 :: (a ++ 41 :: ((if o then [111, 114] else [32, 97, 110, 100, 32]) ++ 40 :: (b ++ [41])))
theorem joinT_toks (o : Bool) (a b : List UInt8) : toks (joinT o a b) [] = [40] :: (toks a [] ++ [41] :: byW o :: [40] :: (toks b [] ++ [[41]])) := by
  have e1 : ∀ z, toks (40 :: z) [] = [40] :: toks z [] := fun z => by have := toks_delim [] z 40 (.inl rfl) []; simpa [toks, fl] using this
  have e2 : ∀ x, toks (x ++ [41]) [] = toks x [] ++ [[41]] := fun x => by have := toks_delim x [] 41 (.inr rfl) []; simpa [toks, fl] using this
  unfold joinT
  rw [e1, toks_delim a _ 41 (.inr rfl)]
  cases o
  · have : (if false = true then [111, 114] else [32, 97, 110, 100, 32] : List UInt8) ++ 40 :: (b ++ [41]) = [32, 97, 110, 100] ++ 32 :: 40 :: (b ++ [41]) := rfl
    rw [this, toks_sp, e1, e2]
    rfl
  · have : (if true = true then [111, 114] else [32, 97, 110, 100, 32] : List UInt8) ++ 40 :: (b ++ [41]) = [111, 114] ++ 40 :: (b ++ [41]) := rfl
    rw [this, toks_delim _ _ 40 (.inl rfl), e2]
    rfl
theorem parse_ok {s : List UInt8} {n : Nd} {z : Nat} {p e : Int} (h : parseP s = (some (n, z), p, e)) : ∃ d, pM s.length 2 [] (wordsP s) 0 0 = .ok n [] z d ∧ s.length ≤ 1000 ∧ p = s.length ∧ e = 0 := by
  rw [parse_pM] at h
  split at h
  · cases h
  · split at h
    · next n' l' z' d' e' =>
      split at h
      · next hl => subst hl; cases h; exact ⟨d', e', by omega, rfl, rfl⟩
      · cases h
    · cases h
    · cases h
theorem join_parse (o : Bool) (a b : List UInt8) (n1 n2 : Nd) (z1 z2 : Nat) (p1 p2 e1 e2 : Int) (ha : parseP a = (some (n1, z1), p1, e1)) (hb : parseP b = (some (n2, z2), p2, e2)) (hab : a.length + b.length ≤ 900) :
    (∃ p, parseP (joinT o a b) = (none, p, 3)) ∨ ∃ n z, parseP (joinT o a b) = (some (n, z), ((joinT o a b).length : Int), 0) ∧
      ∀ q t d, meetN q t d n = if o then meetN q t d n1 || meetN q t d n2 else meetN q t d n1 && meetN q t d n2 := by
  obtain ⟨d1, ha, _⟩ := parse_ok ha
  obtain ⟨d2, hb, _⟩ := parse_ok hb
  have hT : (joinT o a b).length ≤ 1000 := by cases o <;> simp [joinT] <;> omega
  have hw : (wordsP (joinT o a b)).map (·.1) = [40] :: ((wordsP a).map (·.1) ++ [41] :: byW o :: [40] :: ((wordsP b).map (·.1) ++ [[41]])) := by
    rw [words_toks, joinT_toks, words_toks, words_toks]
  rw [parse_pM, if_neg (by omega)]
  generalize hen : ((joinT o a b).length : Int) = en
  generalize wordsP (joinT o a b) = X at hw
  generalize wordsP a = wa at *
  generalize wordsP b = wb at *
  have hX : X.length = wa.length + wb.length + 5 := by have := congrArg List.length hw; simp at this; omega
  have dr2 : (X.map (·.1)).drop (wa.length + 2) = byW o :: [40] :: (wb.map (·.1) ++ [[41]]) := by
    have e : (wa.map (·.1)).length = wa.length := by simp
    rw [hw, List.drop_succ_cons, ← e, List.drop_length_add_append]; rfl
  have dr3 : (X.map (·.1)).drop (wa.length + 3) = [40] :: (wb.map (·.1) ++ [41] :: []) := by show (X.map (·.1)).drop (wa.length + 2 + 1) = _; rw [← List.drop_drop, dr2]; rfl
  have hd2 : (hdW en (X.drop (wa.length + 2))).1 = byW o := by rw [hd_fst, ← List.head?_drop, dr2]; rfl
  have hX0 : X.drop (wa.length + 3 + (wb.length + 2)) = [] := List.drop_eq_nil_of_le (by omega)
  have hdn : ∀ o', (hdW en ([] : List Wd)).1 ≠ byW o' := fun o' e => byW_ne o' e.symm
  have hne : byW true ≠ byW false := by decide
  have I1 := pM_in _ en ha X 0 (byW o :: [40] :: (wb.map (·.1) ++ [[41]])) 0 (by rw [List.drop_zero]; exact hw)
  rw [List.drop_zero, Nat.zero_add] at I1
  rcases I1 with ⟨x, I1⟩ | I1
  · refine .inl ⟨x, ?_⟩
    rw [pM1 en 1 (by omega), pM1 en 0 (by omega), I1]
  have I2 := pM_in _ en hb X (wa.length + 3) [] (0 + z1) dr3
  rw [hX0] at I2
  have t2 : (X.drop (wa.length + 2)).tail = X.drop (wa.length + 3) := by rw [tail_drop, List.drop_drop]
  cases o with
  | false =>
    have m1 : pM en 1 [] X 0 0 = pM en 1 ([] ++ flat false n1) (X.drop (wa.length + 3)) (0 + z1) 0 := by
      rw [pM1 en 0 (by omega), I1]
      simp only [show decide (0 = 1) = false from rfl]
      rw [if_pos hd2, t2]
    rcases I2 with ⟨x, I2⟩ | I2
    · refine .inl ⟨x, ?_⟩
      rw [pM1 en 1 (by omega), m1, pM1 en 0 (by omega), I2]
    · refine .inr ⟨mkN true ([] ++ flat true (mkN false ([] ++ flat false n1 ++ flat false n2))), 0 + z1 + z2, ?_, fun q t d => ?_⟩
      · have m2 : pM en 1 [] X 0 0 = .ok (mkN false ([] ++ flat false n1 ++ flat false n2)) [] (0 + z1 + z2) 0 := by
          rw [m1, pM1 en 0 (by omega), I2]
          simp only [show decide (0 = 1) = false from rfl]
          rw [if_neg (hdn false)]
        rw [pM1 en 1 (by omega), m2]
        simp only [decide_true]
        rw [if_neg (hdn true)]
        simp only [if_true]
      · simp only [List.nil_append, meetN_mk, meetL_flat, meetL_app, Bool.false_eq_true, if_false]
  | true =>
    have m1 : pM en 1 [] X 0 0 = .ok (mkN false ([] ++ flat false n1)) (X.drop (wa.length + 2)) (0 + z1) 0 := by
      rw [pM1 en 0 (by omega), I1]
      simp only [show decide (0 = 1) = false from rfl]
      rw [if_neg (by rw [hd2]; exact hne)]
    have m2 : pM en 2 [] X 0 0 = pM en 2 ([] ++ flat true (mkN false ([] ++ flat false n1))) (X.drop (wa.length + 3)) (0 + z1) 0 := by
      rw [pM1 en 1 (by omega), m1]
      simp only [decide_true]
      rw [if_pos hd2, t2]
    rcases I2 with ⟨x, I2⟩ | I2
    · refine .inl ⟨x, ?_⟩
      rw [m2, pM1 en 1 (by omega), pM1 en 0 (by omega), I2]
    · refine .inr ⟨mkN true ([] ++ flat true (mkN false ([] ++ flat false n1)) ++ flat true (mkN false ([] ++ flat false n2))), 0 + z1 + z2, ?_, fun q t d => ?_⟩
      · have m3 : pM en 1 [] (X.drop (wa.length + 3)) (0 + z1) 0 = .ok (mkN false ([] ++ flat false n2)) [] (0 + z1 + z2) 0 := by
          rw [pM1 en 0 (by omega), I2]
          simp only [show decide (0 = 1) = false from rfl]
          rw [if_neg (hdn false)]
        rw [m2, pM1 en 1 (by omega), m3]
        simp only [decide_true]
        rw [if_neg (hdn true)]
        simp only [if_true]
      · simp only [List.nil_append, meetN_mk, meetL_flat, meetL_app, if_true]
end SieW
end Go.Proofs.YtdeiehgghhiijaaDoor

namespace Go.Proofs.YtdeiehgghhiijaaDoor
set_option linter.unusedVariables false
set_option linter.unusedSimpArgs false
set_option linter.unnecessarySimpa false
open Go.RowKit
namespace SieW
open WanW
def rngL (a b : Int) : List UInt8 := decL a.toNat ++ (45 :: decL b.toNat)

theorem no_contains (c : UInt8) (s : List UInt8) (h : ∀ j (h : j < s.length), s[j] ≠ c) : s.contains c = false := by
  rw [Bool.eq_false_iff]
  intro hh
  obtain ⟨j, hj, e⟩ := List.getElem_of_mem (List.contains_iff_mem.1 hh)
  exact h j hj e
theorem dig_dec (n : Nat) (h : n < 10) : decB (UInt8.ofNat (48 + n)) = true := by
  unfold decB
  rw [dig_nat n h]
  simp
  omega
theorem decL_all (n : Nat) : (decL n).all decB = true := by
  induction n using Nat.strongRecOn with
  | ind n ih =>
    rw [decL]
    split
    · rw [List.all_cons, dig_dec n (by assumption)]; rfl
    · rw [List.all_append, ih (n / 10) (by omega)]
      rw [List.all_cons, dig_dec (n % 10) (by omega)]; rfl
theorem decL_num (n : Nat) : numN (decL n) = n := by
  induction n using Nat.strongRecOn with
  | ind n ih =>
    rw [decL]
    split
    · have := dig_nat n (by assumption)
      show 10 * 0 + ((UInt8.ofNat (48 + n)).toNat - 48) = n
      omega
    · rw [numN_snoc, ih (n / 10) (by omega), dig_nat _ (by omega)]
      omega
theorem decL_pos (n : Nat) : 0 < (decL n).length := by
  rw [decL]
  split <;> simp
theorem decL_head (n : Nat) (h : 0 < n) : (decL n)[0]?.getD 0 ≠ 48 := by
  induction n using Nat.strongRecOn with
  | ind n ih =>
    rw [decL]
    split
    · intro e
      have h2 := congrArg UInt8.toNat e
      have h3 := dig_nat n (by assumption)
      simp at h2
      rw [UInt8.toNat_ofNat'] at h3
      omega
    · have hp := decL_pos (n / 10)
      rw [List.getElem?_append_left hp]
      exact ih (n / 10) (by omega) (by omega)
theorem decL_small (n : Nat) (h : n < 10) : (decL n).length = 1 := by rw [decL, dif_pos h]; rfl
theorem num_dec (n : Nat) (h : n ≤ 1000000001) : numV (decL n) = ((n : Int), true) := by
  have hl := decL_len n 9 (by omega)
  have hp := decL_pos n
  have ha := decL_all n
  have hn := decL_num n
  rw [numV_yes, hn]
  rintro (e | e | ⟨e1, e2⟩ | e | e)
  · omega
  · omega
  · by_cases h10 : n < 10
    · rw [decL_small n h10] at e1; omega
    · exact decL_head n (by omega) e2
  · rw [ha] at e; cases e
  · omega
theorem dec_no (n : Nat) (c : UInt8) (hc : decB c = false) : (decL n).contains c = false := by
  refine no_contains c _ (fun j hj e => ?_)
  have := List.all_eq_true.1 (decL_all n) _ (List.getElem_mem hj)
  rw [e, hc] at this
  cases this
theorem bef_mid (c : UInt8) (a b : List UInt8) (h : a.contains c = false) : bef c (a ++ c :: b) = a ∧ aft c (a ++ c :: b) = b ∧ (a ++ c :: b).contains c = true := by
  induction a with
  | nil => simp [bef, aft]
  | cons x a ih =>
    have hx : ¬ x = c := by
      intro e
      subst e
      simp at h
    have ha : a.contains c = false := by
      rw [List.contains_cons, Bool.or_eq_false_iff] at h
      exact h.2
    have h2 : (x != c) = true := by simp; exact hx
    obtain ⟨i1, i2, i3⟩ := ih ha
    refine ⟨?_, ?_, ?_⟩
    · rw [List.cons_append, bef, List.takeWhile_cons, h2]; simp only [if_true]; congr 1
    · rw [List.cons_append, aft, List.dropWhile_cons, h2]; simp only [if_true]; exact i2
    · simp
theorem rng_back (a b : Int) (a0 : 0 ≤ a) (a1 : a ≤ 1000000001) (b0 : 0 ≤ b) (b1 : b ≤ 1000000001) : ok2 (rngL a b) = true ∧ lo2 (rngL a b) = a ∧ hi2 (rngL a b) = b := by
  obtain ⟨h1, h2, h3⟩ := bef_mid 45 (decL a.toNat) (decL b.toNat) (dec_no _ 45 (by decide))
  have ha := num_dec a.toNat (by omega)
  have hb := num_dec b.toNat (by omega)
  unfold ok2 lo2 hi2 rngL
  rw [h1, h2, h3, ha, hb]
  exact ⟨rfl, by show ((a.toNat : Nat) : Int) = a; omega, by show ((b.toNat : Nat) : Int) = b; omega⟩
/-! bytes -/
theorem digB_hex (c : Nat) (h : c < 16) : hexB (digB c) = true ∧ dg (digB c) = c := (digit_iff (digB c) c h).1 (digB_toNat c h).symm
theorem hexL_all (s : List UInt8) : (hexL s).all hexB = true := by
  induction s with
  | nil => rfl
  | cons b s ih =>
    have e : hexL (b :: s) = digB (b.toNat / 16) :: digB (b.toNat % 16) :: hexL s := rfl
    have := b.toNat_lt
    rw [e, List.all_cons, List.all_cons, ih, (digB_hex (b.toNat / 16) (by omega)).1, (digB_hex (b.toNat % 16) (by omega)).1]
    rfl
theorem unpair_hex (s : List UInt8) : unpair (hexL s) = s := by
  induction s with
  | nil => rfl
  | cons b s ih =>
    have hb := b.toNat_lt
    show UInt8.ofNat (16 * dg (digB (b.toNat / 16)) + dg (digB (b.toNat % 16))) :: unpair (hexL s) = b :: s
    rw [ih, (digB_hex (b.toNat / 16) (by omega)).2, (digB_hex (b.toNat % 16) (by omega)).2]
    congr 1
    apply UInt8.toNat_inj.1
    rw [UInt8.toNat_ofNat']
    omega
theorem hex_back (s : List UInt8) : unhexV (hexL s) = (s, true) := by
  rw [unhexV_yes, unpair_hex]
  rw [hexL_len, hexL_all]
  rintro (e | e)
  · omega
  · cases e
theorem hex_no (s : List UInt8) (c : UInt8) (hc : hexB c = false) : (hexL s).contains c = false := by
  refine no_contains c _ (fun j hj e => ?_)
  have := List.all_eq_true.1 (hexL_all s) _ (List.getElem_mem hj)
  rw [e, hc] at this
  cases this
end SieW
end Go.Proofs.YtdeiehgghhiijaaDoor

namespace Go.Proofs.YtdeiehgghhiijaaDoor
set_option linter.unusedVariables false
set_option linter.unusedSimpArgs false
set_option linter.unnecessarySimpa false
open Go.RowKit
namespace SieW
open WanW (hexL decB hexB ok2 numV bef aft)
def sepW (o : Bool) : List UInt8 := 32 :: (byW o ++ [32])
mutual
/-- How a part is written, with this strength around it. -/
def shN : Nat → Nd → List UInt8
  | _, .within k lo hi => kwS k ++ 32 :: rngL lo hi
  | _, .has s => sHas ++ 32 :: hexL s
  | _, .all => sAll
  | _, .not n => sNot ++ 32 :: shN 2 n
  | _, .row _ [] => []
  | s, .row o (a :: l) => if ownS o < s then 40 :: (shN (ownS o) a ++ (shR o l ++ [41])) else shN (ownS o) a ++ shR o l
def shR (o : Bool) : List Nd → List UInt8
  | [] => []
  | a :: l => sepW o ++ (shN (ownS o) a ++ shR o l)
end
mutual
/-- Its words. -/
def tkN : Nat → Nd → List (List UInt8)
  | _, .within k lo hi => [kwS k, rngL lo hi]
  | _, .has s => [sHas, hexL s]
  | _, .all => [sAll]
  | _, .not n => sNot :: tkN 2 n
  | _, .row _ [] => []
  | s, .row o (a :: l) => if ownS o < s then [40] :: (tkN (ownS o) a ++ (tkR o l ++ [[41]])) else tkN (ownS o) a ++ tkR o l
def tkR (o : Bool) : List Nd → List (List UInt8)
  | [] => []
  | a :: l => byW o :: (tkN (ownS o) a ++ tkR o l)
end
def dlm (b : UInt8) : Bool := b == 32 || b == 40 || b == 41
def endsW (r : List UInt8) : Prop := ∀ b ∈ r.head?, dlm b = true
def cleanW (x : List UInt8) : Prop := x ≠ [] ∧ ∀ b ∈ x, dlm b = false
theorem toks_end (c r : List UInt8) (h : endsW r) : toks r c = fl c ++ toks r [] := by
  cases r with
  | nil => simp [toks, fl]
  | cons b r =>
    have hb : dlm b = true := h b rfl
    simp only [dlm, Bool.or_eq_true, beq_iff_eq] at hb
    by_cases h1 : b = 32
    · simp [toks, h1, fl]
    · have h2 : b = 40 ∨ b = 41 := by rcases hb with (h | h) | h <;> simp_all
      simp only [toks, if_neg h1, if_pos h2]
      simp [fl]
theorem toks_in (x r : List UInt8) (hx : ∀ b ∈ x, dlm b = false) (h : endsW r) : ∀ c, toks (x ++ r) c = fl (c ++ x) ++ toks r [] := by
  induction x with
  | nil => intro c; rw [List.nil_append, List.append_nil, toks_end c r h]
  | cons b x ih =>
    intro c
    have hb := hx b (by simp)
    simp only [dlm, Bool.or_eq_false_iff, beq_eq_false_iff_ne] at hb
    rw [List.cons_append, toks, if_neg hb.1.1, if_neg (by simp [hb]), ih (fun y hy => hx y (by simp [hy]))]
    simp
theorem toks_word {x : List UInt8} (hx : cleanW x) (r : List UInt8) (h : endsW r) : toks (x ++ r) [] = x :: toks r [] := by
  rw [toks_in x r hx.2 h, List.nil_append, fl, if_neg hx.1]
  rfl
theorem toks_sp0 (r : List UInt8) : toks (32 :: r) [] = toks r [] := by have := toks_sp [] r []; simpa [toks, fl] using this
theorem toks_d0 (r : List UInt8) (b : UInt8) (hb : b = 40 ∨ b = 41) : toks (b :: r) [] = [b] :: toks r [] := by have := toks_delim [] r b hb []; simpa [toks, fl] using this
theorem ends_sp (r : List UInt8) : endsW (32 :: r) := by intro b hb; simp at hb; subst hb; rfl
theorem ends_cl (r : List UInt8) : endsW (41 :: r) := by intro b hb; simp at hb; subst hb; rfl
theorem dig_clean (b : UInt8) (h : dlm b = true) : decB b = false ∧ hexB b = false ∧ b ≠ 45 := by
  simp only [dlm, Bool.or_eq_true, beq_iff_eq] at h
  rcases h with (rfl | rfl) | rfl <;> decide
theorem all_clean {s : List UInt8} {f : UInt8 → Bool} (h : s.all f = true) (hf : ∀ b, dlm b = true → f b = false) : ∀ b ∈ s, dlm b = false := by
  intro b hb
  have := List.all_eq_true.1 h b hb
  cases e : dlm b
  · rfl
  · rw [hf b e] at this; cases this
theorem rng_clean (a b : Int) : cleanW (rngL a b) := by
  refine ⟨by simp [rngL], fun x hx => ?_⟩
  unfold rngL at hx
  rcases List.mem_append.1 hx with h | h
  · exact all_clean (decL_all _) (fun b hb => (dig_clean b hb).1) x h
  · rcases List.mem_cons.1 h with rfl | h
    · rfl
    · exact all_clean (decL_all _) (fun b hb => (dig_clean b hb).1) x h
theorem hex_clean (s : List UInt8) (h : s ≠ []) : cleanW (hexL s) := by
  refine ⟨?_, all_clean (hexL_all s) (fun b hb => (dig_clean b hb).2.1)⟩
  cases s with
  | nil => exact absurd rfl h
  | cons a s => simp [hexL]
theorem rng_nums (a b : Int) (h : 0 ≤ a ∧ a ≤ 1000000001 ∧ 0 ≤ b ∧ b ≤ 1000000001) : numsP (rngL a b) = some (a, b) := by
  obtain ⟨h1, h2, h3⟩ := rng_back a b h.1 h.2.1 h.2.2.1 h.2.2.2
  simp only [ok2, Bool.and_eq_true] at h1
  unfold numsP
  rw [if_pos ⟨h1.1, h1.2.1, h1.2.2⟩]
  have e1 : (numV (bef 45 (rngL a b))).1 = a := h2
  have e2 : (numV (aft 45 (rngL a b))).1 = b := h3
  rw [e1, e2]
theorem hex_bytes (s : List UInt8) (h : s ≠ []) : bytesP (hexL s) = some s := by
  unfold bytesP
  rw [hex_back, if_pos ⟨rfl, h⟩]
theorem kw_clean (k : Nat) : cleanW (kwS k) := by
  unfold kwS
  split
  · exact ⟨by decide, by decide⟩
  · split <;> exact ⟨by decide, by decide⟩
theorem by_clean (o : Bool) : cleanW (byW o) := by cases o <;> exact ⟨by decide, by decide⟩
mutual
theorem toks_N : ∀ (n : Nd) (s : Nat) (r : List UInt8), wfN n → endsW r → toks (shN s n ++ r) [] = tkN s n ++ toks r []
  | .within k lo hi, s, r, hw, he => by
    simp only [shN, tkN, List.append_assoc, List.cons_append]
    rw [toks_word (kw_clean k) _ (ends_sp _), toks_sp0, toks_word (rng_clean lo hi) _ he]
    rfl
  | .has x, s, r, hw, he => by
    simp only [shN, tkN, List.append_assoc, List.cons_append]
    rw [toks_word ⟨by decide, by decide⟩ _ (ends_sp _), toks_sp0, toks_word (hex_clean x hw.1) _ he]
    rfl
  | .all, s, r, hw, he => by
    simp only [shN, tkN]
    rw [toks_word ⟨by decide, by decide⟩ _ he]
    rfl
  | .not n, s, r, hw, he => by
    simp only [shN, tkN, List.append_assoc, List.cons_append]
    rw [toks_word ⟨by decide, by decide⟩ _ (ends_sp _), toks_sp0, toks_N n 2 r hw he]
  | .row o [], s, r, hw, he => by simp [shN, tkN]
  | .row o (a :: l), s, r, hw, he => by
    have hw1 : wfN a := hw.2.1
    have hw2 : wfL o l := hw.2.2.2
    simp only [shN, tkN]
    split
    · simp only [List.cons_append, List.append_assoc]
      rw [toks_d0 _ 40 (.inl rfl), toks_N a _ _ hw1 (ends_R o l _ (ends_cl _)), toks_R o l _ hw2 (ends_cl _)]
      simp only [List.nil_append]
      rw [toks_d0 _ 41 (.inr rfl)]
    · simp only [List.append_assoc]
      rw [toks_N a _ _ hw1 (ends_R o l _ he), toks_R o l _ hw2 he]
theorem toks_R (o : Bool) : ∀ (l : List Nd) (r : List UInt8), wfL o l → endsW r → toks (shR o l ++ r) [] = tkR o l ++ toks r []
  | [], r, hw, he => by simp [shR, tkR]
  | a :: l, r, hw, he => by
    simp only [shR, tkR, sepW, List.append_assoc, List.cons_append, List.nil_append]
    rw [toks_sp0, toks_word (by_clean o) _ (ends_sp _), toks_sp0, toks_N a _ _ hw.1 (ends_R o l r he), toks_R o l r hw.2.2 he]
theorem ends_R (o : Bool) : ∀ (l : List Nd) (r : List UInt8), endsW r → endsW (shR o l ++ r)
  | [], r, he => by simpa [shR] using he
  | a :: l, r, he => by simp only [shR, sepW, List.cons_append]; exact ends_sp _
end
/-- What stands behind a part that is written with this strength around it. -/
def stopS (s : Nat) (R : List (List UInt8)) : Prop := ∀ o, s ≤ ownS o → R.head?.getD [] ≠ byW o
theorem stopS.up {s s' : Nat} {R : List (List UInt8)} (h : stopS s R) (hs : s ≤ s') : stopS s' R := fun o ho => h o (by omega)
def ParsesN (n : Nd) : Prop := ∀ (s : Nat) (en : Int) (l : List Wd) (R : List (List UInt8)) (sz dp : Nat), s ≤ 2 → wfN n → l.map (·.1) = tkN s n ++ R → ndN s n + dp ≤ 20 → sz + szN n ≤ 100 → stopS s R →
  pM en (2 - s) [] l sz dp = .ok n (l.drop (tkN s n).length) (sz + szN n) dp
def ParsesR (L : List Nd) : Prop := ∀ (o : Bool) (a : Nd) (acc : List Nd) (en : Int) (l : List Wd) (R : List (List UInt8)) (sz dp : Nat), ParsesN a → wfL o (a :: L) → l.map (·.1) = tkN (ownS o) a ++ (tkR o L ++ R) →
  ndN (ownS o) a + dp ≤ 20 → ndL (ownS o) L + dp ≤ 20 → sz + szN a + szL L ≤ 100 → stopS (ownS o) R →
  pM en (2 - ownS o) acc l sz dp = .ok (mkN o (acc ++ a :: L)) (l.drop ((tkN (ownS o) a).length + (tkR o L).length)) (sz + szN a + szL L) dp
theorem tk_same (o : Bool) (a : Nd) (h : notRow o a) : tkN (ownS o + 1) a = tkN (ownS o) a ∧ ndN (ownS o + 1) a = ndN (ownS o) a := by
  cases a with
  | row o2 l =>
    have h2 : o2 ≠ o := h
    have : ownS o2 ≠ ownS o := by revert h2; cases o2 <;> cases o <;> decide
    have e : (ownS o2 < ownS o + 1) = (ownS o2 < ownS o) := by rw [eq_iff_iff]; omega
    cases l with
    | nil => simp only [tkN, ndN, e]; exact ⟨trivial, trivial⟩
    | cons x l => simp only [tkN, ndN, e]; exact ⟨trivial, trivial⟩
  | _ => simp [tkN, ndN]
theorem hd_map (en : Int) (l : List Wd) (T R : List (List UInt8)) (h : l.map (·.1) = T ++ R) (j : Nat) (hj : j = T.length) : (hdW en (l.drop j)).1 = R.head?.getD [] := by
  rw [hd_fst, h, hj, List.getElem?_append_right (Nat.le_refl _), Nat.sub_self, List.head?_eq_getElem?]
theorem own_two (o : Bool) : 2 - ownS o = (if o then 1 else 0) + 1 ∧ decide ((if o then 1 else 0) = 1) = o ∧ (if o then 1 else 0) = 2 - (ownS o + 1) := by cases o <;> decide
theorem flat_not (o : Bool) (n : Nd) (h : notRow o n) : flat o n = [n] := by
  cases n with
  | row o2 l => rw [flat, if_neg h]
  | _ => rfl
theorem by_other (o o' : Bool) (h : ownS o + 1 ≤ ownS o') : byW o ≠ byW o' := by cases o <;> cases o' <;> first | decide | (exact absurd h (by decide))
/-- A part of one strength, where none of its word stands behind it, is one of the strength below. -/
theorem lift_pM {en : Int} (o : Bool) {l l2 : List Wd} {sz dp s2 d2 : Nat} {n : Nd} (h : pM en (2 - (ownS o + 1)) [] l sz dp = .ok n l2 s2 d2) (hb : (hdW en l2).1 ≠ byW o) (hn : notRow o n) :
    pM en (2 - ownS o) [] l sz dp = .ok n l2 s2 d2 := by
  obtain ⟨e1, e2, e3⟩ := own_two o
  rw [e1, pM1 en _ (by split <;> omega), e3, h]
  rw [← e3]
  simp only [e2, if_neg hb, flat_not o n hn, List.nil_append, mkN]
theorem lift_all {en : Int} {l l2 : List Wd} {sz dp s2 d2 : Nat} {n : Nd} (s : Nat) (hs : s ≤ 2) (h : pM en 0 [] l sz dp = .ok n l2 s2 d2) (hb : ∀ o, s ≤ ownS o → (hdW en l2).1 ≠ byW o) (h1 : notRow false n) (h2 : notRow true n) :
    pM en (2 - s) [] l sz dp = .ok n l2 s2 d2 := by
  have : s = 0 ∨ s = 1 ∨ s = 2 := by omega
  rcases this with rfl | rfl | rfl
  · exact lift_pM true (lift_pM false h (hb false (by decide)) h1) (hb true (by decide)) h2
  · exact lift_pM false h (hb false (by decide)) h1
  · exact h
mutual
theorem parses_N : ∀ n : Nd, ParsesN n
  | .within k lo hi => by
    intro s en l R sz dp hs hw hl hn hz hst
    have h0 : (hdW en l).1 = kwS k := by have := hd_fst en l 0; rw [hl] at this; simpa [tkN] using this
    have h1 : (hdW en l.tail).1 = rngL lo hi := by have := hd_fst en l 1; rw [hl] at this; rw [tail_drop]; simpa [tkN] using this
    have hk : kindP (kwS k) = some k := by
      have : k = 0 ∨ k = 1 ∨ k = 2 := by have := hw.1; omega
      rcases this with rfl | rfl | rfl <;> decide
    have hz' : ¬ 100 ≤ sz := by simp only [szN] at hz; omega
    have z : pM en 0 [] l sz dp = .ok (.within k lo hi) (l.drop 2) (sz + 1) dp := by
      rw [pM0, facS, h0, hk]
      simp only [if_neg hz', h1, rng_nums lo hi hw.2]
      rw [tail_drop, tail_drop, List.drop_drop]
    exact lift_all s hs z (by rw [hd_map en l _ R hl _ rfl]; exact hst) trivial trivial
  | .has x => by
    intro s en l R sz dp hs hw hl hn hz hst
    have h0 : (hdW en l).1 = sHas := by have := hd_fst en l 0; rw [hl] at this; simpa [tkN] using this
    have h1 : (hdW en l.tail).1 = hexL x := by have := hd_fst en l 1; rw [hl] at this; rw [tail_drop]; simpa [tkN] using this
    have hk : kindP sHas = none := by decide
    have hz' : ¬ 100 ≤ sz := by simp only [szN] at hz; omega
    have z : pM en 0 [] l sz dp = .ok (.has x) (l.drop 2) (sz + 1) dp := by
      rw [pM0, facS, h0, hk]
      simp only [if_neg hz', if_true, h1, hex_bytes x hw.1]
      rw [tail_drop, tail_drop, List.drop_drop]
    exact lift_all s hs z (by rw [hd_map en l _ R hl _ rfl]; exact hst) trivial trivial
  | .all => by
    intro s en l R sz dp hs hw hl hn hz hst
    have h0 : (hdW en l).1 = sAll := by have := hd_fst en l 0; rw [hl] at this; simpa [tkN] using this
    have hk : kindP sAll = none := by decide
    have hk1 : sAll ≠ sHas := by decide
    have hz' : ¬ 100 ≤ sz := by simp only [szN] at hz; omega
    have z : pM en 0 [] l sz dp = .ok .all (l.drop 1) (sz + 1) dp := by
      rw [pM0, facS, h0, hk]
      simp only [if_neg hk1, if_neg hz', if_true]
      simp
    exact lift_all s hs z (by rw [hd_map en l _ R hl _ rfl]; exact hst) trivial trivial
  | .not n => by
    intro s en l R sz dp hs hw hl hn hz hst
    have h0 : (hdW en l).1 = sNot := by have := hd_fst en l 0; rw [hl] at this; simpa [tkN] using this
    have hk : kindP sNot = none := by decide
    have hk1 : sNot ≠ sHas := by decide
    have hk2 : sNot ≠ sAll := by decide
    simp only [szN] at hz
    have hz' : ¬ 100 ≤ sz := by omega
    have hl' : (l.drop 1).map (·.1) = tkN 2 n ++ R := by rw [List.map_drop, hl]; rfl
    have ih := parses_N n 2 en (l.drop 1) R (sz + 1) dp (Nat.le_refl _) hw hl' (by simpa [ndN] using hn) (by omega) (fun o ho => by cases o <;> exact absurd ho (by decide))
    have z : pM en 0 [] l sz dp = .ok (.not n) (l.drop (tkN s (.not n)).length) (sz + szN (.not n)) dp := by
      rw [pM0, facS, h0, hk]
      simp only [if_neg hk1, if_neg hk2, if_neg hz', if_true, tail_drop]
      simp only [Nat.sub_self] at ih
      rw [ih]
      simp only [List.drop_drop, tkN, szN, List.length_cons]
      rw [Nat.add_comm 1, show sz + 1 + szN n = sz + (szN n + 1) by omega]
    exact lift_all s hs z (by rw [hd_map en l _ R hl _ rfl]; exact hst) trivial trivial
  | .row o [] => by
    intro s en l R sz dp hs hw
    exact absurd hw.1 (by simp)
  | .row o (a :: L) => by
    have ihA := parses_N a
    have ihL := parses_R L
    intro s en l R sz dp hs hw hl hn hz hst
    have hlen : 2 ≤ (a :: L).length := hw.1
    have hmk : mkN o ([] ++ a :: L) = .row o (a :: L) := by
      cases L with
      | nil => simp at hlen
      | cons b L => rfl
    simp only [szN, szL] at hz
    by_cases hb : ownS o < s
    · simp only [tkN, if_pos hb] at hl ⊢
      simp only [ndN, if_pos hb, ndL] at hn
      have hn1 := Nat.le_max_left (ndN (ownS o) a) (ndL (ownS o) L)
      have hn2 := Nat.le_max_right (ndN (ownS o) a) (ndL (ownS o) L)
      have h0 : (hdW en l).1 = [40] := by have := hd_fst en l 0; rw [hl] at this; simpa using this
      have hl' : (l.drop 1).map (·.1) = tkN (ownS o) a ++ (tkR o L ++ ([41] :: R)) := by rw [List.map_drop, hl]; simp
      have hc : ∀ o', ([41] :: R).head?.getD [] ≠ byW o' := by intro o'; show [41] ≠ byW o'; cases o' <;> decide
      have r0 := ihL o a [] en (l.drop 1) ([41] :: R) sz (dp + 1) ihA hw.2 hl' (by omega) (by omega) (by omega) (fun o' _ => hc o')
      rw [hmk] at r0
      have hd1 := hd_map en (l.drop 1) (tkN (ownS o) a ++ tkR o L) ([41] :: R) (by rw [hl']; simp) _ rfl
      have r1 : pM en 2 [] (l.drop 1) sz (dp + 1) = .ok (.row o (a :: L)) ((l.drop 1).drop ((tkN (ownS o) a).length + (tkR o L).length)) (sz + szN a + szL L) (dp + 1) := by
        cases o with
        | true => exact r0
        | false =>
          refine lift_pM true r0 ?_ (show false ≠ true by decide)
          rw [List.length_append] at hd1
          rw [hd1]
          exact hc true
      have z : pM en 0 [] l sz dp = .ok (.row o (a :: L)) (l.drop (tkN s (.row o (a :: L))).length) (sz + szN (.row o (a :: L))) dp := by
        rw [pM_br [] h0 (by omega), tail_drop, r1]
        have h41 : (hdW en ((l.drop 1).drop ((tkN (ownS o) a).length + (tkR o L).length))).1 = [41] := by rw [List.length_append] at hd1; rw [hd1]; rfl
        simp only [if_pos h41]
        simp only [tail_drop, List.drop_drop, tkN, if_pos hb, szN, szL, List.length_cons, List.length_append, List.length_nil]
        rw [show 1 + ((tkN (ownS o) a).length + (tkR o L).length) + 1 = (tkN (ownS o) a).length + ((tkR o L).length + (0 + 1)) + 1 by omega, show sz + szN a + szL L = sz + (szN a + szL L) by omega, show dp + 1 - 1 = dp by omega]
      have hz2 : (tkN s (.row o (a :: L))).length = ([40] :: (tkN (ownS o) a ++ (tkR o L ++ [[41]]))).length := by simp only [tkN, if_pos hb]
      rw [hz2] at z
      have hst' : stopS s R := hst
      have hs12 : s = 2 ∨ (s = 1 ∧ o = true) := by
        cases o with
        | true =>
          simp only [ownS, if_true] at hb
          have : s = 1 ∨ s = 2 := by omega
          rcases this with h | h
          · exact .inr ⟨h, by trivial⟩
          · exact .inl h
        | false => simp only [ownS, Bool.false_eq_true, if_false] at hb; exact .inl (by omega)
      rcases hs12 with rfl | ⟨rfl, rfl⟩
      · exact z
      · refine lift_pM false z ?_ (show true ≠ false by decide)
        rw [hd_map en l _ R hl _ rfl]
        exact hst' false (by decide)
    · simp only [tkN, if_neg hb] at hl ⊢
      simp only [ndN, if_neg hb, ndL] at hn
      have hn1 := Nat.le_max_left (ndN (ownS o) a) (ndL (ownS o) L)
      have hn2 := Nat.le_max_right (ndN (ownS o) a) (ndL (ownS o) L)
      rw [List.append_assoc] at hl
      have r0 := ihL o a [] en l R sz dp ihA hw.2 hl (by omega) (by omega) (by omega) (hst.up (by omega))
      rw [hmk, Nat.add_assoc sz] at r0
      rw [List.length_append]
      simp only [szN, szL]
      have hs12 : s = ownS o ∨ (s = 0 ∧ o = false) := by
        cases o with
        | true => simp only [ownS, if_true] at hb ⊢; exact .inl (by omega)
        | false =>
          simp only [ownS, Bool.false_eq_true, if_false] at hb ⊢
          have : s = 1 ∨ s = 0 := by omega
          rcases this with h | h
          · exact .inl h
          · exact .inr ⟨h, by trivial⟩
      rcases hs12 with rfl | ⟨rfl, rfl⟩
      · exact r0
      · refine lift_pM true r0 ?_ (show false ≠ true by decide)
        rw [← List.append_assoc] at hl
        have := hd_map en l _ R hl _ rfl
        rw [List.length_append] at this
        rw [this]
        exact hst true (by decide)
theorem parses_R : ∀ L : List Nd, ParsesR L
  | [] => by
    intro o a acc en l R sz dp ihA hw hl hn hnL hz hst
    simp only [tkR, List.nil_append, szL] at *
    obtain ⟨w1, w2, _⟩ := hw
    obtain ⟨t1, t2⟩ := tk_same o a w2
    obtain ⟨e1, e2, e3⟩ := own_two o
    have h := ihA (ownS o + 1) en l R sz dp (by cases o <;> decide) w1 (by rw [t1]; exact hl) (by rw [t2]; exact hn) (by omega) (hst.up (by omega))
    rw [e1, pM1 en _ (by split <;> omega), e3, h, ← e3, t1]
    have hb : (hdW en (l.drop (tkN (ownS o) a).length)).1 ≠ byW o := by rw [hd_map en l _ R hl _ rfl]; exact hst o (Nat.le_refl _)
    simp only [e2, if_neg hb, flat_not o a w2, List.length_nil, Nat.add_zero]
  | b :: L => by
    have ihB := parses_N b
    have ihL := parses_R L
    intro o a acc en l R sz dp ihA hw hl hn hnL hz hst
    simp only [szL, ndL, tkR] at *
    have hn1 := Nat.le_max_left (ndN (ownS o) b) (ndL (ownS o) L)
    have hn2 := Nat.le_max_right (ndN (ownS o) b) (ndL (ownS o) L)
    obtain ⟨w1, w2, w3⟩ := hw
    obtain ⟨t1, t2⟩ := tk_same o a w2
    obtain ⟨e1, e2, e3⟩ := own_two o
    have h := ihA (ownS o + 1) en l (byW o :: (tkN (ownS o) b ++ (tkR o L ++ R))) sz dp (by cases o <;> decide) w1 (by rw [t1, hl]; simp) (by rw [t2]; exact hn) (by omega) (fun o' ho' => by_other o o' ho')
    rw [t1] at h
    have hb : (hdW en (l.drop (tkN (ownS o) a).length)).1 = byW o := by rw [hd_map en l _ (byW o :: (tkN (ownS o) b ++ (tkR o L ++ R))) (by rw [hl]; simp) _ rfl]; rfl
    have hl' : (l.drop ((tkN (ownS o) a).length + 1)).map (·.1) = tkN (ownS o) b ++ (tkR o L ++ R) := by
      rw [List.map_drop, hl, ← List.drop_drop, List.drop_left]; simp
    have r0 := ihL o b (acc ++ [a]) en (l.drop ((tkN (ownS o) a).length + 1)) R (sz + szN a) dp ihB w3 hl' (by omega) (by omega) (by omega) hst
    rw [e1, pM1 en _ (by split <;> omega), e3, h, ← e3]
    simp only [e2, if_pos hb, flat_not o a w2, tail_drop, List.drop_drop]
    rw [← e1, r0]
    simp only [List.append_assoc, List.cons_append, List.nil_append, List.drop_drop, List.length_cons, List.length_append]
    rw [show (tkN (ownS o) a).length + 1 + ((tkN (ownS o) b).length + (tkR o L).length) = (tkN (ownS o) a).length + ((tkN (ownS o) b).length + (tkR o L).length + 1) by omega, show sz + szN a + szN b + szL L = sz + szN a + (szN b + szL L) by omega]
end
/-- What was read, written, is read as the same. -/
theorem parse_show {s : List UInt8} {n : Nd} {z : Nat} {p e : Int} (h : parseP s = (some (n, z), p, e)) (hl : (shN 0 n).length ≤ 1000) :
    parseP (shN 0 n) = (some (n, z), ((shN 0 n).length : Int), 0) := by
  obtain ⟨d, hp, hs, _, _⟩ := parse_ok h
  have hF : Few (wordsP s) := fun x hx => by have := words_each s x hx; omega
  obtain ⟨w1, w2, w3⟩ := pG_wf _ _ 2 [] _ _ _ _ _ _ _ (by omega) (by omega) hF (fun _ => rfl) trivial (by simp) hp
  obtain ⟨_, _, _, _, _, _, hz⟩ := pM_left hp
  have hz := hz (by omega)
  simp only [szL, Nat.add_zero, Nat.zero_add, Nat.sub_zero, Nat.sub_self] at w2 w3
  have ht : (wordsP (shN 0 n)).map (·.1) = tkN 0 n ++ [] := by
    have := toks_N n 0 [] w1 (by intro b hb; cases hb)
    rw [List.append_nil] at this
    rw [words_toks, this]; rfl
  have hr := parses_N n 0 ((shN 0 n).length : Int) (wordsP (shN 0 n)) [] 0 0 (by omega) w1 ht (by omega) (by omega) (fun o _ => by cases o <;> decide)
  have hlen : (wordsP (shN 0 n)).length = (tkN 0 n).length := by have := congrArg List.length ht; simpa using this
  rw [List.drop_eq_nil_of_le (by omega)] at hr
  rw [parse_pM, if_neg (by omega)]
  simp only [Nat.sub_zero, Nat.zero_add] at hr
  rw [hr]
  simp only [if_true, w3]
end SieW
end Go.Proofs.YtdeiehgghhiijaaDoor
