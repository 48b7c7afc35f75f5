/- Package want, plainly: what is written is read as it was; the words' order makes no difference (2). -/
import Derived.Test.YtjcbaaabbdcdnaaDoorWanX
namespace Go.Proofs.YtjcbaaabbdcdnaaDoor
set_option linter.unusedVariables false
set_option linter.unusedSimpArgs false
set_option linter.unnecessarySimpa false
open Go.RowKit
namespace WanW
open SkpW (Qy qv qc chkQ)

theorem step_yes {st : St} {t : List UInt8} (h1 : okW (kOf t) (vOf t) = true) (h2 : st.2 (kOf t) = false) : stepW st t = some (setW (kOf t) st.1 (vOf t), said st.2 (kOf t)) := by unfold stepW; rw [if_pos ⟨h1, h2⟩]
theorem step_no {st : St} {t : List UInt8} (h : ¬ (okW (kOf t) (vOf t) = true ∧ st.2 (kOf t) = false)) : stepW st t = none := by unfold stepW; rw [if_neg h]
theorem setW_comm (k j : Nat) (q : Qy) (u v : List UInt8) (h : k ≠ j) : setW k (setW j q v) u = setW j (setW k q u) v := by
  unfold setW
  split <;> split <;> first | rfl | (exfalso; exact h rfl)
theorem said_comm (f : Nat → Bool) (k j : Nat) : said (said f j) k = said (said f k) j := by
  funext i
  unfold said
  cases (i == k) <;> cases (i == j) <;> rfl
theorem step_comm (st : St) (x y : List UInt8) : (stepW st x).bind (fun s => stepW s y) = (stepW st y).bind (fun s => stepW s x) := by
  by_cases hx : okW (kOf x) (vOf x) = true ∧ st.2 (kOf x) = false
  · by_cases hy : okW (kOf y) (vOf y) = true ∧ st.2 (kOf y) = false
    · rw [step_yes hx.1 hx.2, step_yes hy.1 hy.2, Option.bind_some, Option.bind_some]
      by_cases he : kOf x = kOf y
      · rw [step_no (st := (setW (kOf x) st.1 (vOf x), said st.2 (kOf x))) (t := y) (fun hh => by
          have := hh.2
          simp [said, he] at this), step_no (st := (setW (kOf y) st.1 (vOf y), said st.2 (kOf y))) (t := x) (fun hh => by
          have := hh.2
          simp [said, he] at this)]
      · have e1 : said st.2 (kOf x) (kOf y) = false := by
          have : (kOf y == kOf x) = false := by simp; exact fun e => he e.symm
          simp [said, this, hy.2]
        have e2 : said st.2 (kOf y) (kOf x) = false := by
          have : (kOf x == kOf y) = false := by simp; exact he
          simp [said, this, hx.2]
        rw [step_yes (st := (setW (kOf x) st.1 (vOf x), said st.2 (kOf x))) hy.1 e1, step_yes (st := (setW (kOf y) st.1 (vOf y), said st.2 (kOf y))) hx.1 e2]
        show some (setW (kOf y) (setW (kOf x) st.1 (vOf x)) (vOf y), said (said st.2 (kOf x)) (kOf y)) = some (setW (kOf x) (setW (kOf y) st.1 (vOf y)) (vOf x), said (said st.2 (kOf y)) (kOf x))
        rw [setW_comm _ _ _ _ _ (fun e => he e.symm), said_comm]
    · rw [step_yes hx.1 hx.2, Option.bind_some, step_no hy, Option.bind_none]
      refine step_no (fun hh => hy ⟨hh.1, ?_⟩)
      have := hh.2
      simp only [said, Bool.or_eq_false_iff] at this
      exact this.2
  · rw [step_no hx, Option.bind_none]
    by_cases hy : okW (kOf y) (vOf y) = true ∧ st.2 (kOf y) = false
    · rw [step_yes hy.1 hy.2, Option.bind_some]
      refine (step_no (fun hh => hx ⟨hh.1, ?_⟩)).symm
      have := hh.2
      simp only [said, Bool.or_eq_false_iff] at this
      exact this.2
    · rw [step_no hy, Option.bind_none]
theorem fold_perm {l1 l2 : List (List UInt8)} (h : l1.Perm l2) : ∀ st, fold l1 st = fold l2 st := by
  induction h with
  | nil => intro st; rfl
  | cons x _ ih => intro st; rw [fold_cons, fold_cons]; congr 1; funext s; exact ih s
  | swap x y l =>
    intro st
    have e : ∀ a b, fold (a :: b :: l) st = ((stepW st a).bind (fun s => stepW s b)).bind (fold l) := by
      intro a b
      rw [fold_cons]
      cases stepW st a with
      | none => rfl
      | some s => rfl
    rw [e, e, step_comm]
  | trans _ _ ih1 ih2 => intro st; rw [ih1, ih2]
/-- What a text is read as, told by its words. -/
theorem parse_words (s : List UInt8) (h : s.length ≤ 1000) : parseV s = match fold (wds s) (allQ, fun _ => false) with
    | some st => if chkQ st.1 = 0 then (st.1, (s.length : Int), 0) else (zeroQ, (s.length : Int), 320)
    | none => (zeroQ, (parseV s).2.1, 380) := by
  obtain ⟨h1, h2⟩ := parse_fold s.length s 0 (allQ, fun _ => false) (Nat.le_refl _)
  have e : parseV s = finV (parseL s.length s 0 (allQ, fun _ => false)) := by rw [parseV, if_neg (by omega)]
  rw [show wordsL s.length s = wds s from rfl] at h1
  rw [e]
  cases hp : parseL s.length s 0 (allQ, fun _ => false) with
  | mk o p =>
    rw [hp] at h1 h2
    dsimp only at h1 h2
    rw [← h1]
    cases o with
    | none => rfl
    | some st =>
      have := h2 st rfl
      subst this
      simp [finV]
theorem parse_perm (s t : List UInt8) (hs : s.length ≤ 1000) (ht : t.length ≤ 1000) (h : (wds s).Perm (wds t)) : (parseV s).1 = (parseV t).1 ∧ ((parseV s).2.2 = (parseV t).2.2) := by
  have e1 := parse_words s hs
  have e2 := parse_words t ht
  rw [← fold_perm h] at e2
  cases hf : fold (wds s) (allQ, fun _ => false) with
  | none => rw [hf] at e1 e2; rw [e1, e2]; exact ⟨rfl, rfl⟩
  | some st =>
    rw [hf] at e1 e2
    dsimp only at e1 e2
    by_cases hc : chkQ st.1 = 0
    · rw [if_pos hc] at e1 e2; rw [e1, e2]; exact ⟨rfl, rfl⟩
    · rw [if_neg hc] at e1 e2; rw [e1, e2]; exact ⟨rfl, rfl⟩
/-- Words in another order. -/
theorem order_words (a b : List UInt8) (h : a.length + b.length ≤ 900) :
    (parseV (a ++ 32 :: b)).1 = (parseV (32 :: 32 :: (b ++ 32 :: 32 :: 32 :: (a ++ [32])))).1 ∧ (parseV (a ++ 32 :: b)).2.2 = (parseV (32 :: 32 :: (b ++ 32 :: 32 :: 32 :: (a ++ [32])))).2.2 := by
  refine parse_perm _ _ (by simp; omega) (by simp; omega) ?_
  rw [wds_app _ a b (Nat.le_refl _), wds_sp, wds_sp, wds_app _ b _ (Nat.le_refl _), wds_sp, wds_sp, wds_app _ a [] (Nat.le_refl _)]
  show (wds a ++ wds b).Perm (wds b ++ (wds a ++ []))
  rw [List.append_nil]
  exact List.perm_append_comm
/-! a query that was written is read -/
theorem key_word (i : Nat) (h1 : 1 ≤ i) (h5 : i ≤ 5) (v : List UInt8) : kOf (keyL i ++ 61 :: v) = i ∧ vOf (keyL i ++ 61 :: v) = v := by
  have e : (keyL i ++ 61 :: v).take ((keyL i).length + 1) = keyL i ++ [61] := by
    rw [show keyL i ++ 61 :: v = (keyL i ++ [61]) ++ v by simp, show (keyL i).length + 1 = (keyL i ++ [61]).length by simp, List.take_left]
  have hk := (pre_iff i h1 h5 _).1 e
  refine ⟨hk, ?_⟩
  have := (pre_drop i h1 h5 _ hk).1
  rw [← this, show keyL i ++ 61 :: v = (keyL i ++ [61]) ++ v by simp, show (keyL i).length + 1 = (keyL i ++ [61]).length by simp, List.drop_left]
theorem step_key (i : Nat) (h1 : 1 ≤ i) (h5 : i ≤ 5) (v : List UInt8) (st : St) (hok : okW i v = true) (hs : st.2 i = false) : stepW st (keyL i ++ 61 :: v) = some (setW i st.1 v, said st.2 i) := by
  obtain ⟨hk, hv⟩ := key_word i h1 h5 v
  have := step_yes (st := st) (t := keyL i ++ 61 :: v) (by rw [hk, hv]; exact hok) (by rw [hk]; exact hs)
  rw [hk, hv] at this
  exact this
theorem no_append (a b : List UInt8) (c : UInt8) (ha : a.contains c = false) (hb : b.contains c = false) : (a ++ b).contains c = false := by
  rw [List.contains_eq_any_beq] at *
  rw [List.any_append, ha, hb]
  rfl
theorem rng_no (a b : Int) : (rngL a b).contains 32 = false := by
  unfold rngL
  exact no_append _ _ _ (dec_no _ _ (by decide)) (no_append [45] _ _ (by decide) (dec_no _ _ (by decide)))
theorem word_no (i : Nat) (h1 : 1 ≤ i) (h5 : i ≤ 5) (v : List UInt8) (hv : v.contains 32 = false) : (keyL i ++ 61 :: v).contains 32 = false := by
  have hk : (keyL i).contains 32 = false := by
    have : i = 1 ∨ i = 2 ∨ i = 3 ∨ i = 4 ∨ i = 5 := by omega
    rcases this with rfl | rfl | rfl | rfl | rfl <;> decide
  exact no_append _ _ _ hk (no_append [61] _ _ (by decide) hv)
theorem wds_cons (w r : List UInt8) (h0 : w ≠ []) (h : w.contains 32 = false) : wds (w ++ 32 :: r) = w :: wds r := by
  rw [wds_app _ w r (Nat.le_refl _), wds_one w h0 h]
  rfl
theorem showL_words (q : Qy) : showL q = (keyL 1 ++ 61 :: rngL q.s1 q.s2) ++ 32 :: ((keyL 2 ++ 61 :: rngL q.t1 q.t2) ++ 32 :: ((if q.find = [] then [] else (keyL 3 ++ 61 :: hexL q.find) ++ [32]) ++ ((keyL 4 ++ 61 :: decL q.limit.toNat) ++ 32 :: (keyL 5 ++ 61 :: decL q.frm.toNat)))) := by
  unfold showL
  by_cases h : q.find = []
  · rw [if_pos h, if_pos h]; simp [keyL]
  · rw [if_neg h, if_neg h]; simp [keyL]
theorem wds_show (q : Qy) : wds (showL q) = [keyL 1 ++ 61 :: rngL q.s1 q.s2, keyL 2 ++ 61 :: rngL q.t1 q.t2] ++ (if q.find = [] then [] else [keyL 3 ++ 61 :: hexL q.find]) ++ [keyL 4 ++ 61 :: decL q.limit.toNat, keyL 5 ++ 61 :: decL q.frm.toNat] := by
  have n1 := word_no 1 (by omega) (by omega) _ (rng_no q.s1 q.s2)
  have n2 := word_no 2 (by omega) (by omega) _ (rng_no q.t1 q.t2)
  have n3 := word_no 3 (by omega) (by omega) _ (hex_no q.find 32 (by decide))
  have n4 := word_no 4 (by omega) (by omega) _ (dec_no q.limit.toNat 32 (by decide))
  have n5 := word_no 5 (by omega) (by omega) _ (dec_no q.frm.toNat 32 (by decide))
  rw [showL_words, wds_cons _ _ (by simp) n1, wds_cons _ _ (by simp) n2]
  by_cases h : q.find = []
  · rw [if_pos h, if_pos h, List.nil_append, wds_cons _ _ (by simp) n4, wds_one _ (by simp) n5]
    rfl
  · rw [if_neg h, if_neg h, List.append_assoc, List.singleton_append, wds_cons _ _ (by simp) n3, wds_cons _ _ (by simp) n4, wds_one _ (by simp) n5]
    rfl
theorem show_len (q : Qy) (h1 : q.s1 ≤ 1000000001) (h2 : q.s2 ≤ 1000000001) (h3 : q.t1 ≤ 1000000001) (h4 : q.t2 ≤ 1000000001) (h5 : q.limit ≤ 1000000001) (h6 : q.frm ≤ 1000000001) (h7 : q.find.length ≤ 200) : (showL q).length ≤ 1000 := by
  have a1 := decL_10 q.s1 h1
  have a2 := decL_10 q.s2 h2
  have a3 := decL_10 q.t1 h3
  have a4 := decL_10 q.t2 h4
  have a5 := decL_10 q.limit h5
  have a6 := decL_10 q.frm h6
  have a7 := hexL_len q.find
  unfold showL rngL
  split <;> simp <;> omega
/-- What may be written is read as it was. -/
theorem show_back (q : Qy) (hc : chkQ q = 0) (m1 : mayV q.s1 q.s2 = true) (m2 : mayV q.t1 q.t2 = true) : parseV (showL q) = (q, ((showL q).length : Int), 0) := by
  obtain ⟨a0, a1, a2, a3⟩ := (may_iff _ _).1 m1
  obtain ⟨b0, b1, b2, b3⟩ := (may_iff _ _).1 m2
  have hlim : ¬ q.limit < 1 ∧ ¬ 1000 < q.limit ∧ ¬ (200 : Int) < q.find.length ∧ ¬ q.frm < 0 ∧ ¬ 1000000001 < q.frm := by
    rcases SkpW.chk_cases q with ⟨e, _⟩ | ⟨_, hh⟩
    · rw [hc] at e; cases e
    · exact hh
  obtain ⟨l1, l2, l3, l4, l5⟩ := hlim
  have hlen := show_len q a1 a3 b1 b3 (by omega) (by omega) (by omega)
  obtain ⟨r1, r2, r3⟩ := rng_back q.s1 q.s2 a0 a1 a2 a3
  obtain ⟨u1, u2, u3⟩ := rng_back q.t1 q.t2 b0 b1 b2 b3
  have d4 := num_dec q.limit.toNat (by omega)
  have d5 := num_dec q.frm.toNat (by omega)
  have d3 := hex_back q.find
  have hf : ∃ f, fold (wds (showL q)) (allQ, fun _ => false) = some (q, f) := by
    rw [wds_show]
    have s1 := step_key 1 (by omega) (by omega) (rngL q.s1 q.s2) (allQ, fun _ => false) r1 rfl
    by_cases h : q.find = []
    · rw [if_pos h]
      simp only [List.cons_append, List.nil_append, List.append_nil]
      rw [fold_cons, s1, Option.bind_some, fold_cons, step_key 2 (by omega) (by omega) _ _ u1 rfl, Option.bind_some, fold_cons, step_key 4 (by omega) (by omega) _ _ (by show (numV _).2 = true; rw [d4]) rfl, Option.bind_some, fold_cons, step_key 5 (by omega) (by omega) _ _ (by show (numV _).2 = true; rw [d5]) rfl, Option.bind_some]
      refine ⟨_, congrArg some (Prod.ext ?_ rfl)⟩
      simp only [setW, d4, d5, r2, r3, u2, u3, allQ]
      obtain ⟨s1, s2, t1, t2, fd, li, fr⟩ := q
      dsimp only at h l1 l4 ⊢
      subst h
      congr 1 <;> omega
    · rw [if_neg h]
      simp only [List.cons_append, List.nil_append]
      rw [fold_cons, s1, Option.bind_some, fold_cons, step_key 2 (by omega) (by omega) _ _ u1 rfl, Option.bind_some, fold_cons, step_key 3 (by omega) (by omega) _ _ (by show (unhexV _).2 = true; rw [d3]) rfl, Option.bind_some, fold_cons, step_key 4 (by omega) (by omega) _ _ (by show (numV _).2 = true; rw [d4]) rfl, Option.bind_some, fold_cons, step_key 5 (by omega) (by omega) _ _ (by show (numV _).2 = true; rw [d5]) rfl, Option.bind_some]
      refine ⟨_, congrArg some (Prod.ext ?_ rfl)⟩
      simp only [setW, d3, d4, d5, r2, r3, u2, u3, allQ]
      obtain ⟨s1, s2, t1, t2, fd, li, fr⟩ := q
      dsimp only at h l1 l4 ⊢
      congr 1 <;> omega
  obtain ⟨f, hf⟩ := hf
  rw [parse_words _ hlen, hf]
  dsimp only
  rw [if_pos hc]
/-! what is read may be written -/
theorem num_range (s : List UInt8) (n : Int) (h : numV s = (n, true)) : 0 ≤ n ∧ n ≤ 1000000001 := by
  unfold numV at h
  split at h
  · cases (Prod.mk.inj h).2
  · have := (Prod.mk.inj h).1
    omega
theorem ok2_may (v : List UInt8) (h : ok2 v = true) : mayV (lo2 v) (hi2 v) = true := by
  unfold ok2 at h
  simp only [Bool.and_eq_true] at h
  obtain ⟨_, h1, h2⟩ := h
  have a := num_range (bef 45 v) (lo2 v) (Prod.ext rfl h1)
  have b := num_range (aft 45 v) (hi2 v) (Prod.ext rfl h2)
  exact (may_iff _ _).2 ⟨a.1, a.2, b.1, b.2⟩
theorem step_may (st st' : St) (t : List UInt8) (h : stepW st t = some st') (m : mayV st.1.s1 st.1.s2 = true ∧ mayV st.1.t1 st.1.t2 = true) : mayV st'.1.s1 st'.1.s2 = true ∧ mayV st'.1.t1 st'.1.t2 = true := by
  unfold stepW at h
  split at h
  · rename_i hh
    have := Option.some.inj h
    subst this
    have hok := hh.1
    revert hok
    dsimp only
    generalize kOf t = k
    generalize vOf t = v
    intro hok
    unfold setW
    split
    · exact ⟨ok2_may v hok, m.2⟩
    · exact ⟨m.1, ok2_may v hok⟩
    all_goals exact m
  · cases h
theorem fold_may : ∀ (l : List (List UInt8)) (st st' : St), fold l st = some st' → mayV st.1.s1 st.1.s2 = true ∧ mayV st.1.t1 st.1.t2 = true → mayV st'.1.s1 st'.1.s2 = true ∧ mayV st'.1.t1 st'.1.t2 = true := by
  intro l
  induction l with
  | nil => intro st st' h m; cases h; exact m
  | cons t l ih =>
    intro st st' h m
    rw [fold_cons] at h
    cases hs : stepW st t with
    | none => rw [hs] at h; cases h
    | some s1 => rw [hs] at h; exact ih s1 st' h (step_may st s1 t hs m)
/-- What is read may be written. -/
theorem parse_may (s : List UInt8) (q : Qy) (p : Int) (h : parseV s = (q, p, 0)) : chkQ q = 0 ∧ mayV q.s1 q.s2 = true ∧ mayV q.t1 q.t2 = true := by
  by_cases hl : 1000 < s.length
  · rw [parseV, if_pos hl] at h
    cases (Prod.mk.inj (Prod.mk.inj h).2).2
  · rw [parse_words s (by omega)] at h
    cases hf : fold (wds s) (allQ, fun _ => false) with
    | none => rw [hf] at h; cases (Prod.mk.inj (Prod.mk.inj h).2).2
    | some st =>
      rw [hf] at h
      dsimp only at h
      by_cases hc : chkQ st.1 = 0
      · rw [if_pos hc] at h
        have := (Prod.mk.inj h).1
        subst this
        exact ⟨hc, fold_may _ _ _ hf ⟨by decide, by decide⟩⟩
      · rw [if_neg hc] at h
        cases (Prod.mk.inj (Prod.mk.inj h).2).2
theorem parse_zero (s : List UInt8) (q : Qy) (p e : Int) (h : parseV s = (q, p, e)) (he : e ≠ 0) : q = zeroQ := by
  unfold parseV at h
  split at h
  · exact (Prod.mk.inj h).1.symm
  · unfold finV at h
    split at h
    · split at h
      · exact absurd (Prod.mk.inj (Prod.mk.inj h).2).2.symm he
      · exact (Prod.mk.inj h).1.symm
    · exact (Prod.mk.inj h).1.symm
end WanW
end Go.Proofs.YtjcbaaabbdcdnaaDoor
