/- Package want, plainly: what is written is read as it was; the words' order makes no difference. -/
import Derived.Test.YtjcbaaabbdcdnaaDoorWanV
namespace Go.Proofs.YtjcbaaabbdcdnaaDoor
set_option linter.unusedVariables false
set_option linter.unusedSimpArgs false
set_option linter.unnecessarySimpa false
open Go.RowKit
namespace WanW
open SkpW (Qy qv qc chkQ)

/-! numbers -/
theorem dig_dec (n : Nat) (h : n < 10) : decB (UInt8.ofNat (48 + n)) = true := by
  unfold decB
  rw [dig_nat n h]
  simp
  omega
theorem decL_all (n : Nat) : (decL n).all decB = true := by
  induction n using Nat.strongRecOn with
  | ind n ih =>
    rw [decL]
    split
    · rw [List.all_cons, dig_dec n (by assumption)]; rfl
    · rw [List.all_append, ih (n / 10) (by omega)]
      rw [List.all_cons, dig_dec (n % 10) (by omega)]; rfl
theorem decL_num (n : Nat) : numN (decL n) = n := by
  induction n using Nat.strongRecOn with
  | ind n ih =>
    rw [decL]
    split
    · have := dig_nat n (by assumption)
      show 10 * 0 + ((UInt8.ofNat (48 + n)).toNat - 48) = n
      omega
    · rw [numN_snoc, ih (n / 10) (by omega), dig_nat _ (by omega)]
      omega
theorem decL_pos (n : Nat) : 0 < (decL n).length := by
  rw [decL]
  split <;> simp
theorem decL_head (n : Nat) (h : 0 < n) : (decL n)[0]?.getD 0 ≠ 48 := by
  induction n using Nat.strongRecOn with
  | ind n ih =>
    rw [decL]
    split
    · intro e
      have h2 := congrArg UInt8.toNat e
      have h3 := dig_nat n (by assumption)
      simp at h2
      rw [UInt8.toNat_ofNat'] at h3
      omega
    · have hp := decL_pos (n / 10)
      rw [List.getElem?_append_left hp]
      exact ih (n / 10) (by omega) (by omega)
theorem decL_small (n : Nat) (h : n < 10) : (decL n).length = 1 := by rw [decL, dif_pos h]; rfl
theorem num_dec (n : Nat) (h : n ≤ 1000000001) : numV (decL n) = ((n : Int), true) := by
  have hl := decL_len n 9 (by omega)
  have hp := decL_pos n
  have ha := decL_all n
  have hn := decL_num n
  rw [numV_yes, hn]
  rintro (e | e | ⟨e1, e2⟩ | e | e)
  · omega
  · omega
  · by_cases h10 : n < 10
    · rw [decL_small n h10] at e1; omega
    · exact decL_head n (by omega) e2
  · rw [ha] at e; cases e
  · omega
theorem dec_no (n : Nat) (c : UInt8) (hc : decB c = false) : (decL n).contains c = false := by
  refine no_contains c _ (fun j hj e => ?_)
  have := List.all_eq_true.1 (decL_all n) _ (List.getElem_mem hj)
  rw [e, hc] at this
  cases this
theorem bef_mid (c : UInt8) (a b : List UInt8) (h : a.contains c = false) : bef c (a ++ c :: b) = a ∧ aft c (a ++ c :: b) = b ∧ (a ++ c :: b).contains c = true := by
  induction a with
  | nil => simp [bef, aft]
  | cons x a ih =>
    have hx : ¬ x = c := by
      intro e
      subst e
      simp at h
    have ha : a.contains c = false := by
      rw [List.contains_cons, Bool.or_eq_false_iff] at h
      exact h.2
    have h2 : (x != c) = true := by simp; exact hx
    obtain ⟨i1, i2, i3⟩ := ih ha
    refine ⟨?_, ?_, ?_⟩
    · rw [List.cons_append, bef, List.takeWhile_cons, h2]; simp only [if_true]; congr 1
    · rw [List.cons_append, aft, List.dropWhile_cons, h2]; simp only [if_true]; exact i2
    · simp
theorem rng_back (a b : Int) (a0 : 0 ≤ a) (a1 : a ≤ 1000000001) (b0 : 0 ≤ b) (b1 : b ≤ 1000000001) : ok2 (rngL a b) = true ∧ lo2 (rngL a b) = a ∧ hi2 (rngL a b) = b := by
  obtain ⟨h1, h2, h3⟩ := bef_mid 45 (decL a.toNat) (decL b.toNat) (dec_no _ 45 (by decide))
  have ha := num_dec a.toNat (by omega)
  have hb := num_dec b.toNat (by omega)
  unfold ok2 lo2 hi2 rngL
  rw [h1, h2, h3, ha, hb]
  exact ⟨rfl, by show ((a.toNat : Nat) : Int) = a; omega, by show ((b.toNat : Nat) : Int) = b; omega⟩
/-! bytes -/
theorem digB_hex (c : Nat) (h : c < 16) : hexB (digB c) = true ∧ dg (digB c) = c := (digit_iff (digB c) c h).1 (digB_toNat c h).symm
theorem hexL_all (s : List UInt8) : (hexL s).all hexB = true := by
  induction s with
  | nil => rfl
  | cons b s ih =>
    have e : hexL (b :: s) = digB (b.toNat / 16) :: digB (b.toNat % 16) :: hexL s := rfl
    have := b.toNat_lt
    rw [e, List.all_cons, List.all_cons, ih, (digB_hex (b.toNat / 16) (by omega)).1, (digB_hex (b.toNat % 16) (by omega)).1]
    rfl
theorem unpair_hex (s : List UInt8) : unpair (hexL s) = s := by
  induction s with
  | nil => rfl
  | cons b s ih =>
    have hb := b.toNat_lt
    show UInt8.ofNat (16 * dg (digB (b.toNat / 16)) + dg (digB (b.toNat % 16))) :: unpair (hexL s) = b :: s
    rw [ih, (digB_hex (b.toNat / 16) (by omega)).2, (digB_hex (b.toNat % 16) (by omega)).2]
    congr 1
    apply UInt8.toNat_inj.1
    rw [UInt8.toNat_ofNat']
    omega
theorem hex_back (s : List UInt8) : unhexV (hexL s) = (s, true) := by
  rw [unhexV_yes, unpair_hex]
  rw [hexL_len, hexL_all]
  rintro (e | e)
  · omega
  · cases e
theorem hex_no (s : List UInt8) (c : UInt8) (hc : hexB c = false) : (hexL s).contains c = false := by
  refine no_contains c _ (fun j hj e => ?_)
  have := List.all_eq_true.1 (hexL_all s) _ (List.getElem_mem hj)
  rw [e, hc] at this
  cases this
/-! words -/
def wordsL : Nat → List UInt8 → List (List UInt8)
  | 0, _ => []
  | _ + 1, [] => []
  | n + 1, c :: l => if c = 32 then wordsL n l else bef 32 (c :: l) :: wordsL n ((c :: l).drop (bef 32 (c :: l)).length)
theorem words_nil (n : Nat) : wordsL n [] = [] := by cases n <;> rfl
theorem words_fuel : ∀ (n m : Nat) (l : List UInt8), l.length ≤ n → l.length ≤ m → wordsL n l = wordsL m l := by
  intro n
  induction n with
  | zero => intro m l h _; obtain rfl := List.length_eq_zero_iff.1 (Nat.le_zero.1 h); rw [words_nil, words_nil]
  | succ n ih =>
    intro m l h1 h2
    cases l with
    | nil => rw [words_nil, words_nil]
    | cons c l =>
      cases m with
      | zero => simp at h2
      | succ m =>
        simp only [wordsL]
        simp only [List.length_cons] at h1 h2
        by_cases hc : c = 32
        · rw [if_pos hc, if_pos hc]
          exact ih m l (by omega) (by omega)
        · rw [if_neg hc, if_neg hc]
          have hp := bef_pos c l hc
          rw [ih m _ (by rw [List.length_drop, List.length_cons]; omega) (by rw [List.length_drop, List.length_cons]; omega)]
def wds (l : List UInt8) : List (List UInt8) := wordsL l.length l
theorem wds_sp (l : List UInt8) : wds (32 :: l) = wds l := by unfold wds; simp [wordsL]
theorem wds_word (c : UInt8) (l : List UInt8) (hc : ¬ c = 32) : wds (c :: l) = bef 32 (c :: l) :: wds ((c :: l).drop (bef 32 (c :: l)).length) := by
  unfold wds
  rw [List.length_cons, wordsL, if_neg hc]
  have hp := bef_pos c l hc
  rw [words_fuel l.length _ _ (by rw [List.length_drop, List.length_cons]; omega) (Nat.le_refl _)]
theorem bef_app (x b : List UInt8) : bef 32 (x ++ 32 :: b) = bef 32 x := by
  induction x with
  | nil => simp [bef]
  | cons c x ih =>
    by_cases hc : c = 32
    · subst hc; simp [bef]
    · have h2 : (c != 32) = true := by simp; exact hc
      rw [List.cons_append, bef, List.takeWhile_cons, h2, bef, List.takeWhile_cons, h2]
      simp only [if_true]
      congr 1
theorem wds_app : ∀ (n : Nat) (x b : List UInt8), x.length ≤ n → wds (x ++ 32 :: b) = wds x ++ wds b := by
  intro n
  induction n with
  | zero => intro x b h; obtain rfl := List.length_eq_zero_iff.1 (Nat.le_zero.1 h); rw [List.nil_append, wds_sp]; rfl
  | succ n ih =>
    intro x b h
    cases x with
    | nil => rw [List.nil_append, wds_sp]; rfl
    | cons c x =>
      simp only [List.length_cons] at h
      by_cases hc : c = 32
      · subst hc
        rw [List.cons_append, wds_sp, wds_sp]
        exact ih x b (by omega)
      · rw [List.cons_append, wds_word c _ hc, wds_word c x hc]
        have e : bef 32 (c :: (x ++ 32 :: b)) = bef 32 (c :: x) := bef_app (c :: x) b
        have hp := bef_pos c x hc
        have hle := bef_le 32 (c :: x)
        rw [e, show (c :: (x ++ 32 :: b)) = (c :: x) ++ 32 :: b from rfl, List.drop_append_of_le_length hle, List.cons_append]
        congr 1
        exact ih _ b (by rw [List.length_drop, List.length_cons]; omega)
theorem wds_one (x : List UInt8) (h0 : x ≠ []) (h : x.contains 32 = false) : wds x = [x] := by
  cases x with
  | nil => exact absurd rfl h0
  | cons c x =>
    have hc : ¬ c = 32 := by
      intro e
      subst e
      simp at h
    rw [wds_word c x hc, ((bef_aft 32 (c :: x)).2 h).1, List.drop_length]
    rfl
/-- What the words leave. -/
def fold (l : List (List UInt8)) (st : St) : Option St := l.foldlM stepW st
theorem fold_cons (t : List UInt8) (l : List (List UInt8)) (st : St) : fold (t :: l) st = (stepW st t).bind (fold l) := rfl
theorem parse_fold : ∀ (n : Nat) (l : List UInt8) (p : Nat) (st : St), l.length ≤ n → (parseL n l p st).1 = fold (wordsL n l) st ∧ (∀ r, (parseL n l p st).1 = some r → (parseL n l p st).2 = p + l.length) := by
  intro n
  induction n with
  | zero => intro l p st h; obtain rfl := List.length_eq_zero_iff.1 (Nat.le_zero.1 h); exact ⟨rfl, fun _ _ => rfl⟩
  | succ n ih =>
    intro l p st h
    cases l with
    | nil => exact ⟨rfl, fun _ _ => rfl⟩
    | cons c l =>
      simp only [List.length_cons] at h
      simp only [parseL, wordsL]
      by_cases hc : c = 32
      · rw [if_pos hc, if_pos hc]
        obtain ⟨i1, i2⟩ := ih l (p + 1) st (by omega)
        exact ⟨i1, fun r hr => by rw [i2 r hr, List.length_cons]; omega⟩
      · rw [if_neg hc, if_neg hc, fold_cons]
        have hp := bef_pos c l hc
        have hle := bef_le 32 (c :: l)
        cases hs : stepW st (bef 32 (c :: l)) with
        | none => exact ⟨rfl, fun r hr => by cases hr⟩
        | some st' =>
          obtain ⟨i1, i2⟩ := ih ((c :: l).drop (bef 32 (c :: l)).length) (p + (bef 32 (c :: l)).length) st' (by rw [List.length_drop, List.length_cons]; omega)
          exact ⟨i1, fun r hr => by rw [i2 r hr, List.length_drop]; omega⟩
end WanW
end Go.Proofs.YtjcbaaabbdcdnaaDoor
