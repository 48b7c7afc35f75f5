/- Plain facts: what is taken of what was put. -/
import Derived.Test.YtnghmcadhjneeaaVarF
namespace Go.Proofs.Ytnghmcadhjneeaa
set_option linter.unusedVariables false
set_option linter.unusedSimpArgs false
set_option linter.unnecessarySimpa false
open Go.RowKit
namespace VarW

theorem ofNat_lt (n : Nat) (h : n < 256) : (UInt8.ofNat n).toNat = n := by simp; omega
theorem vdec_put (f : Nat) : ∀ (n : Nat) (fst : Bool) (r : List UInt8), n < 128 ^ f → 0 < f → (fst = true ∨ 0 < n) → vdec f fst (vput f n ++ r) = (n, vl f n, 0) := by
  induction f with
  | zero => intro n fst r _ h; omega
  | succ f ih =>
    intro n fst r hn _ hz
    by_cases hs : n < 128
    · rw [vput, if_pos hs, vl, if_pos hs, List.singleton_append, vdec, ofNat_lt n (by omega), if_neg (by omega), if_neg]
      rintro ⟨h1, h2⟩
      rcases hz with hz | hz
      · rw [hz] at h2; cases h2
      · omega
    · have h2 : n / 128 < 128 ^ f := by rw [Nat.div_lt_iff_lt_mul (by omega)]; rw [Nat.pow_succ] at hn; exact hn
      have hf : 0 < f := by
        rcases Nat.eq_zero_or_pos f with rfl | h
        · simp at hn; omega
        · exact h
      have hi := ih (n / 128) false r h2 hf (.inr (by omega))
      rw [vput, if_neg hs, vl, if_neg hs, List.cons_append, vdec, ofNat_lt (128 + n % 128) (by omega), if_pos (by omega), hi]
      rw [if_pos rfl]
      dsimp only
      congr 1
      · omega
      · congr 1
        omega
theorem getV_at (p l : List UInt8) : getV (p ++ l) (p.length : Nat) = resV p.length 0 0 (vdec 9 true l) := by
  rw [getV_in (by simp)]
  simp
theorem getV_put (p r : List UInt8) (n : Nat) (h : n ≤ 9223372036854775807) : getV (p ++ (vbytes n ++ r)) (p.length : Nat) = ((n : Int), ((p.length + vlen n : Nat) : Int), 0) := by
  rw [getV_at, show vbytes n = vput 9 n from rfl, vdec_put 9 n true r (by omega) (by omega) (.inl rfl)]
  unfold resV
  simp [vlen]
/-- What was taken is what is put. -/
theorem vdec_inv (f : Nat) : ∀ (fst : Bool) (l : List UInt8), (vdec f fst l).2.2 = 0 → vput f (vdec f fst l).1 = l.take (vdec f fst l).2.1 ∧ (fst = false → 0 < (vdec f fst l).1) := by
  induction f with
  | zero => intro fst l h; simp [vdec] at h
  | succ f ih =>
    intro fst l h
    cases l with
    | nil => simp [vdec] at h
    | cons b r =>
      have hb := b.toNat_lt
      by_cases h1 : 128 ≤ b.toNat
      · by_cases h2 : (vdec f false r).2.2 = 0
        · have e : vdec (f + 1) fst (b :: r) = (b.toNat - 128 + 128 * (vdec f false r).1, (vdec f false r).2.1 + 1, 0) := by rw [vdec, if_pos h1, if_pos h2]
          obtain ⟨i1, i2⟩ := ih false r h2
          have i3 := i2 rfl
          rw [e]
          dsimp only
          refine ⟨?_, fun _ => by omega⟩
          rw [vput, if_neg (by omega), List.take_succ_cons, ← i1]
          congr 1
          · apply UInt8.toNat_inj.1
            rw [ofNat_lt _ (by omega)]
            omega
          · congr 1
            omega
        · have e : vdec (f + 1) fst (b :: r) = (0, 0, (vdec f false r).2.2) := by rw [vdec, if_pos h1, if_neg h2]
          rw [e] at h
          exact absurd h h2
      · by_cases h3 : b.toNat = 0 ∧ fst = false
        · have e : vdec (f + 1) fst (b :: r) = (0, 0, 5) := by rw [vdec, if_neg h1, if_pos h3]
          rw [e] at h; cases h
        · have e : vdec (f + 1) fst (b :: r) = (b.toNat, 1, 0) := by rw [vdec, if_neg h1, if_neg h3]
          rw [e]
          dsimp only
          refine ⟨?_, fun hf => ?_⟩
          · rw [vput, if_pos (by omega)]
            simp
          · rcases Nat.eq_zero_or_pos b.toNat with h | h
            · exact absurd ⟨h, hf⟩ h3
            · exact h
theorem getV_inv {s : List UInt8} {a : Int} (h : (getV s a).2.2 = 0) : vbytes (getV s a).1.toNat = (s.drop a.toNat).take ((getV s a).2.1 - a).toNat := by
  by_cases h1 : a < 0 ∨ (s.length : Int) < a
  · rw [getV_out h1] at h; cases h
  · obtain ⟨p, rfl⟩ := Int.eq_ofNat_of_zero_le (show 0 ≤ a by omega)
    rw [getV_in (by omega)] at h ⊢
    unfold resV at *
    by_cases h2 : (vdec 9 true (s.drop p)).2.2 = 0
    · rw [if_pos h2]
      obtain ⟨i1, _⟩ := vdec_inv 9 true (s.drop p) h2
      simp only [Nat.pow_zero, Nat.one_mul, Nat.zero_add, Int.toNat_natCast, Nat.add_zero]
      rw [show (((p + (vdec 9 true (s.drop p)).2.1 : Nat) : Int) - (p : Int)).toNat = (vdec 9 true (s.drop p)).2.1 from by omega]
      exact i1
    · rw [if_neg h2] at h; exact absurd h h2
/-- No number's bytes begin another one's. -/
theorem vbytes_prefix {n m : Nat} (hn : n ≤ 9223372036854775807) (hm : m ≤ 9223372036854775807) (h : (vbytes n).take (vbytes m).length = vbytes m) : n = m := by
  have h1 : vbytes n = vbytes m ++ (vbytes n).drop (vbytes m).length := by
    have := List.take_append_drop (vbytes m).length (vbytes n)
    rw [h] at this
    exact this.symm
  have h2 := vdec_put 9 n true [] (by omega) (by omega) (.inl rfl)
  have h3 := vdec_put 9 m true ((vbytes n).drop (vbytes m).length) (by omega) (by omega) (.inl rfl)
  rw [List.append_nil] at h2
  rw [show vput 9 m = vbytes m from rfl, ← h1] at h3
  rw [show vput 9 n = vbytes n from rfl, h3] at h2
  exact (Prod.ext_iff.1 h2).1.symm
theorem fval_put (k n : Nat) (h : n < 256 ^ k) : fval (fbytes k n) = n := by
  induction k generalizing n with
  | zero => simp at h; subst h; rfl
  | succ k ih =>
    rw [fbytes, fval, ofNat_lt _ (by omega), ih (n / 256) (by rw [Nat.div_lt_iff_lt_mul (by omega)]; rw [Nat.pow_succ] at h; exact h)]
    omega
theorem unfixV_put (p r : List UInt8) (n k : Nat) (h1 : 1 ≤ k) (h8 : k ≤ 8) (hn : n < 256 ^ k) (hn2 : n ≤ 9223372036854775807) : unfixV (p ++ (fbytes k n ++ r)) (p.length : Nat) k = ((n : Int), ((p.length : Nat) : Int) + k, 0) := by
  rw [unfixV_in h1 h8 (by simp [fbytes_len])]
  have : fvW (p ++ (fbytes k n ++ r)) p.length k 0 = n := by
    unfold fvW
    rw [List.drop_zero, List.drop_left, List.take_append_of_le_length (by rw [fbytes_len]; exact Nat.le_refl _), List.take_of_length_le (by rw [fbytes_len]; exact Nat.le_refl _), fval_put k n hn]
  rw [this, if_neg (by omega)]
theorem unl_put (l : List Int) (hl : ∀ n ∈ l, 0 ≤ n ∧ n ≤ 9223372036854775807) : ∀ (p r : List UInt8) (acc : List Int), unl l.length (p ++ (lput l ++ r)) (p.length : Nat) acc = (acc ++ l, ((p.length + (lput l).length : Nat) : Int), 0) := by
  induction l with
  | nil => intro p r acc; simp [unl, lput]
  | cons n l ih =>
    intro p r acc
    obtain ⟨h0, h1⟩ := hl n (by simp)
    have e : lput (n :: l) = vbytes n.toNat ++ lput l := by simp [lput]
    have hg := getV_put p (lput l ++ r) n.toNat (by omega)
    rw [List.length_cons, unl, e, List.append_assoc, hg, if_pos rfl]
    dsimp only
    have := ih (fun m hm => hl m (by simp [hm])) (p ++ vbytes n.toNat) r (acc ++ [n])
    rw [List.length_append, vbytes_len, List.append_assoc] at this
    rw [Int.toNat_of_nonneg h0, this, List.append_assoc, List.singleton_append, List.length_append, vbytes_len]
    congr 2
    omega
theorem unlistV_put (p r : List UInt8) (l : List Int) (hl : ∀ n ∈ l, 0 ≤ n ∧ n ≤ 9223372036854775807) (hn : l.length ≤ 1000000) :
    unlistV (p ++ ((vbytes l.length ++ lput l) ++ r)) (p.length : Nat) l.length = (l, ((p.length + (vbytes l.length ++ lput l).length : Nat) : Int), 0) := by
  have hg := getV_put p (lput l ++ r) l.length (by omega)
  unfold unlistV
  rw [List.append_assoc, hg, if_pos rfl]
  dsimp only
  rw [if_neg (by omega), Int.toNat_natCast]
  have := unl_put l hl (p ++ vbytes l.length) r []
  rw [List.length_append, vbytes_len, List.append_assoc, List.nil_append] at this
  rw [this, List.length_append, vbytes_len, Nat.add_assoc]
theorem unl_len (s : List UInt8) (m : Nat) : ∀ (a : Int) (acc : List Int), (acc.length : Int) ≤ a → a ≤ s.length → (unl m s a acc).1.length ≤ s.length := by
  induction m with
  | zero => intro a acc h1 h2; show acc.length ≤ s.length; omega
  | succ m ih =>
    intro a acc h1 h2
    rw [unl]
    by_cases h : (getV s a).2.2 = 0
    · rw [if_pos h]
      obtain ⟨g1, g2, g3, _⟩ := getV_ok h
      exact ih _ _ (by rw [List.length_append]; simp; omega) g3
    · rw [if_neg h]; simp
theorem unlistV_len (s : List UInt8) (a most : Int) : (unlistV s a most).1.length ≤ s.length := by
  unfold unlistV
  by_cases h : (getV s a).2.2 = 0
  · rw [if_pos h]
    obtain ⟨g1, g2, g3, _⟩ := getV_ok h
    by_cases h2 : most < (getV s a).1
    · rw [if_pos h2]; simp
    · rw [if_neg h2]; exact unl_len s _ _ _ (by simp; omega) g3
  · rw [if_neg h]; simp
end VarW
end Go.Proofs.Ytnghmcadhjneeaa
