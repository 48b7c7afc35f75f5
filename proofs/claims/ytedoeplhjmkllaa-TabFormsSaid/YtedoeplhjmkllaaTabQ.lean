/- Plain: lengths come back of their bits; what is taken is what is put. No program is named here. -/
import Derived.Test.YtedoeplhjmkllaaTabP
namespace Go.Proofs.Ytedoeplhjmkllaa
set_option linter.unusedVariables false
set_option linter.unusedSimpArgs false
set_option linter.unnecessarySimpa false
open Go.RowKit
namespace TabW
open LenW (okL okL_at chkL chk0)
open BitW (gam blen ungB ung_at gam_len blen_eq dg_zero blen_facts cut cut_len cut_lt cut_app cut_one nz nz_le getB_yes getB_short)

theorem nz_split (l : List Nat) (h : nz l < l.length) (h2 : ∀ d ∈ l, d < 2) : ∃ r, l = List.replicate (nz l) 0 ++ 1 :: r := by
  induction l with
  | nil => simp [nz] at h
  | cons d l ih =>
    by_cases hd : d = 0
    · subst hd
      rw [nz, if_pos rfl] at h ⊢
      obtain ⟨r, hr⟩ := ih (by simpa using h) (fun d hd => h2 d (by simp [hd]))
      exact ⟨r, by rw [List.replicate_succ, List.cons_append, ← hr]⟩
    · have : d = 1 := by have := h2 d (by simp); omega
      subst this
      rw [nz, if_neg hd]
      exact ⟨l, rfl⟩
theorem ung_conv {s : List UInt8} {p n k : Nat} (hp : p ≤ 8 * s.length) (h : ungB s p = (n, 0, k)) : p + k ≤ 8 * s.length ∧ 0 < n ∧ n < 2 ^ 32 ∧ cut s p k = gam n := by
  unfold ungB at h
  obtain ⟨L, hL⟩ : ∃ L, 8 * s.length - p = L := ⟨_, rfl⟩
  rw [hL] at h
  have hcl := cut_len s p L (by omega)
  have hle := nz_le (cut s p L)
  rw [hcl] at hle
  have hsp := fun q => nz_split (cut s p L) q (cut_lt s p L)
  rw [hcl] at hsp
  generalize hz : nz (cut s p L) = z at *
  by_cases c1 : L = 0 ∨ z = L
  · rw [if_pos c1] at h; simp at h
  · rw [if_neg c1] at h
    by_cases c2 : 32 ≤ z
    · rw [if_pos c2] at h; simp at h
    · rw [if_neg c2] at h
      by_cases c3 : L < 2 * z + 1
      · rw [if_pos c3] at h; simp at h
      · rw [if_neg c3] at h
        simp only [Prod.mk.injEq] at h
        obtain ⟨rfl, _, rfl⟩ := h
        obtain ⟨r, hr⟩ := hsp (by omega)
        have e1 : cut s p L = cut s p z ++ cut s (p + z) (L - z) := by rw [← cut_app, show z + (L - z) = L by omega]
        have e2 := cut_len s p z (by omega)
        rw [e1] at hr
        obtain ⟨e3, e4⟩ := List.append_inj hr (by rw [e2, List.length_replicate])
        have e5 : cut s (p + z) (L - z) = cut s (p + z) (z + 1) ++ cut s (p + z + (z + 1)) (L - z - (z + 1)) := by rw [← cut_app, show z + 1 + (L - z - (z + 1)) = L - z by omega]
        have e6 := cut_len s (p + z) (z + 1) (by omega)
        obtain ⟨t, ht⟩ : ∃ t, cut s (p + z) (z + 1) = 1 :: t := by
          rw [e5] at e4
          cases hc : cut s (p + z) (z + 1) with
          | nil => rw [hc] at e6; simp at e6
          | cons a t => rw [hc] at e4; simp only [List.cons_append, List.cons.injEq] at e4; exact ⟨t, by rw [e4.1]⟩
        have htl : t.length = z := by rw [ht] at e6; simpa using e6
        have hn := num_app [1] t
        have ht2 := num_lt t (fun d hd => cut_lt s (p + z) (z + 1) d (by rw [ht]; simp [hd]))
        rw [htl] at hn ht2
        have hlow : 2 ^ z ≤ num (cut s (p + z) (z + 1)) := by rw [ht, show (1 :: t) = [1] ++ t from rfl, hn]; simp [num]
        have hup : num (cut s (p + z) (z + 1)) < 2 ^ (z + 1) := by
          have := num_lt (cut s (p + z) (z + 1)) (cut_lt s (p + z) (z + 1))
          rwa [e6] at this
        have h32 : (2 : Nat) ^ (z + 1) ≤ 2 ^ 32 := Nat.pow_le_pow_right (by omega) (by omega)
        have hz0 : 0 < (2 : Nat) ^ z := Nat.pow_pos (by omega)
        have hdn := dg_num (cut s (p + z) (z + 1)) (cut_lt s (p + z) (z + 1))
        rw [e6] at hdn
        refine ⟨by omega, by omega, by omega, ?_⟩
        have hb := blen_eq (x := num (cut s (p + z) (z + 1))) (k := z) (by omega) hlow hup
        unfold gam
        rw [hb, Nat.add_sub_cancel, dg_zero, hdn, ← e3, ← cut_app, show z + (z + 1) = 2 * z + 1 by omega]

/-- The lengths that stand at a bit, the bit behind them, the error. -/
def getT (s : List UInt8) (n : Nat) : Nat → Nat → List Int → Int → List Int × Nat × Int
  | 0, _, _, _ => ([], 0, 0)
  | f + 1, p, acc, last =>
    if n ≤ acc.length then (if chkL acc = 0 then (acc, p, 0) else ([], 0, chkL acc))
    else if (getB (bitsB s) p 4).2 ≠ 0 then ([], 0, (getB (bitsB s) p 4).2)
    else if (ungB s (p + 4)).2.1 ≠ 0 then ([], 0, (ungB s (p + 4)).2.1)
    else if (getB (bitsB s) p 4).1 = last then ([], 0, 5)
    else if (n : Int) - (acc.length : Nat) < ((ungB s (p + 4)).1 : Nat) then ([], 0, 40)
    else getT s n f (p + 4 + (ungB s (p + 4)).2.2) (acc ++ List.replicate (ungB s (p + 4)).1 (getB (bitsB s) p 4).1) (getB (bitsB s) p 4).1
def tabG (s : List UInt8) (n : Nat) : List Int × Nat × Int := getT s n (n + 1) 0 [] (-1)
theorem getT_err (s : List UInt8) (n : Nat) : ∀ (f p : Nat) (acc : List Int) (last : Int), (getT s n f p acc last).2.2 ≠ 0 → (getT s n f p acc last).1 = [] := by
  intro f
  induction f with
  | zero => intro p acc last h; simp [getT]
  | succ f ih =>
    intro p acc last h
    unfold getT at h ⊢
    split
    · rename_i h1
      rw [if_pos h1] at h
      split
      · rename_i h2; rw [if_pos h2] at h; exact absurd rfl h
      · rfl
    · rename_i h1
      rw [if_neg h1] at h
      split
      · rfl
      · rename_i h2
        rw [if_neg h2] at h
        split
        · rfl
        · rename_i h3
          rw [if_neg h3] at h
          split
          · rfl
          · rename_i h4
            rw [if_neg h4] at h
            split
            · rfl
            · rename_i h5
              rw [if_neg h5] at h
              exact ih _ _ _ h
theorem getB_conv {s : List UInt8} {p : Nat} (h : (getB (bitsB s) (p : Nat) 4).2 = 0) : p + 4 ≤ 8 * s.length ∧ ∃ x : Nat, (getB (bitsB s) (p : Nat) 4).1 = (x : Int) ∧ dg 4 x = cut s p 4 := by
  have hl := bitsB_len s
  by_cases h1 : ((bitsB s).length : Int) < (p : Int) + 4
  · rw [getB_short (by omega) h1] at h; simp at h
  · have e := getB_yes (l := bitsB s) (p := p) (w := 4) (by omega) (by omega)
    refine ⟨by omega, num (((bitsB s).drop p).take 4), ?_, ?_⟩
    · rw [show (4 : Int) = ((4 : Nat) : Int) from rfl, e]
    · have h3 := dg_num (cut s p 4) (cut_lt s p 4)
      rw [cut_len s p 4 (by omega)] at h3
      exact h3
theorem getT_forms (s : List UInt8) (n : Nat) : ∀ (f p : Nat) (acc : List Int) (last : Int) (x : List Int × Nat × Int), p ≤ 8 * s.length → acc.length ≤ n → n - acc.length < f → tabB acc = (bitsB s).take p → (∀ (j : Nat) (hj : (rle acc).length = j + 1), ((rle acc)[j]'(by omega)).1 = last) →
    getT s n f p acc last = x → x.2.2 = 0 → x.1.length = n ∧ chkL x.1 = 0 ∧ x.2.1 ≤ 8 * s.length ∧ tabB x.1 = (bitsB s).take x.2.1 := by
  intro f
  induction f with
  | zero => intro p acc last x _ _ h; omega
  | succ f ih =>
    intro p acc last x hp ha hf ht hl hx he
    unfold getT at hx
    by_cases h1 : n ≤ acc.length
    · rw [if_pos h1] at hx
      by_cases h2 : chkL acc = 0
      · rw [if_pos h2] at hx; subst hx; exact ⟨by dsimp only; omega, h2, hp, ht⟩
      · rw [if_neg h2] at hx; subst hx; exact absurd he h2
    · rw [if_neg h1] at hx
      by_cases h2 : (getB (bitsB s) p 4).2 ≠ 0
      · rw [if_pos h2] at hx; subst hx; exact absurd he h2
      · rw [if_neg h2] at hx
        by_cases h3 : (ungB s (p + 4)).2.1 ≠ 0
        · rw [if_pos h3] at hx; subst hx; exact absurd he h3
        · rw [if_neg h3] at hx
          by_cases h4 : (getB (bitsB s) p 4).1 = last
          · rw [if_pos h4] at hx; subst hx; exact absurd he (by decide)
          · rw [if_neg h4] at hx
            by_cases h5 : (n : Int) - (acc.length : Nat) < ((ungB s (p + 4)).1 : Nat)
            · rw [if_pos h5] at hx; subst hx; exact absurd he (by decide)
            · rw [if_neg h5] at hx
              obtain ⟨b1, y, b2, b3⟩ := getB_conv (s := s) (p := p) (by simpa using h2)
              rcases hu : ungB s (p + 4) with ⟨k, er, sz⟩
              rw [hu] at h3 h5 hx
              have her : er = 0 := by simpa using h3
              subst her
              obtain ⟨u1, u2, u3, u4⟩ := ung_conv b1 hu
              dsimp only at h5 hx
              rw [b2] at h4 hx
              obtain ⟨m, rfl⟩ : ∃ m, k = m + 1 := ⟨k - 1, by omega⟩
              have hra := rle_app acc (y : Int) m (fun j hj => by rw [hl j hj]; exact fun e => h4 e.symm)
              refine ih (p + 4 + sz) _ _ x (by omega) (by rw [List.length_append, List.length_replicate]; omega) (by rw [List.length_append, List.length_replicate]; omega) ?_ ?_ hx he
              · unfold tabB at ht ⊢
                rw [hra, runsB_app, ht]
                have e1 : runsB [((y : Int), ((m + 1 : Nat) : Int))] = cut s p 4 ++ cut s (p + 4) sz := by
                  rw [u4, ← b3]; simp [runsB, runB]
                rw [e1, ← cut_app]
                unfold cut
                rw [Nat.add_assoc]
                exact List.take_add.symm
              · intro j hj
                have : j = (rle acc).length := by rw [hra] at hj; simpa using hj.symm
                subst this
                simp [hra]
theorem getT_back (s : List UInt8) (l : List Int) (hk : chkL l = 0) (rest : List Nat) (hs : bitsB s = tabB l ++ rest) : ∀ (R2 R1 : List (Int × Int)) (f : Nat) (last : Int), R1 ++ R2 = rle l → R2.length < f → ((R1 = [] ∧ last = -1) ∨ ∃ A q, R1 = A ++ [q] ∧ last = q.1) →
    getT s l.length f (runsB R1).length (expR R1) last = (l, (tabB l).length, 0) := by
  have hg := rle_good hk
  have hsl := bitsB_len s
  intro R2
  induction R2 with
  | nil =>
    intro R1 f last h1 hf hl
    obtain ⟨f, rfl⟩ : ∃ g, f = g + 1 := ⟨f - 1, by simp at hf; omega⟩
    rw [List.append_nil] at h1
    subst h1
    rw [exp_rle, getT, if_pos (Nat.le_refl _), if_pos hk]
    rfl
  | cons r R2 ih =>
    intro R1 f last h1 hf hl
    obtain ⟨f, rfl⟩ : ∃ g, f = g + 1 := ⟨f - 1, by simp at hf; omega⟩
    have hmem : r ∈ rle l := by rw [← h1]; simp
    obtain ⟨g1, g2, g3, g4⟩ := hg r hmem
    have hexp : expR R1 ++ (List.replicate r.2.toNat r.1 ++ expR R2) = l := by
      have := exp_rle l
      rw [← h1] at this
      unfold expR at this ⊢
      rw [List.flatMap_append, List.flatMap_cons] at this
      exact this
    have hlen : (expR R1).length + (r.2.toNat + (expR R2).length) = l.length := by
      have := congrArg List.length hexp
      simpa using this
    have hbits : bitsB s = runsB R1 ++ (dg 4 r.1.toNat ++ (gam r.2.toNat ++ (runsB R2 ++ rest))) := by
      rw [hs]
      unfold tabB
      rw [← h1, runsB_app]
      have : runsB (r :: R2) = dg 4 r.1.toNat ++ gam r.2.toNat ++ runsB R2 := by simp [runsB, runB]
      rw [this]
      simp
    have hbl := congrArg List.length hbits
    rw [hsl] at hbl
    simp only [List.length_append, dg_len] at hbl
    have hB : getB (bitsB s) ((runsB R1).length : Nat) 4 = (r.1, 0) := by
      rw [show (4 : Int) = ((4 : Nat) : Int) from rfl, getB_yes (by omega) (by rw [hsl]; omega), hbits, List.drop_left, List.take_left' (dg_len _ _), num_dg, Nat.mod_eq_of_lt (by omega)]
      rw [Int.toNat_of_nonneg g1]
    have hU : ungB s ((runsB R1).length + 4) = (r.2.toNat, 0, (gam r.2.toNat).length) := by
      have := ung_at (s := s) (pre := runsB R1 ++ dg 4 r.1.toNat) (rest := runsB R2 ++ rest) (x := r.2.toNat) (by omega) (by omega) (by rw [hbits, List.append_assoc])
      rwa [List.length_append, dg_len] at this
    have hne : r.1 ≠ last := by
      rcases hl with ⟨_, rfl⟩ | ⟨A, q, rfl, rfl⟩
      · omega
      · have := rle_apart l
        rw [← h1, List.append_assoc] at this
        exact fun e => apart_app this e.symm
    rw [getT, if_neg (by omega), hB, hU]
    rw [if_neg (by simp), if_neg (by simp), if_neg hne, if_neg (by dsimp only; omega)]
    dsimp only
    have e1 : (runsB R1).length + 4 + (gam r.2.toNat).length = (runsB (R1 ++ [r])).length := by
      rw [runsB_app]; simp [runsB, runB, dg_len]; omega
    have e2 : expR R1 ++ List.replicate r.2.toNat r.1 = expR (R1 ++ [r]) := by simp [expR]
    rw [e1, e2]
    exact ih (R1 ++ [r]) f r.1 (by rw [List.append_assoc]; exact h1) (by simp at hf; omega) (.inr ⟨R1, r, rfl, rfl⟩)
theorem tab_back (l : List Int) (hk : chkL l = 0) (m : List UInt8) : tabG (textB (tabB l) ++ m) l.length = (l, (tabB l).length, 0) := by
  obtain ⟨k, _, hb⟩ := bits_text (tabB l) (runsB_lt _)
  have := rle_len l
  exact getT_back (textB (tabB l) ++ m) l hk (List.replicate k 0 ++ bitsB m) (by rw [bitsB_app, hb, List.append_assoc]) (rle l) [] (l.length + 1) (-1) rfl (by omega) (.inl ⟨rfl, rfl⟩)
theorem tab_forms (s : List UInt8) (n : Nat) (x : List Int × Nat × Int) (hx : tabG s n = x) (he : x.2.2 = 0) : x.1.length = n ∧ chkL x.1 = 0 ∧ x.2.1 ≤ 8 * s.length ∧ tabB x.1 = (bitsB s).take x.2.1 :=
  getT_forms s n (n + 1) 0 [] (-1) x (by omega) (by simp) (by simp) rfl (fun j hj => by simp [rle] at hj) hx he
end TabW
end Go.Proofs.Ytedoeplhjmkllaa
