/- Plain: code words are apart; the symbol that bits begin with. No program is named here. -/
import Derived.Test.YtdfclgpkhfpkhaaCanP
import Derived.Test.YtdfclgpkhfpkhaaBits
namespace Go.Proofs.Ytdfclgpkhfpkhaa
set_option linter.unusedVariables false
set_option linter.unusedSimpArgs false
set_option linter.unnecessarySimpa false
open Go.RowKit
namespace LenW

/-- A symbol that is used; its width; its word. -/
def Vs (l : List Int) (s : Nat) : Prop := ∃ h : s < l.length, 0 < l[s]
def wd (l : List Int) (s : Nat) : Nat := (l[s]?.getD 0).toNat
def rk (l : List Int) (s : Nat) : Nat := cntL (l.take s) (wd l s)
def nm (l : List Int) (s : Nat) : Nat := fstL l (wd l s) + rk l s
theorem wd_at {l : List Int} {s : Nat} (h : s < l.length) : wd l s = l[s].toNat := by simp [wd, h]
theorem Vs_int {l : List Int} {s : Nat} (h : Vs l s) : ∃ h : s < l.length, 0 < l[s] ∧ l[s] = (wd l s : Int) := by
  obtain ⟨h1, h2⟩ := h
  exact ⟨h1, h2, by rw [wd_at h1]; omega⟩
theorem wd_pos {l : List Int} {s : Nat} (h : Vs l s) : 0 < wd l s := by
  obtain ⟨h1, h2, h3⟩ := Vs_int h
  omega
theorem wd_le {l : List Int} (hk : chkL l = 0) {s : Nat} (h : Vs l s) : wd l s ≤ 15 := by
  obtain ⟨_, hok, _⟩ := chk0 hk
  obtain ⟨h1, h2, h3⟩ := Vs_int h
  have := okL_at l s h1 hok
  omega
theorem wordF_V {l : List Int} {s : Nat} (h : Vs l s) : wordF l s = ((nm l s : Int), (wd l s : Int)) := by
  obtain ⟨h1, h2, h3⟩ := Vs_int h
  rw [word_at l s h1 h2, ← wd_at h1, h3]
  rfl
theorem wordF_N {l : List Int} {s : Nat} (h : ¬ Vs l s) : wordF l s = (0, 0) := by
  by_cases h1 : s < l.length
  · exact word_no l s h1 (fun h2 => h ⟨h1, h2⟩)
  · unfold wordF
    rw [List.getElem?_eq_none (by omega)]
theorem cntL_mono (l : List Int) (a b n : Nat) (h : a ≤ b) : cntL (l.take a) n ≤ cntL (l.take b) n := by
  have := cntL_take (l.take b) a n
  rwa [List.take_take, Nat.min_eq_left h] at this
theorem rk_snoc {l : List Int} {s : Nat} (h : Vs l s) : cntL (l.take (s + 1)) (wd l s) = rk l s + 1 := by
  obtain ⟨h1, h2, h3⟩ := Vs_int h
  rw [cntL_snoc l s _ h1, if_pos ⟨h2, h3⟩]
  rfl
theorem rk_lt {l : List Int} {s : Nat} (h : Vs l s) : rk l s < cntL l (wd l s) := by
  have h1 := rk_snoc h
  have h2 := cntL_take l (s + 1) (wd l s)
  omega
theorem rk_mono {l : List Int} {s t : Nat} (hs : Vs l s) (hst : s < t) (hw : wd l s = wd l t) : rk l s < rk l t := by
  have h1 := rk_snoc hs
  have h2 := cntL_mono l (s + 1) t (wd l s) hst
  unfold rk at *
  rw [hw] at *
  omega
theorem rk_inj {l : List Int} {s t : Nat} (hs : Vs l s) (ht : Vs l t) (hw : wd l s = wd l t) (hr : rk l s = rk l t) : s = t := by
  rcases Nat.lt_trichotomy s t with h | h | h
  · have := rk_mono hs h hw; omega
  · exact h
  · have := rk_mono ht h hw.symm; omega
theorem nm_lt {l : List Int} (hk : chkL l = 0) {s : Nat} (h : Vs l s) : nm l s < 2 ^ wd l s := by
  obtain ⟨_, _, hsum⟩ := chk0 hk
  have h1 := room l (wd l s) (wd_le hk h) hsum
  have h2 := rk_lt h
  unfold nm
  omega
theorem fst_add (l : List Int) (a d : Nat) : (fstL l a + cntL l a) * 2 ^ (d + 1) ≤ fstL l (a + (d + 1)) := by
  induction d with
  | zero => show _ ≤ 2 * (fstL l a + cntL l a); omega
  | succ d ih =>
    have : fstL l (a + (d + 1 + 1)) = 2 * (fstL l (a + (d + 1)) + cntL l (a + (d + 1))) := rfl
    rw [this, Nat.pow_succ, ← Nat.mul_assoc]
    omega
theorem word_apart {l : List Int} {s t : Nat} (hs : Vs l s) (ht : Vs l t) (hw : wd l s < wd l t) : nm l s < nm l t / 2 ^ (wd l t - wd l s) := by
  obtain ⟨d, hd⟩ : ∃ d, wd l t = wd l s + (d + 1) := ⟨wd l t - wd l s - 1, by omega⟩
  have h1 := fst_add l (wd l s) d
  have h2 := rk_lt hs
  rw [← hd] at h1
  rw [show wd l t - wd l s = d + 1 by omega, Nat.lt_div_iff_mul_lt (Nat.pow_pos (by omega))]
  have h3 : (nm l s + 1) * 2 ^ (d + 1) ≤ (fstL l (wd l s) + cntL l (wd l s)) * 2 ^ (d + 1) := Nat.mul_le_mul_right _ (by unfold nm; omega)
  have h4 : 0 < 2 ^ (d + 1) := Nat.pow_pos (by omega)
  have h5 : fstL l (wd l t) ≤ nm l t := Nat.le_add_right _ _
  rw [Nat.add_mul, Nat.one_mul] at h3
  omega
theorem same_word {l : List Int} {s t : Nat} (hs : Vs l s) (ht : Vs l t) (hw : wd l s = wd l t) (hn : nm l s = nm l t) : s = t := by
  unfold nm at hn
  exact rk_inj hs ht hw (by rw [hw] at hn; omega)
theorem word_free {l : List Int} {s t : Nat} (hs : Vs l s) (ht : Vs l t) (hw : wd l s ≤ wd l t) (hn : nm l t / 2 ^ (wd l t - wd l s) = nm l s) : s = t := by
  rcases Nat.lt_or_ge (wd l s) (wd l t) with h | h
  · have := word_apart hs ht h; omega
  · have he : wd l s = wd l t := by omega
    rw [he, Nat.sub_self, Nat.pow_zero, Nat.div_one] at hn
    exact same_word hs ht he hn.symm
/-- Each place has its symbol. -/
theorem rank_ex (l : List Int) (w i : Nat) (h0 : 0 < w) (k : Nat) (hk : k ≤ l.length) (h : i < cntL (l.take k) w) : ∃ s, s < k ∧ Vs l s ∧ wd l s = w ∧ rk l s = i := by
  induction k with
  | zero => simp [cntL] at h
  | succ k ih =>
    rw [cntL_snoc l k w (by omega)] at h
    by_cases hi : i < cntL (l.take k) w
    · obtain ⟨s, h1, h2⟩ := ih (by omega) hi
      exact ⟨s, by omega, h2⟩
    · by_cases hc : 0 < l[k] ∧ l[k] = (w : Int)
      · rw [if_pos hc] at h
        have hw : wd l k = w := by rw [wd_at (by omega)]; omega
        exact ⟨k, by omega, ⟨by omega, hc.1⟩, hw, by unfold rk; rw [hw]; omega⟩
      · rw [if_neg hc] at h
        omega
theorem word_ex (l : List Int) (w n : Nat) (h0 : 0 < w) (h1 : fstL l w ≤ n) (h2 : n < fstL l w + cntL l w) : ∃ s, Vs l s ∧ wd l s = w ∧ nm l s = n := by
  obtain ⟨s, _, h3, h4, h5⟩ := rank_ex l w (n - fstL l w) h0 l.length (Nat.le_refl _) (by rw [List.take_length]; omega)
  exact ⟨s, h3, h4, by unfold nm; rw [h4, h5]; omega⟩
theorem place_ne {l : List Int} {s t : Nat} (hs : Vs l s) (ht : Vs l t) (hne : s ≠ t) : plcL l (wd l s) + rk l s ≠ plcL l (wd l t) + rk l t := by
  have key : ∀ s t, Vs l s → Vs l t → wd l s < wd l t → plcL l (wd l s) + rk l s < plcL l (wd l t) + rk l t := by
    intro s t hs ht h
    have h1 := rk_lt hs
    have h2 := plcL_succ l (wd l s)
    have h3 : ∀ a b, a ≤ b → plcL l a ≤ plcL l b := by
      intro a b hab
      obtain ⟨d, rfl⟩ : ∃ d, b = a + d := ⟨b - a, by omega⟩
      induction d with
      | zero => exact Nat.le_refl _
      | succ d ih => rw [← Nat.add_assoc, plcL_succ]; have := ih (by omega); omega
    have := h3 (wd l s + 1) (wd l t) h
    omega
  rcases Nat.lt_trichotomy (wd l s) (wd l t) with h | h | h
  · have := key s t hs ht h; omega
  · intro e
    rw [h] at e
    exact hne (rk_inj hs ht h (by omega))
  · have := key t s ht hs h; omega
theorem sort_get (l : List Int) (k : Nat) (hk : k ≤ l.length) (s : Nat) (hs : Vs l s) (hsk : s < k) : (sortK l k)[plcL l (wd l s) + rk l s]? = some (s : Int) := by
  induction k with
  | zero => omega
  | succ k ih =>
    have hkl : k < l.length := by omega
    have hpl : ∀ t, Vs l t → plcL l (wd l t) + rk l t < usedL l := by
      intro t ht
      obtain ⟨h1, h2⟩ := ht
      have := place_lt l t h1 h2
      rw [← wd_at h1] at this
      exact this
    by_cases hp : 0 < l[k]
    · rw [sortK_at l k hkl hp, ← wd_at hkl]
      have hVk : Vs l k := ⟨hkl, hp⟩
      by_cases he : s = k
      · subst he
        rw [show cntL (l.take s) (wd l s) = rk l s from rfl, List.getElem?_set_self (by rw [sortK_len]; exact hpl s hs)]
      · rw [show cntL (l.take k) (wd l k) = rk l k from rfl, List.getElem?_set_ne (fun e => place_ne hs hVk he e.symm)]
        exact ih (by omega) (by omega)
    · rw [sortK_skip l k hkl hp]
      have : s ≠ k := fun e => by subst e; exact hp hs.2
      exact ih (by omega) (by omega)
theorem sortF_get {l : List Int} {s : Nat} (hs : Vs l s) : (sortF l)[plcL l (wd l s) + rk l s]? = some (s : Int) := sort_get l l.length (Nat.le_refl _) s hs hs.1

/-- Bits that begin with a word. -/
theorem pre_word {w N : Nat} (L : List Nat) (h2 : ∀ d ∈ L, d < 2) (hN : N < 2 ^ w) : dg w N <+: L ↔ w ≤ L.length ∧ num (L.take w) = N := by
  constructor
  · rintro ⟨r, rfl⟩
    rw [List.length_append, dg_len, List.take_left' (dg_len w N), num_dg, Nat.mod_eq_of_lt hN]
    exact ⟨by omega, rfl⟩
  · rintro ⟨hw, rfl⟩
    have hl : (L.take w).length = w := by rw [List.length_take]; omega
    have := dg_num (L.take w) (fun d hd => h2 d (List.mem_of_mem_take hd))
    rw [hl] at this
    rw [this]
    exact List.take_prefix w L
theorem word_pre {w N : Nat} (L : List Nat) (h2 : ∀ d ∈ L, d < 2) (hN : N < 2 ^ w) : L <+: dg w N ↔ L.length ≤ w ∧ num L = N / 2 ^ (w - L.length) := by
  constructor
  · intro h
    have hl : L.length ≤ w := by have := h.length_le; rwa [dg_len] at this
    refine ⟨hl, ?_⟩
    have e : dg w N = dg L.length (N / 2 ^ (w - L.length)) ++ dg (w - L.length) N := by rw [← dg_app, show L.length + (w - L.length) = w by omega]
    rw [e] at h
    have h3 := List.prefix_of_prefix_length_le h (List.prefix_append _ _) (by rw [dg_len]; exact Nat.le_refl _)
    have h4 : L = dg L.length (N / 2 ^ (w - L.length)) := h3.eq_of_length (by rw [dg_len])
    have h5 := num_dg L.length (N / 2 ^ (w - L.length))
    rw [← h4, Nat.mod_eq_of_lt] at h5
    · exact h5
    · rw [Nat.div_lt_iff_lt_mul (Nat.pow_pos (by omega)), ← Nat.pow_add, show L.length + (w - L.length) = w by omega]
      exact hN
  · rintro ⟨hl, hn⟩
    have e : dg w N = dg L.length (N / 2 ^ (w - L.length)) ++ dg (w - L.length) N := by rw [← dg_app, show L.length + (w - L.length) = w by omega]
    rw [e, ← hn, dg_num L h2]
    exact List.prefix_append _ _
/-- A symbol's word as bits. -/
def wb (l : List Int) (s : Nat) : List Nat := dg (wd l s) (nm l s)
theorem wb_free {l : List Int} (hk : chkL l = 0) {s t : Nat} (hs : Vs l s) (ht : Vs l t) (L : List Nat) (h1 : wb l s <+: L) (h2 : wb l t <+: L) : s = t := by
  have key : ∀ s t, Vs l s → Vs l t → wb l s <+: L → wb l t <+: L → wd l s ≤ wd l t → s = t := by
    intro s t hs ht h1 h2 hw
    have h3 := List.prefix_of_prefix_length_le h1 h2 (by unfold wb; rw [dg_len, dg_len]; exact hw)
    have h4 := (word_pre (wb l s) (dg_lt _ _) (nm_lt hk ht)).1 h3
    unfold wb at h4
    rw [dg_len, num_dg, Nat.mod_eq_of_lt (nm_lt hk hs)] at h4
    exact word_free hs ht hw h4.2.symm
  rcases Nat.le_total (wd l s) (wd l t) with h | h
  · exact key s t hs ht h1 h2 h
  · exact (key t s ht hs h2 h1 h).symm
end LenW
end Go.Proofs.Ytdfclgpkhfpkhaa
