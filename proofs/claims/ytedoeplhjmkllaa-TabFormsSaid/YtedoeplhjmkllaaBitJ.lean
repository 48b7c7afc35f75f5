/- Plain facts: gamma bits that were written are read. -/
import Derived.Test.YtedoeplhjmkllaaBitN
import Derived.Test.YtedoeplhjmkllaaBitH
namespace Go.Proofs.Ytedoeplhjmkllaa
set_option linter.unusedVariables false
set_option linter.unusedSimpArgs false
set_option linter.unnecessarySimpa false
open Go.RowKit
namespace BitW

def gams (H : List Nat) : List Nat := H.flatMap gam
theorem gams_snoc (H : List Nat) (x : Nat) : gams (H ++ [x]) = gams H ++ gam x := by simp [gams]
theorem gams_lt (H : List Nat) : ∀ d ∈ gams H, d < 2 := by
  intro d h
  obtain ⟨x, _, hx⟩ := List.mem_flatMap.1 h
  rcases List.mem_append.1 hx with h | h
  · exact dg_lt _ _ d h
  · exact dg_lt _ _ d h
theorem gams_at (H : List Nat) (j : Nat) (h : j < H.length) : gams H = gams (H.take j) ++ (gam H[j] ++ gams (H.drop (j + 1))) := by
  have e : H = H.take j ++ (H[j] :: H.drop (j + 1)) := by rw [List.getElem_cons_drop, List.take_append_drop]
  have e2 := congrArg gams e
  simp only [gams, List.flatMap_append, List.flatMap_cons] at e2 ⊢
  exact e2
theorem gams_take (H : List Nat) (j : Nat) (h : j < H.length) : gams (H.take (j + 1)) = gams (H.take j) ++ gam H[j] := by
  rw [List.take_succ_eq_append_getElem h, gams_snoc]
theorem nz_rep (k : Nat) : nz (List.replicate k 0) = k := by
  induction k with
  | zero => rfl
  | succ k ih => rw [List.replicate_succ, nz, if_pos rfl, ih]
theorem gam_len {x : Nat} (h0 : 0 < x) (h : x < 2 ^ 32) : (gam x).length + 1 = 2 * blen x ∧ 1 ≤ blen x ∧ blen x ≤ 32 := by
  obtain ⟨a1, a2, _, _⟩ := blen_facts h0 h
  refine ⟨?_, a1, a2⟩
  rw [gam, List.length_append, dg_len, dg_len]
  omega
theorem gam_mono {x y : Nat} (hy0 : 0 < y) (hx : x < 2 ^ 32) (h : y < x) : (gam y).length ≤ (gam x).length := by
  obtain ⟨e1, _, _⟩ := gam_len hy0 (by omega)
  obtain ⟨e2, _, _⟩ := gam_len (x := x) (by omega) hx
  obtain ⟨_, _, _, b4⟩ := blen_facts hy0 (by omega)
  obtain ⟨_, _, c3, _⟩ := blen_facts (x := x) (by omega) hx
  have : ¬ blen x + 1 ≤ blen y := fun hc => by have := Nat.pow_le_pow_right (n := 2) (by omega) (show blen x ≤ blen y - 1 by omega); omega
  omega
theorem top_one {x : Nat} (h0 : 0 < x) (h : x < 2 ^ 32) : ∃ r, dg (blen x) x = 1 :: r := by
  obtain ⟨a1, a2, a3, a4⟩ := blen_facts h0 h
  obtain ⟨b, hb⟩ : ∃ b, blen x = b + 1 := ⟨blen x - 1, by omega⟩
  rw [hb] at a3 a4 ⊢
  rw [Nat.add_sub_cancel] at a4
  refine ⟨dg b x, ?_⟩
  rw [dg_more]
  have : x / 2 ^ b = 1 := by
    have hp : 0 < 2 ^ b := Nat.pow_pos (by omega)
    rw [Nat.pow_succ] at a3
    apply Nat.le_antisymm
    · have := (Nat.div_lt_iff_lt_mul hp).2 (show x < 2 * 2 ^ b by omega); omega
    · exact Nat.div_pos a4 hp
  rw [this]
theorem ung_at {s : List UInt8} {pre rest : List Nat} {x : Nat} (h0 : 0 < x) (h : x < 2 ^ 32) (hs : bitsB s = pre ++ (gam x ++ rest)) : ungB s pre.length = (x, 0, (gam x).length) := by
  obtain ⟨g1, g2, g3⟩ := gam_len h0 h
  obtain ⟨_, _, hlt, _⟩ := blen_facts h0 h
  have hl := bitsB_len s
  rw [hs] at hl
  simp only [List.length_append] at hl
  have hL : 8 * s.length - pre.length = (gam x ++ rest).length := by rw [List.length_append]; omega
  have hc : cut s pre.length (gam x ++ rest).length = gam x ++ rest := by
    unfold cut
    rw [hs, List.drop_left, List.take_of_length_le (Nat.le_refl _)]
  obtain ⟨r, hr⟩ := top_one h0 h
  have hz : nz (gam x ++ rest) = blen x - 1 := by
    rw [gam, List.append_assoc, nz_app_zero (by rw [dg_zero, nz_rep, List.length_replicate]), dg_len, hr]
    simp [nz]
  have hgl : (gam x).length = 2 * (blen x - 1) + 1 := by omega
  unfold ungB
  rw [hL, hc, hz, List.length_append]
  rw [if_neg (by omega), if_neg (by omega), if_neg (by omega)]
  have hcut : cut s (pre.length + (blen x - 1)) (blen x - 1 + 1) = dg (blen x) x := by
    unfold cut
    rw [hs, ← List.drop_drop, List.drop_left, gam, List.append_assoc, List.drop_left' (dg_len _ _), List.take_left' (by rw [dg_len]; omega)]
  rw [hcut, num_dg, Nat.mod_eq_of_lt hlt, ← hgl]
theorem done_at {s : List UInt8} {pre : List Nat} {k : Nat} (hk : k < 8) (hs : bitsB s = pre ++ List.replicate k 0) : doneB s pre.length = true := by
  have hl := bitsB_len s
  rw [hs] at hl
  simp only [List.length_append, List.length_replicate] at hl
  have hL : 8 * s.length - pre.length = k := by omega
  unfold doneB
  rw [hL]
  unfold cut
  rw [hs, List.drop_left, List.take_of_length_le (by simp), nz_rep]
  simp [hk]
theorem gamB_nat {n : Int} (h : gamB n = true) : ∃ m : Nat, n = m ∧ 0 < m ∧ m < 2 ^ 32 := by
  rw [gamB_eq] at h
  simp at h
  exact ⟨n.toNat, by omega, by omega, by omega⟩
theorem gamB_not {n : Int} (h : gamB n = false) : ¬ 1 ≤ n ∨ (1 ≤ n ∧ ¬ n < 4294967296) := by
  rw [gamB_eq] at h
  simp at h
  omega
end BitW
end Go.Proofs.Ytedoeplhjmkllaa
