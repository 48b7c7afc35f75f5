/- Walks over package bits: noughts, gamma numbers, the end. Walks over package bits: the end. The reference's gamma bits. Plain facts: gamma bits that were written are read. -/
import Derived.Test.YtdfclgpkhfpkhaaBitU
import Derived.Test.YtdfclgpkhfpkhaaBitZ
import Derived.Test.YtdfclgpkhfpkhaaBitW
namespace Go.Proofs.Ytdfclgpkhfpkhaa
set_option linter.unusedVariables false
set_option linter.unusedSimpArgs false
set_option linter.unnecessarySimpa false
open Go.RowKit
namespace BitW

/-- How many noughts stand ahead of a 1. -/
def nz : List Nat → Nat
  | [] => 0
  | d :: r => if d = 0 then nz r + 1 else 0
theorem nz_le (l : List Nat) : nz l ≤ l.length := by
  induction l with
  | nil => exact Nat.le_refl _
  | cons d r ih => unfold nz; split <;> simp; omega
theorem nz_app_zero {l r : List Nat} (h : nz l = l.length) : nz (l ++ r) = l.length + nz r := by
  induction l with
  | nil => simp
  | cons d l ih =>
    unfold nz at h
    split at h
    · rename_i hd
      have h' : nz l = l.length := by simpa using h
      rw [List.cons_append, nz, if_pos hd, ih h']
      simp; omega
    · simp at h
theorem cut_one (s : List UInt8) (a m : Nat) (h : a + (m + 1) ≤ 8 * s.length) : ∃ d, cut s a 1 = [d] ∧ d < 2 ∧ cut s a (m + 1) = d :: cut s (a + 1) m := by
  have hl := cut_len s a 1 (by omega)
  obtain ⟨d, hd⟩ := List.length_eq_one_iff.1 hl
  refine ⟨d, hd, cut_lt s a 1 d (by rw [hd]; simp), ?_⟩
  rw [Nat.add_comm m 1, cut_app, hd]
  rfl

set_option maxRecDepth 100000 in
set_option maxHeartbeats 2000000 in
theorem noughts_any (g : Nat) (s : List UInt8) (p m : Nat) (w : World) (h : Blk w g 94 (rdr s p)) (hm : p + m ≤ 8 * s.length) (hs : s.length ≤ 1000000) :
    Calls Try.prog 57 #[.pointer (some ⟨g, 0, none⟩), .int .i64 m] w fun e w' => e = .returned (.int .i64 (nz (cut s p m) : Nat)) ∧ ∃ nq, w' = w.drewN nq := by
  go_enter Try.func57, Try.ntmps57
  go_wp2_with fail
  go_loopw [5] (fun kv wr => ∃ (k nq : Nat), k ≤ m ∧ kv = .int .i64 k ∧ nz (cut s p m) = k + nz (cut s (p + k) (m - k)) ∧ wr = w.drewN nq) (fun kv _ => m - (intOf kv).toNat)
  case atStart => exact ⟨0, 0, by omega, rfl, by simp, rfl⟩
  case round =>
    obtain ⟨k, nq, hk, rfl, hz, rfl⟩ := hrel
    have HZ := Lib.hid hz
    clear hz
    have h' := h.drewN nq
    by_cases hlt : k < m
    · obtain ⟨d, hd1, hd2, hd3⟩ := cut_one s (p + k) (m - k - 1) (by omega)
      rw [show m - k - 1 + 1 = m - k from by omega] at hd3
      have C := peek_any g s p (p + k) 1 _ h' (by omega) (by omega) hs
      rw [hd1, show num [d] = d from by simp [num]] at C
      have HD := Lib.hid hd3
      have hb := h'
      obtain ⟨c0, c1, _, _, _⟩ := blk2 hb
      have hpk : (p : Int) + (k : Int) = ((p + k : Nat) : Int) := by omega
      have hwr : IntKind.i64.wrap ((p : Int) + (k : Int)) = ((p + k : Nat) : Int) := by rw [IntWalk.i64_in _ (by omega)]; omega
      have HPK := Lib.hid hpk
      clear hd1 hd3 hb hpk
      by_cases hd0 : d = 0
      · subst hd0
        go_wp2_with fail
        try rw [HPK.out]
        refine C.mono ?_
        clear C
        rintro e w2 ⟨rfl, nq2, rfl⟩
        go_wp2_with fail
        go_roundw
        case rel => exact ⟨k + 1, nq + nq2, by omega, by go_num, by rw [HZ.out, HD.out, nz, if_pos rfl, show p + (k + 1) = p + k + 1 from by omega, show m - (k + 1) = m - k - 1 from by omega]; omega, rfl⟩
        case measure => simp [intOf]; omega
      · have hdI : ((d : Int) == 0) = false := by rw [beq_eq_false_iff_ne]; omega
        have hf : nz (cut s p m) = k := by rw [HZ.out, HD.out, nz, if_neg hd0]; omega
        have HF := Lib.hid hf
        clear hf
        go_wp2_with fail
        try rw [HPK.out]
        refine C.mono ?_
        clear C
        rintro e w2 ⟨rfl, nq2, rfl⟩
        go_wp2_with fail
        go_ret
        exact ⟨by rw [HF.out]; rfl, nq + nq2, rfl⟩
    · have hf : nz (cut s p m) = k := by rw [HZ.out, show m - k = 0 from by omega]; simp [cut, nz]
      have HF := Lib.hid hf
      clear hf
      go_wp2_with fail
      go_ret
      exact ⟨by rw [HF.out]; rfl, nq, rfl⟩

def doneB (s : List UInt8) (p : Nat) : Bool := decide (8 * s.length - p < 8) && decide (nz (cut s p (8 * s.length - p)) = 8 * s.length - p)
/-- The gamma number that stands at a bit, its error, how many bits it has. -/
def ungB (s : List UInt8) (p : Nat) : Nat × Int × Nat :=
  if 8 * s.length - p = 0 ∨ nz (cut s p (8 * s.length - p)) = 8 * s.length - p then (0, 4, 0)
  else if 32 ≤ nz (cut s p (8 * s.length - p)) then (0, 40, 0)
  else if 8 * s.length - p < 2 * nz (cut s p (8 * s.length - p)) + 1 then (0, 4, 0)
  else (num (cut s (p + nz (cut s p (8 * s.length - p))) (nz (cut s p (8 * s.length - p)) + 1)), 0, 2 * nz (cut s p (8 * s.length - p)) + 1)
set_option maxRecDepth 100000 in
set_option maxHeartbeats 2000000 in
theorem gamma_any (g : Nat) (s : List UInt8) (p : Nat) (w : World) (h : Blk w g 94 (rdr s p)) (hp : p ≤ 8 * s.length) (hs : s.length ≤ 1000000) (v : Nat × Int × Nat) (hv : ungB s p = v) :
    Calls Try.prog 53 #[.pointer (some ⟨g, 0, none⟩)] w fun e w' => e = .returned (.tuple #[.int .i64 v.1, .int .i64 v.2.1]) ∧ RLeft w w' g s (p + v.2.2) := by
  have CL := left_any g s p w h hp hs
  have CN := fun w h => noughts_any g s p (8 * s.length - p) w h (by omega) hs
  have CP := fun k w h hk => peek_any g s p (p + k) (k + 1) w h (show p + k + (k + 1) ≤ 8 * s.length from hk)
  have hle := nz_le (cut s p (8 * s.length - p))
  rw [cut_len s p _ (by omega)] at hle
  have hLL : 8 * s.length - p + p ≤ 8 * s.length := by omega
  unfold ungB at hv
  generalize 8 * s.length - p = L at *
  generalize nz (cut s p L) = z at *
  have H := Lib.hid h
  have HCP := Lib.hid CP
  clear h CP
  by_cases h0 : L = 0
  · rw [if_pos (.inl h0)] at hv
    subst hv
    subst h0
    go_enter Try.func53, Try.ntmps53
    go_wp2_with fail
    refine CL.mono ?_
    rintro e w2 ⟨rfl, nq, rfl⟩
    go_wp2_with fail
    go_ret2
    exact ⟨rfl, RLeft.drewN H.out nq⟩
  · have h0I : ((L : Int) == 0) = false := by rw [beq_eq_false_iff_ne]; omega
    by_cases hz : z = L
    · rw [if_pos (.inr hz)] at hv
      subst hv
      subst hz
      clear h0
      go_enter Try.func53, Try.ntmps53
      go_wp2_with fail
      refine CL.mono ?_
      rintro e w2 ⟨rfl, nq, rfl⟩
      go_wp2_with fail
      refine (CN _ (H.out.drewN nq)).mono ?_
      rintro e w3 ⟨rfl, nq2, rfl⟩
      go_wp2_with fail
      go_ret2
      exact ⟨rfl, RLeft.drewN H.out (nq + nq2)⟩
    · have hzI : ((z : Int) == (L : Int)) = false := by rw [beq_eq_false_iff_ne]; omega
      rw [if_neg (by omega)] at hv
      by_cases h32 : 32 ≤ z
      · rw [if_pos h32] at hv
        subst hv
        have h32I : (32 : Int) ≤ (z : Int) := by omega
        clear h0 hz
        go_enter Try.func53, Try.ntmps53
        go_wp2_with fail
        refine CL.mono ?_
        rintro e w2 ⟨rfl, nq, rfl⟩
        go_wp2_with fail
        refine (CN _ (H.out.drewN nq)).mono ?_
        rintro e w3 ⟨rfl, nq2, rfl⟩
        go_wp2_with fail
        go_ret2
        exact ⟨rfl, RLeft.drewN H.out (nq + nq2)⟩
      · rw [if_neg h32] at hv
        have h32I : ¬ (32 : Int) ≤ (z : Int) := by omega
        by_cases hsh : L < 2 * z + 1
        · rw [if_pos hsh] at hv
          subst hv
          have hshI : (L : Int) < 2 * (z : Int) + 1 := by omega
          clear h0 hz
          go_enter Try.func53, Try.ntmps53
          go_wp2_with fail
          refine CL.mono ?_
          rintro e w2 ⟨rfl, nq, rfl⟩
          go_wp2_with fail
          refine (CN _ (H.out.drewN nq)).mono ?_
          rintro e w3 ⟨rfl, nq2, rfl⟩
          go_wp2_with fail
          go_ret2
          exact ⟨rfl, RLeft.drewN H.out (nq + nq2)⟩
        · rw [if_neg hsh] at hv
          subst hv
          have hshI : ¬ (L : Int) < 2 * (z : Int) + 1 := by omega
          have e1 : (p : Int) + (z : Int) = ((p + z : Nat) : Int) := by omega
          have e2 : (z : Int) + 1 = ((z + 1 : Nat) : Int) := by omega
          have E1 := Lib.hid e1
          have E2 := Lib.hid e2
          clear h0 hz e1 e2
          go_enter Try.func53, Try.ntmps53
          go_wp2_with fail
          refine CL.mono ?_
          rintro e w2 ⟨rfl, nq, rfl⟩
          go_wp2_with fail
          refine (CN _ (H.out.drewN nq)).mono ?_
          rintro e w3 ⟨rfl, nq2, rfl⟩
          have h3 : Blk (w.drewN (nq + nq2)) g 94 (rdr s p) := H.out.drewN (nq + nq2)
          have C := HCP.out z (w.drewN (nq + nq2)) h3 (by omega) (by omega) hs
          have h3' := h3
          obtain ⟨c0, c1, f0, f1, z3⟩ := blk2 h3'
          clear h3'
          go_wp2_with fail
          rw [E1.out, E2.out]
          refine C.mono ?_
          clear C
          rintro e w4 ⟨rfl, nq3, rfl⟩
          have h4 : Blk (w.drewN (nq + nq2 + nq3)) g 94 (rdr s p) := H.out.drewN (nq + nq2 + nq3)
          have h4' := h4
          clear c0 c1 f0 f1 z3
          obtain ⟨c0, c1, f0, f1, z3⟩ := blk2 h4'
          go_wp2_with fail
          go_ret2
          refine ⟨rfl, ?_, ?_⟩
          · have := h4.set 1 (.int .i64 ((p : Int) + (2 * (z : Int) + 1)))
            exact blk_eq this (by simp)
          · exact ⟨rfl, rfl, rfl, by simp [World.setCell], fun k _ hne => Below.heap_setCell _ _ _ k (fun e => hne (by rw [e]))⟩
end BitW
end Go.Proofs.Ytdfclgpkhfpkhaa

namespace Go.Proofs.Ytdfclgpkhfpkhaa
set_option linter.unusedVariables false
set_option linter.unusedSimpArgs false
set_option linter.unnecessarySimpa false
open Go.RowKit
namespace BitW

set_option maxHeartbeats 2000000 in
theorem done_any (g : Nat) (s : List UInt8) (p : Nat) (w : World) (h : Blk w g 94 (rdr s p)) (hp : p ≤ 8 * s.length) (hs : s.length ≤ 1000000) :
    Calls Try.prog 30 #[.pointer (some ⟨g, 0, none⟩)] w fun e w' => e = .returned (.bool (doneB s p)) ∧ ∃ nq, w' = w.drewN nq := by
  have CL := left_any g s p w h hp hs
  have CN := fun w h => noughts_any g s p (8 * s.length - p) w h (by omega) hs
  have hle := nz_le (cut s p (8 * s.length - p))
  rw [cut_len s p _ (by omega)] at hle
  have hD := Lib.hid (show doneB s p = (decide (8 * s.length - p < 8) && decide (nz (cut s p (8 * s.length - p)) = 8 * s.length - p)) from rfl)
  generalize 8 * s.length - p = L at *
  generalize nz (cut s p L) = z at *
  have H := Lib.hid h
  clear h
  by_cases h0 : L = 0
  · subst h0
    obtain rfl : z = 0 := by omega
    go_enter Try.func30, Try.ntmps30
    go_wp2_with fail
    refine CL.mono ?_
    rintro e w2 ⟨rfl, nq, rfl⟩
    go_wp2_with fail
    go_ret
    exact ⟨by rw [hD.out]; rfl, nq, rfl⟩
  · have h0I : ((L : Int) == 0) = false := by rw [beq_eq_false_iff_ne]; omega
    by_cases h8 : L < 8
    · have h8I : (L : Int) < 8 := by omega
      have hb : ((z : Int) == (L : Int)) = decide (z = L) := by rw [Bool.eq_iff_iff, beq_iff_eq, decide_eq_true_iff]; omega
      have hd8 : decide (L < 8) = true := decide_eq_true h8
      clear h0
      go_enter Try.func30, Try.ntmps30
      go_wp2_with fail
      refine CL.mono ?_
      rintro e w2 ⟨rfl, nq, rfl⟩
      go_wp2_with fail
      refine (CN _ (H.out.drewN nq)).mono ?_
      rintro e w3 ⟨rfl, nq2, rfl⟩
      go_wp2_with fail
      go_ret
      exact ⟨by rw [hD.out]; simp [h8], nq + nq2, rfl⟩
    · have h8I : ¬ (L : Int) < 8 := by omega
      clear h0
      go_enter Try.func30, Try.ntmps30
      go_wp2_with fail
      refine CL.mono ?_
      rintro e w2 ⟨rfl, nq, rfl⟩
      go_wp2_with fail
      go_ret
      exact ⟨by rw [hD.out]; simp [h8], nq, rfl⟩

end BitW
end Go.Proofs.Ytdfclgpkhfpkhaa

namespace Go.Proofs.Ytdfclgpkhfpkhaa
set_option linter.unusedVariables false
set_option linter.unusedSimpArgs false
set_option linter.unnecessarySimpa false
open Go.RowKit
namespace BitW

theorem dg_zero (k : Nat) : dg k 0 = List.replicate k 0 := by
  induction k with
  | zero => rfl
  | succ k ih => rw [dg, Nat.zero_div, ih, List.replicate_succ']
theorem blen_eq {x k : Nat} (h : x < 2 ^ 32) (h1 : 2 ^ k ≤ x) (h2 : x < 2 ^ (k + 1)) : blen x = k + 1 := by
  have h0 : 0 < x := Nat.lt_of_lt_of_le (Nat.pow_pos (by omega)) h1
  obtain ⟨a1, a2, a3, a4⟩ := blen_facts h0 h
  have c1 : ¬ blen x ≤ k := fun hc => by have := Nat.pow_le_pow_right (n := 2) (by omega) hc; omega
  have c2 : ¬ k + 2 ≤ blen x := fun hc => by have := Nat.pow_le_pow_right (n := 2) (by omega) (show k + 1 ≤ blen x - 1 by omega); omega
  omega
theorem gamB_eq (n : Int) : gamB n = (decide (1 ≤ n) && decide (n ≤ 4294967295)) := by
  unfold gamB fitsB
  rw [Bool.eq_iff_iff]
  simp
  omega
theorem div_one {x k : Nat} (h : x / 2 ^ k = 1) : 2 ^ k ≤ x ∧ x < 2 ^ (k + 1) := by
  have hp : 0 < 2 ^ k := Nat.pow_pos (by omega)
  have h1 := Nat.div_add_mod x (2 ^ k)
  have h2 := Nat.mod_lt x hp
  rw [h] at h1
  rw [Nat.pow_succ]
  omega
theorem gam_at {x k : Nat} (h : x < 2 ^ 32) (h1 : x / 2 ^ k = 1) : bc (List.replicate k 0) ++ bc (dg (k + 1) x) = bc (gam x) := by
  obtain ⟨a, b⟩ := div_one h1
  have := blen_eq h a b
  rw [gam, this, bc_app, Nat.add_sub_cancel, dg_zero]
theorem k_small {x k : Nat} (h : x < 2 ^ 32) (h1 : 1 ≤ x / 2 ^ k) : k ≤ 31 := by
  rcases Nat.lt_or_ge 31 k with hk | hk
  · exfalso
    have h3 : (2 : Nat) ^ 32 ≤ 2 ^ k := Nat.pow_le_pow_right (by omega) hk
    rw [Nat.div_eq_of_lt (by omega)] at h1
    omega
  · exact hk

set_option maxRecDepth 100000 in
set_option maxHeartbeats 4000000 in
theorem refGamma_no (n : Int) (W : World) (h : n < 1 ∨ (¬ n < 1 ∧ 4294967295 < n)) :
    Calls Try.prog 69 #[.int .i64 n] W fun e w' => e = .returned (.tuple #[.slice none 0 0, .bool false]) ∧ W = w' := by
  rcases h with h | ⟨h, h2⟩
  all_goals
    go_enter Try.func69, Try.ntmps69
    go_wp2_with fail
    go_ret2
    exact ⟨rfl, rfl⟩
set_option maxRecDepth 100000 in
set_option maxHeartbeats 4000000 in
theorem refGamma_any (n : Int) (W : World) (hn : I64 n) :
    Calls Try.prog 69 #[.int .i64 n] W fun e w' => ∃ A k c xs, e = .returned (.tuple #[.slice A k c, .bool (gamB n)]) ∧ k ≤ 64 ∧ k ≤ c ∧ Own w' W.heap.size 3 1 A k c xs ∧ (gamB n = true → xs = bc (gam n.toNat)) ∧ Below W.heap.size W w' := by
  rw [gamB_eq]
  by_cases h : n < 1 ∨ 4294967295 < n
  · have hf : (decide (1 ≤ n) && decide (n ≤ 4294967295)) = false := by
      rw [Bool.eq_false_iff]; simp; omega
    rw [hf]
    have h' : n < 1 ∨ (¬ n < 1 ∧ 4294967295 < n) := by omega
    clear h hf
    refine (refGamma_no n W h').mono ?_
    rintro e w' ⟨rfl, rfl⟩
    exact ⟨none, 0, 0, [], rfl, by omega, by omega, Own.nil _ _ _ _, by simp, Below.refl _ _⟩
  · have hf : (decide (1 ≤ n) && decide (n ≤ 4294967295)) = true := by
      simp; omega
    rw [hf]
    obtain ⟨x, rfl⟩ := Int.eq_ofNat_of_zero_le (show 0 ≤ n by omega)
    have h1 : ¬ (x : Int) < 1 := by omega
    have h2 : ¬ (4294967295 : Int) < (x : Int) := by omega
    have hx : x < 2 ^ 32 := by omega
    clear hf h hn
    go_enter Try.func69, Try.ntmps69
    go_wp2_with fail
    go_loopw [4, 5] (fun kv m wr => ∃ k : Nat, k ≤ 31 ∧ kv = .int .i64 k ∧ m = .int .i64 ((x / 2 ^ k : Nat) : Int) ∧ 1 ≤ x / 2 ^ k ∧ wr = W) (fun _ m _ => (intOf m).toNat)
    case atStart => exact ⟨0, by omega, rfl, by simp, by simp; omega, rfl⟩
    case round =>
      obtain ⟨k, hk, rfl, rfl, hm, rfl⟩ := hrel
      have hle : x / 2 ^ k ≤ 4294967295 := Nat.le_trans (Nat.div_le_self _ _) (by omega)
      have HM := Lib.hid (show x / 2 ^ (k + 1) = x / 2 ^ k / 2 by rw [Nat.pow_succ, ← Nat.div_div_eq_div_mul])
      have HK := Lib.hid (fun h => k_small (k := k + 1) hx h)
      have HG := Lib.hid (fun h => gam_at (k := k) hx h)
      have HD := Lib.hid (fun h => (div_one (x := x) (k := k) h).2)
      generalize hy : x / 2 ^ k = y at *
      clear hy
      by_cases hlt : 1 < y
      · have hyi : (1 : Int) < (y : Int) := by omega
        have hq : (y : Int) / 2 = ((y / 2 : Nat) : Int) := by omega
        have HQ := Lib.hid hq
        clear hq
        go_wp2_with fail
        try rw [HQ.out]
        go_roundw
        case rel =>
          have h3 : 1 ≤ x / 2 ^ (k + 1) := by rw [HM.out]; omega
          exact ⟨k + 1, HK.out h3, by go_num, by first | (rw [HM.out]; done) | (rw [HM.out]; rfl) | (rw [HM.out]; exact congrArg _ HQ.out), h3, by first | rfl | trivial⟩
        case measure => simp [intOf]; omega
      · obtain rfl : y = 1 := by omega
        have HDL := HD.out rfl
        have hdt : decide (x < 2 ^ (k + 1)) = true := decide_eq_true HDL
        have C := digits_in x (k + 1) wr (by omega) (by omega)
        rw [hdt] at C
        have hkc : ((k + 1 : Nat) : Int) = (k : Int) + 1 := by omega
        rw [hkc] at C
        clear hdt HDL hkc
        go_wp2_with fail
        refine C.mono ?_
        clear C
        rintro e w3 ⟨rfl, o3, hb3⟩
        have hmk : (Instr.makeSlice 22 (.int .i64 k) (.int .i64 k)).run Try.prog w3 = .ok (.slice (some ⟨w3.heap.size, 0, none⟩) k k) (w3.alloc (.cells (madeCells #[.int .i64 0] k) 3)) :=
          run_make_row' 22 3 (.int .i64 0) 8 Try.underlying22 (by kernel_rfl) rfl .i64 .i64 k (by omega) (by omega) w3
        have hmc : (bc (List.replicate k 0)).toArray = madeCells #[.int .i64 0] k := by
          apply Array.ext'
          apply List.ext_getElem
          · simp [bc, madeCells]
          · intro i h1 h2
            simp [bc, madeCells, Nat.mod_one]
        have hA := Blk.new w3 3 (madeCells #[.int .i64 0] k)
        rw [← hmc] at hA hmk
        have hz3 := hb3.size
        have o4 := own_bc (B := wr.heap.size) hA (n := k) (by simp) (by omega) (by unfold maxLen; omega)
        have hb4 := hb3.alloc hz3 (.cells (bc (List.replicate k 0)).toArray 3)
        have o5 := o3.alloc (.cells (bc (List.replicate k 0)).toArray 3)
        clear hmc hA
        go_wp2_with (at_builtin; with_reducible refine wp_append El_int2 rfl (s := .tmp 29) (x := .tmp 30) rfl rfl o4 rfl o5.rd (bc_one _) (by unfold maxLen; omega) (by omega) (by simp only [World.size_alloc]; omega) ?_; intro A4 c4 w4 o6 hg4 hat4)
        have hb6 := below_grown hb4 hg4 o4 (Nat.le_refl _)
        rw [HG.out (by first | rfl | trivial)] at o6
        go_ret2
        exact ⟨A4, k + (k + 1), c4, _, rfl, by omega, o6.cap, o6, fun _ => rfl, hb6⟩
end BitW
end Go.Proofs.Ytdfclgpkhfpkhaa

namespace Go.Proofs.Ytdfclgpkhfpkhaa
set_option linter.unusedVariables false
set_option linter.unusedSimpArgs false
set_option linter.unnecessarySimpa false
open Go.RowKit
namespace BitW

def gams (H : List Nat) : List Nat := H.flatMap gam
theorem gams_snoc (H : List Nat) (x : Nat) : gams (H ++ [x]) = gams H ++ gam x := by simp [gams]
theorem gams_lt (H : List Nat) : ∀ d ∈ gams H, d < 2 := by
  intro d h
  obtain ⟨x, _, hx⟩ := List.mem_flatMap.1 h
  rcases List.mem_append.1 hx with h | h
  · exact dg_lt _ _ d h
  · exact dg_lt _ _ d h
theorem gams_at (H : List Nat) (j : Nat) (h : j < H.length) : gams H = gams (H.take j) ++ (gam H[j] ++ gams (H.drop (j + 1))) := by
  have e : H = H.take j ++ (H[j] :: H.drop (j + 1)) := by rw [List.getElem_cons_drop, List.take_append_drop]
  have e2 := congrArg gams e
  simp only [gams, List.flatMap_append, List.flatMap_cons] at e2 ⊢
  exact e2
theorem gams_take (H : List Nat) (j : Nat) (h : j < H.length) : gams (H.take (j + 1)) = gams (H.take j) ++ gam H[j] := by
  rw [List.take_succ_eq_append_getElem h, gams_snoc]
theorem nz_rep (k : Nat) : nz (List.replicate k 0) = k := by
  induction k with
  | zero => rfl
  | succ k ih => rw [List.replicate_succ, nz, if_pos rfl, ih]
theorem gam_len {x : Nat} (h0 : 0 < x) (h : x < 2 ^ 32) : (gam x).length + 1 = 2 * blen x ∧ 1 ≤ blen x ∧ blen x ≤ 32 := by
  obtain ⟨a1, a2, _, _⟩ := blen_facts h0 h
  refine ⟨?_, a1, a2⟩
  rw [gam, List.length_append, dg_len, dg_len]
  omega
theorem gam_mono {x y : Nat} (hy0 : 0 < y) (hx : x < 2 ^ 32) (h : y < x) : (gam y).length ≤ (gam x).length := by
  obtain ⟨e1, _, _⟩ := gam_len hy0 (by omega)
  obtain ⟨e2, _, _⟩ := gam_len (x := x) (by omega) hx
  obtain ⟨_, _, _, b4⟩ := blen_facts hy0 (by omega)
  obtain ⟨_, _, c3, _⟩ := blen_facts (x := x) (by omega) hx
  have : ¬ blen x + 1 ≤ blen y := fun hc => by have := Nat.pow_le_pow_right (n := 2) (by omega) (show blen x ≤ blen y - 1 by omega); omega
  omega
theorem top_one {x : Nat} (h0 : 0 < x) (h : x < 2 ^ 32) : ∃ r, dg (blen x) x = 1 :: r := by
  obtain ⟨a1, a2, a3, a4⟩ := blen_facts h0 h
  obtain ⟨b, hb⟩ : ∃ b, blen x = b + 1 := ⟨blen x - 1, by omega⟩
  rw [hb] at a3 a4 ⊢
  rw [Nat.add_sub_cancel] at a4
  refine ⟨dg b x, ?_⟩
  rw [dg_more]
  have : x / 2 ^ b = 1 := by
    have hp : 0 < 2 ^ b := Nat.pow_pos (by omega)
    rw [Nat.pow_succ] at a3
    apply Nat.le_antisymm
    · have := (Nat.div_lt_iff_lt_mul hp).2 (show x < 2 * 2 ^ b by omega); omega
    · exact Nat.div_pos a4 hp
  rw [this]
theorem ung_at {s : List UInt8} {pre rest : List Nat} {x : Nat} (h0 : 0 < x) (h : x < 2 ^ 32) (hs : bitsB s = pre ++ (gam x ++ rest)) : ungB s pre.length = (x, 0, (gam x).length) := by
  obtain ⟨g1, g2, g3⟩ := gam_len h0 h
  obtain ⟨_, _, hlt, _⟩ := blen_facts h0 h
  have hl := bitsB_len s
  rw [hs] at hl
  simp only [List.length_append] at hl
  have hL : 8 * s.length - pre.length = (gam x ++ rest).length := by rw [List.length_append]; omega
  have hc : cut s pre.length (gam x ++ rest).length = gam x ++ rest := by
    unfold cut
    rw [hs, List.drop_left, List.take_of_length_le (Nat.le_refl _)]
  obtain ⟨r, hr⟩ := top_one h0 h
  have hz : nz (gam x ++ rest) = blen x - 1 := by
    rw [gam, List.append_assoc, nz_app_zero (by rw [dg_zero, nz_rep, List.length_replicate]), dg_len, hr]
    simp [nz]
  have hgl : (gam x).length = 2 * (blen x - 1) + 1 := by omega
  unfold ungB
  rw [hL, hc, hz, List.length_append]
  rw [if_neg (by omega), if_neg (by omega), if_neg (by omega)]
  have hcut : cut s (pre.length + (blen x - 1)) (blen x - 1 + 1) = dg (blen x) x := by
    unfold cut
    rw [hs, ← List.drop_drop, List.drop_left, gam, List.append_assoc, List.drop_left' (dg_len _ _), List.take_left' (by rw [dg_len]; omega)]
  rw [hcut, num_dg, Nat.mod_eq_of_lt hlt, ← hgl]
theorem done_at {s : List UInt8} {pre : List Nat} {k : Nat} (hk : k < 8) (hs : bitsB s = pre ++ List.replicate k 0) : doneB s pre.length = true := by
  have hl := bitsB_len s
  rw [hs] at hl
  simp only [List.length_append, List.length_replicate] at hl
  have hL : 8 * s.length - pre.length = k := by omega
  unfold doneB
  rw [hL]
  unfold cut
  rw [hs, List.drop_left, List.take_of_length_le (by simp), nz_rep]
  simp [hk]
theorem gamB_nat {n : Int} (h : gamB n = true) : ∃ m : Nat, n = m ∧ 0 < m ∧ m < 2 ^ 32 := by
  rw [gamB_eq] at h
  simp at h
  exact ⟨n.toNat, by omega, by omega, by omega⟩
theorem gamB_not {n : Int} (h : gamB n = false) : ¬ 1 ≤ n ∨ (1 ≤ n ∧ ¬ n < 4294967296) := by
  rw [gamB_eq] at h
  simp at h
  omega
end BitW
end Go.Proofs.Ytdfclgpkhfpkhaa
