/- The reference's gamma bits. -/
import Derived.Test.YtedoeplhjmkllaaBitB
import Derived.Test.YtedoeplhjmkllaaBitV
namespace Go.Proofs.Ytedoeplhjmkllaa
set_option linter.unusedVariables false
set_option linter.unusedSimpArgs false
set_option linter.unnecessarySimpa false
open Go.RowKit
namespace BitW

theorem dg_zero (k : Nat) : dg k 0 = List.replicate k 0 := by
  induction k with
  | zero => rfl
  | succ k ih => rw [dg, Nat.zero_div, ih, List.replicate_succ']
theorem blen_eq {x k : Nat} (h : x < 2 ^ 32) (h1 : 2 ^ k ≤ x) (h2 : x < 2 ^ (k + 1)) : blen x = k + 1 := by
  have h0 : 0 < x := Nat.lt_of_lt_of_le (Nat.pow_pos (by omega)) h1
  obtain ⟨a1, a2, a3, a4⟩ := blen_facts h0 h
  have c1 : ¬ blen x ≤ k := fun hc => by have := Nat.pow_le_pow_right (n := 2) (by omega) hc; omega
  have c2 : ¬ k + 2 ≤ blen x := fun hc => by have := Nat.pow_le_pow_right (n := 2) (by omega) (show k + 1 ≤ blen x - 1 by omega); omega
  omega
theorem gamB_eq (n : Int) : gamB n = (decide (1 ≤ n) && decide (n ≤ 4294967295)) := by
  unfold gamB fitsB
  rw [Bool.eq_iff_iff]
  simp
  omega
theorem div_one {x k : Nat} (h : x / 2 ^ k = 1) : 2 ^ k ≤ x ∧ x < 2 ^ (k + 1) := by
  have hp : 0 < 2 ^ k := Nat.pow_pos (by omega)
  have h1 := Nat.div_add_mod x (2 ^ k)
  have h2 := Nat.mod_lt x hp
  rw [h] at h1
  rw [Nat.pow_succ]
  omega
theorem gam_at {x k : Nat} (h : x < 2 ^ 32) (h1 : x / 2 ^ k = 1) : bc (List.replicate k 0) ++ bc (dg (k + 1) x) = bc (gam x) := by
  obtain ⟨a, b⟩ := div_one h1
  have := blen_eq h a b
  rw [gam, this, bc_app, Nat.add_sub_cancel, dg_zero]
theorem k_small {x k : Nat} (h : x < 2 ^ 32) (h1 : 1 ≤ x / 2 ^ k) : k ≤ 31 := by
  rcases Nat.lt_or_ge 31 k with hk | hk
  · exfalso
    have h3 : (2 : Nat) ^ 32 ≤ 2 ^ k := Nat.pow_le_pow_right (by omega) hk
    rw [Nat.div_eq_of_lt (by omega)] at h1
    omega
  · exact hk

set_option maxRecDepth 100000 in
set_option maxHeartbeats 4000000 in
theorem refGamma_no (n : Int) (W : World) (h : n < 1 ∨ (¬ n < 1 ∧ 4294967295 < n)) :
    Calls Try.prog 61 #[.int .i64 n] W fun e w' => e = .returned (.tuple #[.slice none 0 0, .bool false]) ∧ W = w' := by
  rcases h with h | ⟨h, h2⟩
  all_goals
    go_enter Try.func61, Try.ntmps61
    go_wp2_with fail
    go_ret2
    exact ⟨rfl, rfl⟩
set_option maxRecDepth 100000 in
set_option maxHeartbeats 4000000 in
theorem refGamma_any (n : Int) (W : World) (hn : I64 n) :
    Calls Try.prog 61 #[.int .i64 n] W fun e w' => ∃ A k c xs, e = .returned (.tuple #[.slice A k c, .bool (gamB n)]) ∧ k ≤ 64 ∧ k ≤ c ∧ Own w' W.heap.size 3 1 A k c xs ∧ (gamB n = true → xs = bc (gam n.toNat)) ∧ Below W.heap.size W w' := by
  rw [gamB_eq]
  by_cases h : n < 1 ∨ 4294967295 < n
  · have hf : (decide (1 ≤ n) && decide (n ≤ 4294967295)) = false := by
      rw [Bool.eq_false_iff]; simp; omega
    rw [hf]
    have h' : n < 1 ∨ (¬ n < 1 ∧ 4294967295 < n) := by omega
    clear h hf
    refine (refGamma_no n W h').mono ?_
    rintro e w' ⟨rfl, rfl⟩
    exact ⟨none, 0, 0, [], rfl, by omega, by omega, Own.nil _ _ _ _, by simp, Below.refl _ _⟩
  · have hf : (decide (1 ≤ n) && decide (n ≤ 4294967295)) = true := by
      simp; omega
    rw [hf]
    obtain ⟨x, rfl⟩ := Int.eq_ofNat_of_zero_le (show 0 ≤ n by omega)
    have h1 : ¬ (x : Int) < 1 := by omega
    have h2 : ¬ (4294967295 : Int) < (x : Int) := by omega
    have hx : x < 2 ^ 32 := by omega
    clear hf h hn
    go_enter Try.func61, Try.ntmps61
    go_wp2_with fail
    go_loopw [4, 5] (fun kv m wr => ∃ k : Nat, k ≤ 31 ∧ kv = .int .i64 k ∧ m = .int .i64 ((x / 2 ^ k : Nat) : Int) ∧ 1 ≤ x / 2 ^ k ∧ wr = W) (fun _ m _ => (intOf m).toNat)
    case atStart => exact ⟨0, by omega, rfl, by simp, by simp; omega, rfl⟩
    case round =>
      obtain ⟨k, hk, rfl, rfl, hm, rfl⟩ := hrel
      have hle : x / 2 ^ k ≤ 4294967295 := Nat.le_trans (Nat.div_le_self _ _) (by omega)
      have HM := Lib.hid (show x / 2 ^ (k + 1) = x / 2 ^ k / 2 by rw [Nat.pow_succ, ← Nat.div_div_eq_div_mul])
      have HK := Lib.hid (fun h => k_small (k := k + 1) hx h)
      have HG := Lib.hid (fun h => gam_at (k := k) hx h)
      have HD := Lib.hid (fun h => (div_one (x := x) (k := k) h).2)
      generalize hy : x / 2 ^ k = y at *
      clear hy
      by_cases hlt : 1 < y
      · have hyi : (1 : Int) < (y : Int) := by omega
        have hq : (y : Int) / 2 = ((y / 2 : Nat) : Int) := by omega
        have HQ := Lib.hid hq
        clear hq
        go_wp2_with fail
        try rw [HQ.out]
        go_roundw
        case rel =>
          have h3 : 1 ≤ x / 2 ^ (k + 1) := by rw [HM.out]; omega
          exact ⟨k + 1, HK.out h3, by go_num, by first | (rw [HM.out]; done) | (rw [HM.out]; rfl) | (rw [HM.out]; exact congrArg _ HQ.out), h3, by first | rfl | trivial⟩
        case measure => simp [intOf]; omega
      · obtain rfl : y = 1 := by omega
        have HDL := HD.out rfl
        have hdt : decide (x < 2 ^ (k + 1)) = true := decide_eq_true HDL
        have C := digits_in x (k + 1) wr (by omega) (by omega)
        rw [hdt] at C
        have hkc : ((k + 1 : Nat) : Int) = (k : Int) + 1 := by omega
        rw [hkc] at C
        clear hdt HDL hkc
        go_wp2_with fail
        refine C.mono ?_
        clear C
        rintro e w3 ⟨rfl, o3, hb3⟩
        have hmk : (Instr.makeSlice 22 (.int .i64 k) (.int .i64 k)).run Try.prog w3 = .ok (.slice (some ⟨w3.heap.size, 0, none⟩) k k) (w3.alloc (.cells (madeCells #[.int .i64 0] k) 3)) :=
          run_make_row' 22 3 (.int .i64 0) 8 Try.underlying22 (by kernel_rfl) rfl .i64 .i64 k (by omega) (by omega) w3
        have hmc : (bc (List.replicate k 0)).toArray = madeCells #[.int .i64 0] k := by
          apply Array.ext'
          apply List.ext_getElem
          · simp [bc, madeCells]
          · intro i h1 h2
            simp [bc, madeCells, Nat.mod_one]
        have hA := Blk.new w3 3 (madeCells #[.int .i64 0] k)
        rw [← hmc] at hA hmk
        have hz3 := hb3.size
        have o4 := own_bc (B := wr.heap.size) hA (n := k) (by simp) (by omega) (by unfold maxLen; omega)
        have hb4 := hb3.alloc hz3 (.cells (bc (List.replicate k 0)).toArray 3)
        have o5 := o3.alloc (.cells (bc (List.replicate k 0)).toArray 3)
        clear hmc hA
        go_wp2_with (at_builtin; with_reducible refine wp_append El_int2 rfl (s := .tmp 29) (x := .tmp 30) rfl rfl o4 rfl o5.rd (bc_one _) (by unfold maxLen; omega) (by omega) (by simp only [World.size_alloc]; omega) ?_; intro A4 c4 w4 o6 hg4 hat4)
        have hb6 := below_grown hb4 hg4 o4 (Nat.le_refl _)
        rw [HG.out (by first | rfl | trivial)] at o6
        go_ret2
        exact ⟨A4, k + (k + 1), c4, _, rfl, by omega, o6.cap, o6, fun _ => rfl, hb6⟩
end BitW
end Go.Proofs.Ytedoeplhjmkllaa
