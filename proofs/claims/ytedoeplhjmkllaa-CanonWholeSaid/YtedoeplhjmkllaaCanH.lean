/- The walks of package canon: why bits end. -/
import Derived.Test.YtedoeplhjmkllaaCanG
import Derived.BigQuiet
namespace Go.Proofs.Ytedoeplhjmkllaa
set_option linter.unusedVariables false
set_option linter.unusedSimpArgs false
set_option linter.unnecessarySimpa false
open Go.RowKit
namespace LenW

def endP (l : List Int) (n w m : Nat) : Bool := decide (0 < m) && (decide (0 < cntL l m) && (decide (n * 2 ^ (m - w) < fstL l m + cntL l m) && decide (fstL l m ≤ n * 2 ^ (m - w) + (2 ^ (m - w) - 1))))
def endedL (l : List Int) (n w : Nat) : Int := if (List.range 16).any (fun m => decide (w ≤ m) && endP l n w m) = true ∨ w = 0 then 4 else 40
theorem endedL_yes {l : List Int} {n w m : Nat} (h1 : w ≤ m) (h2 : m ≤ 15) (h : endP l n w m = true) : endedL l n w = 4 := by
  unfold endedL
  rw [if_pos (Or.inl (List.any_eq_true.2 ⟨m, List.mem_range.2 (by omega), by simp [h1, h]⟩))]
theorem endedL_no {l : List Int} {n w : Nat} (h : ∀ m, w ≤ m → m ≤ 15 → endP l n w m = false) (hw : ¬ w = 0) : endedL l n w = 40 := by
  unfold endedL
  rw [if_neg]
  rintro (h1 | h1)
  · obtain ⟨m, hm, h2⟩ := List.any_eq_true.1 h1
    rw [List.mem_range] at hm
    simp only [Bool.and_eq_true, decide_eq_true_eq] at h2
    have := h m h2.1 (by omega)
    rw [h2.2] at this
    exact absurd this (by decide)
  · exact hw h1
theorem low_le {n w j : Nat} (h : n < 2 ^ w) (h2 : w + j ≤ 15) : n * 2 ^ j + 2 ^ j ≤ 32768 := by
  have h1 : (n + 1) * 2 ^ j ≤ 2 ^ w * 2 ^ j := Nat.mul_le_mul_right _ h
  rw [← Nat.pow_add, Nat.add_mul, Nat.one_mul] at h1
  exact Nat.le_trans h1 (Nat.le_trans (Nat.pow_le_pow_right (by omega) h2) (by decide))
theorem low_val (n j : Nat) (h : n * 2 ^ j + 2 ^ j ≤ 32768) : wrap64 ((n : Int) * 2 ^ j) = ((n * 2 ^ j : Nat) : Int) := by
  rw [show (n : Int) * 2 ^ j = ((n * 2 ^ j : Nat) : Int) by push_cast; rfl]
  have h2 : n * 2 ^ j ≤ 32768 := Nat.le_trans (Nat.le_add_right _ _) h
  clear h
  generalize n * 2 ^ j = y at *
  exact w64 (by omega) (by omega)
theorem high_val (n j : Nat) (h : n * 2 ^ j + 2 ^ j ≤ 32768) : bits BinOp.or .i64 (wrap64 ((n : Int) * 2 ^ j)) (wrap64 (wrap64 (2 ^ j) - 1)) = ((n * 2 ^ j + (2 ^ j - 1) : Nat) : Int) := by
  have hp : 0 < (2 : Nat) ^ j := Nat.pow_pos (by omega)
  have h5 := or_shift j (2 ^ j - 1) n (by omega)
  rw [low_val n j h, show (2 : Int) ^ j = ((2 ^ j : Nat) : Int) by push_cast; rfl]
  generalize n * 2 ^ j = y at *
  generalize (2 : Nat) ^ j = z at *
  rw [w64 (x := (z : Int)) (by omega) (by omega), show (z : Int) - 1 = ((z - 1 : Nat) : Int) from by omega, w64 (by omega) (by omega)]
  rw [bits_nat_or .i64 y (z - 1) (by simp [IntKind.bits]; omega) (by simp [IntKind.bits]; omega), Nat.or_comm, h5, Nat.add_comm]
  exact w64k (by omega) (by omega)
set_option maxRecDepth 100000 in
set_option maxHeartbeats 4000000 in
theorem ended_any (l : List Int) (hk : chkL l = 0) (B g : Nat) (n wd : Nat) (w : World) (hC : CodeAt w B g l) (hn : n < 2 ^ wd) (hwd : wd ≤ 15) (v : Int) (hv : endedL l n wd = v) :
    Calls Try.prog 45 #[.pointer (some ⟨g, 0, none⟩), .int .i64 n, .int .i64 wd] w fun e w' => e = .returned (.int .i64 v) ∧ ∃ nq, w' = w.drewN nq := by
  obtain ⟨h257, hok, hsum⟩ := chk0 hk
  obtain ⟨gW, gS, h1, h2, h3, b1, b2, b3⟩ := hC
  have HV := Lib.hid hv
  have HY := Lib.hid (fun (m : Nat) => @endedL_yes l n wd m)
  have HN := Lib.hid (@endedL_no l n wd)
  have HNW := Lib.hid hn
  clear hv hn b2 b3 hok hk
  have hn2 : n ≤ 32768 := by have := HNW.out; have h2y : (2 : Nat) ^ wd ≤ 2 ^ 15 := Nat.pow_le_pow_right (by omega) (by omega); omega
  go_enter Try.func45, Try.ntmps45
  go_wp2_with fail
  go_loopw [7] (fun m wr => ∃ (k nq : Nat), m = .int .i64 (k : Int) ∧ wd ≤ k ∧ k ≤ 16 ∧ (∀ m, wd ≤ m → m < k → endP l n wd m = false) ∧ wr = w.drewN nq) (fun m _ => 16 - (intOf m).toNat)
  case atStart => exact ⟨wd, 0, rfl, by omega, by omega, fun m h1 h2 => by omega, rfl⟩
  case round =>
    obtain ⟨k, nq0, rfl, hwk, hj, hall, rfl⟩ := hrel
    have HA := Lib.hid hall
    clear hall
    by_cases hlt : k ≤ 15
    · obtain ⟨j, hje⟩ : ∃ j, k - wd = j := ⟨_, rfl⟩
      have HSUB := Lib.hid (show (k : Int) - (wd : Int) = (j : Int) by omega)
      have hj0 : ¬ (k : Int) - (wd : Int) < 0 := by omega
      have hj1 : ¬ (j : Int) < 0 := by omega
      have hr := room l k hlt hsum
      have h2k : (2 : Nat) ^ k ≤ 2 ^ 15 := Nat.pow_le_pow_right (by omega) (by omega)
      have HP := Lib.hid (show endP l n wd k = (decide (0 < k) && (decide (0 < cntL l k) && (decide (n * 2 ^ j < fstL l k + cntL l k) && decide (fstL l k ≤ n * 2 ^ j + (2 ^ j - 1))))) by unfold endP; rw [hje])
      have kc := (b1.cell_ _ (code_c (tab_len _) k (by omega)))
      have kf := (b1.cell_ _ (code_f (tab_len _) (tab_len _) k (by omega)))
      rw [tab_at _ k (by omega)] at kc kf
      have hYk := HY.out k hwk hlt
      have HYK := Lib.hid hYk
      have hlo : n * 2 ^ j + 2 ^ j ≤ 32768 := low_le HNW.out (by omega)
      have HL := Lib.hid (low_val n j hlo)
      have HH := Lib.hid (high_val n j hlo)
      have hpj : 0 < (2 : Nat) ^ j := Nat.pow_pos (by omega)
      have hj15 : j ≤ 15 := by omega
      clear hYk hje
      obtain ⟨f, hf⟩ : ∃ x, fstL l k = x := ⟨_, rfl⟩
      obtain ⟨c, hc⟩ : ∃ x, cntL l k = x := ⟨_, rfl⟩
      rw [hf, hc] at hr HP
      rw [hf] at kf
      rw [hc] at kc
      have hcf : f + c ≤ 32768 := Nat.le_trans hr h2k
      clear hr h2k hf hc
      go_wp2_with fail
      try rw [HSUB.out]
      clear hj0
      go_quiet (fail)
      rw [HH.out, HL.out]
      obtain ⟨nq1, hnq1⟩ : ∃ x, nq0 + nq = x := ⟨_, rfl⟩
      rw [show (w.drewN nq0).drewN nq = w.drewN nq1 from by rw [← hnq1, World.drewN_drewN]]
      clear hnq1
      clear HL HH hpj
      obtain ⟨lo, hlo'⟩ : ∃ x, n * 2 ^ j = x := ⟨_, rfl⟩
      obtain ⟨hi, hhi'⟩ : ∃ x, lo + (2 ^ j - 1) = x := ⟨_, rfl⟩
      rw [hlo', hhi'] at HP ⊢
      clear hlo' hhi' hlo
      try go_wp2_with fail
      by_cases hk0 : 0 < k
      · by_cases hc0 : 0 < c
        · by_cases hl0 : lo < f + c
          · by_cases hh0 : f ≤ hi
            · have hx : v = 4 := by rw [← HV.out]; exact HYK.out (by rw [HP.out]; simp [hk0, hc0, hl0, hh0])
              subst hx
              have i1 : (k : Int) > 0 := by omega
              have i2 : (c : Int) > 0 := by omega
              have i3 : (lo : Int) < (f : Int) + (c : Int) := by omega
              have i4 : (hi : Int) ≥ (f : Int) := by omega
              go_quiet (fail)
              go_wp2
              go_ret
              exact ⟨rfl, _, World.drewN_drewN _ _ _⟩
            · have i1 : (k : Int) > 0 := by omega
              have i2 : (c : Int) > 0 := by omega
              have i3 : (lo : Int) < (f : Int) + (c : Int) := by omega
              have i4 : ¬ (hi : Int) ≥ (f : Int) := by omega
              have hE : endP l n wd k = false := by rw [HP.out]; simp [hh0]
              have HE := Lib.hid hE
              clear hE
              go_quiet (fail)
              go_wp2
              go_roundw
              case rel => exact ⟨k + 1, _, by go_num, by omega, by omega, fun m h1 h2 => (Nat.lt_succ_iff_lt_or_eq.1 h2).elim (HA.out m h1) (fun e => by rw [e]; exact HE.out), rfl⟩
              case measure => simp [intOf]; omega
          · have i1 : (k : Int) > 0 := by omega
            have i2 : (c : Int) > 0 := by omega
            have i3 : ¬ (lo : Int) < (f : Int) + (c : Int) := by omega
            have hE : endP l n wd k = false := by rw [HP.out]; simp [hl0]
            have HE := Lib.hid hE
            clear hE
            go_quiet (fail)
            go_wp2
            go_roundw
            case rel => exact ⟨k + 1, _, by go_num, by omega, by omega, fun m h1 h2 => (Nat.lt_succ_iff_lt_or_eq.1 h2).elim (HA.out m h1) (fun e => by rw [e]; exact HE.out), rfl⟩
            case measure => simp [intOf]; omega
        · have i1 : (k : Int) > 0 := by omega
          have i2 : ¬ (c : Int) > 0 := by omega
          have hE : endP l n wd k = false := by rw [HP.out]; simp [hc0]
          have HE := Lib.hid hE
          clear hE
          go_quiet (fail)
          go_wp2
          go_roundw
          case rel => exact ⟨k + 1, _, by go_num, by omega, by omega, fun m h1 h2 => (Nat.lt_succ_iff_lt_or_eq.1 h2).elim (HA.out m h1) (fun e => by rw [e]; exact HE.out), rfl⟩
          case measure => simp [intOf]; omega
      · have i1 : ¬ (k : Int) > 0 := by omega
        have hE : endP l n wd k = false := by rw [HP.out]; simp [hk0]
        have HE := Lib.hid hE
        clear hE
        go_quiet (fail)
        go_wp2
        go_roundw
        case rel => exact ⟨k + 1, _, by go_num, by omega, by omega, fun m h1 h2 => (Nat.lt_succ_iff_lt_or_eq.1 h2).elim (HA.out m h1) (fun e => by rw [e]; exact HE.out), rfl⟩
        case measure => simp [intOf]; omega
    · by_cases h0 : wd = 0
      · have hx : v = 4 := by rw [← HV.out]; unfold endedL; rw [if_pos (Or.inr h0)]
        subst hx
        have h0I : ((wd : Int) == 0) = true := by simp [h0]
        subst h0
        go_wp2_with fail
        go_ret
        exact ⟨rfl, _, rfl⟩
      · have hx : v = 40 := by rw [← HV.out]; exact HN.out (fun m h1 h2 => HA.out m h1 (by omega)) h0
        subst hx
        have h0I : ((wd : Int) == 0) = false := by simp [h0]
        go_wp2_with fail
        go_ret
        exact ⟨rfl, _, rfl⟩
end LenW
end Go.Proofs.Ytedoeplhjmkllaa
