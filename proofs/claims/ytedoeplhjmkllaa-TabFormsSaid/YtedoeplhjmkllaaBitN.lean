/- Walks over package bits: noughts, gamma numbers, the end. -/
import Derived.Test.YtedoeplhjmkllaaBitS
namespace Go.Proofs.Ytedoeplhjmkllaa
set_option linter.unusedVariables false
set_option linter.unusedSimpArgs false
set_option linter.unnecessarySimpa false
open Go.RowKit
namespace BitW

/-- How many noughts stand ahead of a 1. -/
def nz : List Nat → Nat
  | [] => 0
  | d :: r => if d = 0 then nz r + 1 else 0
theorem nz_le (l : List Nat) : nz l ≤ l.length := by
  induction l with
  | nil => exact Nat.le_refl _
  | cons d r ih => unfold nz; split <;> simp; omega
theorem nz_app_zero {l r : List Nat} (h : nz l = l.length) : nz (l ++ r) = l.length + nz r := by
  induction l with
  | nil => simp
  | cons d l ih =>
    unfold nz at h
    split at h
    · rename_i hd
      have h' : nz l = l.length := by simpa using h
      rw [List.cons_append, nz, if_pos hd, ih h']
      simp; omega
    · simp at h
theorem cut_one (s : List UInt8) (a m : Nat) (h : a + (m + 1) ≤ 8 * s.length) : ∃ d, cut s a 1 = [d] ∧ d < 2 ∧ cut s a (m + 1) = d :: cut s (a + 1) m := by
  have hl := cut_len s a 1 (by omega)
  obtain ⟨d, hd⟩ := List.length_eq_one_iff.1 hl
  refine ⟨d, hd, cut_lt s a 1 d (by rw [hd]; simp), ?_⟩
  rw [Nat.add_comm m 1, cut_app, hd]
  rfl

set_option maxRecDepth 100000 in
set_option maxHeartbeats 2000000 in
theorem noughts_any (g : Nat) (s : List UInt8) (p m : Nat) (w : World) (h : Blk w g 86 (rdr s p)) (hm : p + m ≤ 8 * s.length) (hs : s.length ≤ 1000000) :
    Calls Try.prog 64 #[.pointer (some ⟨g, 0, none⟩), .int .i64 m] w fun e w' => e = .returned (.int .i64 (nz (cut s p m) : Nat)) ∧ ∃ nq, w' = w.drewN nq := by
  go_enter Try.func64, Try.ntmps64
  go_wp2_with fail
  go_loopw [5] (fun kv wr => ∃ (k nq : Nat), k ≤ m ∧ kv = .int .i64 k ∧ nz (cut s p m) = k + nz (cut s (p + k) (m - k)) ∧ wr = w.drewN nq) (fun kv _ => m - (intOf kv).toNat)
  case atStart => exact ⟨0, 0, by omega, rfl, by simp, rfl⟩
  case round =>
    obtain ⟨k, nq, hk, rfl, hz, rfl⟩ := hrel
    have HZ := Lib.hid hz
    clear hz
    have h' := h.drewN nq
    by_cases hlt : k < m
    · obtain ⟨d, hd1, hd2, hd3⟩ := cut_one s (p + k) (m - k - 1) (by omega)
      rw [show m - k - 1 + 1 = m - k from by omega] at hd3
      have C := peek_any g s p (p + k) 1 _ h' (by omega) (by omega) hs
      rw [hd1, show num [d] = d from by simp [num]] at C
      have HD := Lib.hid hd3
      have hb := h'
      obtain ⟨c0, c1, _, _, _⟩ := blk2 hb
      have hpk : (p : Int) + (k : Int) = ((p + k : Nat) : Int) := by omega
      have hwr : IntKind.i64.wrap ((p : Int) + (k : Int)) = ((p + k : Nat) : Int) := by rw [IntWalk.i64_in _ (by omega)]; omega
      have HPK := Lib.hid hpk
      clear hd1 hd3 hb hpk
      by_cases hd0 : d = 0
      · subst hd0
        go_wp2_with fail
        try rw [HPK.out]
        refine C.mono ?_
        clear C
        rintro e w2 ⟨rfl, nq2, rfl⟩
        go_wp2_with fail
        go_roundw
        case rel => exact ⟨k + 1, nq + nq2, by omega, by go_num, by rw [HZ.out, HD.out, nz, if_pos rfl, show p + (k + 1) = p + k + 1 from by omega, show m - (k + 1) = m - k - 1 from by omega]; omega, rfl⟩
        case measure => simp [intOf]; omega
      · have hdI : ((d : Int) == 0) = false := by rw [beq_eq_false_iff_ne]; omega
        have hf : nz (cut s p m) = k := by rw [HZ.out, HD.out, nz, if_neg hd0]; omega
        have HF := Lib.hid hf
        clear hf
        go_wp2_with fail
        try rw [HPK.out]
        refine C.mono ?_
        clear C
        rintro e w2 ⟨rfl, nq2, rfl⟩
        go_wp2_with fail
        go_ret
        exact ⟨by rw [HF.out]; rfl, nq + nq2, rfl⟩
    · have hf : nz (cut s p m) = k := by rw [HZ.out, show m - k = 0 from by omega]; simp [cut, nz]
      have HF := Lib.hid hf
      clear hf
      go_wp2_with fail
      go_ret
      exact ⟨by rw [HF.out]; rfl, nq, rfl⟩

def doneB (s : List UInt8) (p : Nat) : Bool := decide (8 * s.length - p < 8) && decide (nz (cut s p (8 * s.length - p)) = 8 * s.length - p)
/-- The gamma number that stands at a bit, its error, how many bits it has. -/
def ungB (s : List UInt8) (p : Nat) : Nat × Int × Nat :=
  if 8 * s.length - p = 0 ∨ nz (cut s p (8 * s.length - p)) = 8 * s.length - p then (0, 4, 0)
  else if 32 ≤ nz (cut s p (8 * s.length - p)) then (0, 40, 0)
  else if 8 * s.length - p < 2 * nz (cut s p (8 * s.length - p)) + 1 then (0, 4, 0)
  else (num (cut s (p + nz (cut s p (8 * s.length - p))) (nz (cut s p (8 * s.length - p)) + 1)), 0, 2 * nz (cut s p (8 * s.length - p)) + 1)
set_option maxRecDepth 100000 in
set_option maxHeartbeats 2000000 in
theorem gamma_any (g : Nat) (s : List UInt8) (p : Nat) (w : World) (h : Blk w g 86 (rdr s p)) (hp : p ≤ 8 * s.length) (hs : s.length ≤ 1000000) (v : Nat × Int × Nat) (hv : ungB s p = v) :
    Calls Try.prog 56 #[.pointer (some ⟨g, 0, none⟩)] w fun e w' => e = .returned (.tuple #[.int .i64 v.1, .int .i64 v.2.1]) ∧ RLeft w w' g s (p + v.2.2) := by
  have CL := left_any g s p w h hp hs
  have CN := fun w h => noughts_any g s p (8 * s.length - p) w h (by omega) hs
  have CP := fun k w h hk => peek_any g s p (p + k) (k + 1) w h (show p + k + (k + 1) ≤ 8 * s.length from hk)
  have hle := nz_le (cut s p (8 * s.length - p))
  rw [cut_len s p _ (by omega)] at hle
  have hLL : 8 * s.length - p + p ≤ 8 * s.length := by omega
  unfold ungB at hv
  generalize 8 * s.length - p = L at *
  generalize nz (cut s p L) = z at *
  have H := Lib.hid h
  have HCP := Lib.hid CP
  clear h CP
  by_cases h0 : L = 0
  · rw [if_pos (.inl h0)] at hv
    subst hv
    subst h0
    go_enter Try.func56, Try.ntmps56
    go_wp2_with fail
    refine CL.mono ?_
    rintro e w2 ⟨rfl, nq, rfl⟩
    go_wp2_with fail
    go_ret2
    exact ⟨rfl, RLeft.drewN H.out nq⟩
  · have h0I : ((L : Int) == 0) = false := by rw [beq_eq_false_iff_ne]; omega
    by_cases hz : z = L
    · rw [if_pos (.inr hz)] at hv
      subst hv
      subst hz
      clear h0
      go_enter Try.func56, Try.ntmps56
      go_wp2_with fail
      refine CL.mono ?_
      rintro e w2 ⟨rfl, nq, rfl⟩
      go_wp2_with fail
      refine (CN _ (H.out.drewN nq)).mono ?_
      rintro e w3 ⟨rfl, nq2, rfl⟩
      go_wp2_with fail
      go_ret2
      exact ⟨rfl, RLeft.drewN H.out (nq + nq2)⟩
    · have hzI : ((z : Int) == (L : Int)) = false := by rw [beq_eq_false_iff_ne]; omega
      rw [if_neg (by omega)] at hv
      by_cases h32 : 32 ≤ z
      · rw [if_pos h32] at hv
        subst hv
        have h32I : (32 : Int) ≤ (z : Int) := by omega
        clear h0 hz
        go_enter Try.func56, Try.ntmps56
        go_wp2_with fail
        refine CL.mono ?_
        rintro e w2 ⟨rfl, nq, rfl⟩
        go_wp2_with fail
        refine (CN _ (H.out.drewN nq)).mono ?_
        rintro e w3 ⟨rfl, nq2, rfl⟩
        go_wp2_with fail
        go_ret2
        exact ⟨rfl, RLeft.drewN H.out (nq + nq2)⟩
      · rw [if_neg h32] at hv
        have h32I : ¬ (32 : Int) ≤ (z : Int) := by omega
        by_cases hsh : L < 2 * z + 1
        · rw [if_pos hsh] at hv
          subst hv
          have hshI : (L : Int) < 2 * (z : Int) + 1 := by omega
          clear h0 hz
          go_enter Try.func56, Try.ntmps56
          go_wp2_with fail
          refine CL.mono ?_
          rintro e w2 ⟨rfl, nq, rfl⟩
          go_wp2_with fail
          refine (CN _ (H.out.drewN nq)).mono ?_
          rintro e w3 ⟨rfl, nq2, rfl⟩
          go_wp2_with fail
          go_ret2
          exact ⟨rfl, RLeft.drewN H.out (nq + nq2)⟩
        · rw [if_neg hsh] at hv
          subst hv
          have hshI : ¬ (L : Int) < 2 * (z : Int) + 1 := by omega
          have e1 : (p : Int) + (z : Int) = ((p + z : Nat) : Int) := by omega
          have e2 : (z : Int) + 1 = ((z + 1 : Nat) : Int) := by omega
          have E1 := Lib.hid e1
          have E2 := Lib.hid e2
          clear h0 hz e1 e2
          go_enter Try.func56, Try.ntmps56
          go_wp2_with fail
          refine CL.mono ?_
          rintro e w2 ⟨rfl, nq, rfl⟩
          go_wp2_with fail
          refine (CN _ (H.out.drewN nq)).mono ?_
          rintro e w3 ⟨rfl, nq2, rfl⟩
          have h3 : Blk (w.drewN (nq + nq2)) g 86 (rdr s p) := H.out.drewN (nq + nq2)
          have C := HCP.out z (w.drewN (nq + nq2)) h3 (by omega) (by omega) hs
          have h3' := h3
          obtain ⟨c0, c1, f0, f1, z3⟩ := blk2 h3'
          clear h3'
          go_wp2_with fail
          rw [E1.out, E2.out]
          refine C.mono ?_
          clear C
          rintro e w4 ⟨rfl, nq3, rfl⟩
          have h4 : Blk (w.drewN (nq + nq2 + nq3)) g 86 (rdr s p) := H.out.drewN (nq + nq2 + nq3)
          have h4' := h4
          clear c0 c1 f0 f1 z3
          obtain ⟨c0, c1, f0, f1, z3⟩ := blk2 h4'
          go_wp2_with fail
          go_ret2
          refine ⟨rfl, ?_, ?_⟩
          · have := h4.set 1 (.int .i64 ((p : Int) + (2 * (z : Int) + 1)))
            exact blk_eq this (by simp)
          · exact ⟨rfl, rfl, rfl, by simp [World.setCell], fun k _ hne => Below.heap_setCell _ _ _ k (fun e => hne (by rw [e]))⟩
end BitW
end Go.Proofs.Ytedoeplhjmkllaa
