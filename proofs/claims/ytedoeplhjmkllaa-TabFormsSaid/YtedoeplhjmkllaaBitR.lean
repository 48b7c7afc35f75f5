/- Walks over package bits: a reader. -/
import Derived.Test.YtedoeplhjmkllaaBitX
namespace Go.Proofs.Ytedoeplhjmkllaa
set_option linter.unusedVariables false
set_option linter.unusedSimpArgs false
set_option linter.unnecessarySimpa false
open Go.RowKit
namespace BitW

abbrev rdr (s : List UInt8) (p : Nat) : Array Value := #[str s, .int .i64 p]
theorem new_any (s : List UInt8) (w : World) :
    Calls Try.prog 23 #[str s] w fun e w' => e = .returned (.pointer (some ⟨w.heap.size, 0, none⟩)) ∧ w' = w.alloc (.cells (rdr s 0) 86) := by
  go_enter Try.func23, Try.ntmps23
  go_wp2_with fail
  go_ret
  exact ⟨rfl, rfl⟩
theorem left_any (g : Nat) (s : List UInt8) (p : Nat) (w : World) (h : Blk w g 86 (rdr s p)) (hp : p ≤ 8 * s.length) (hs : s.length ≤ 1000000) :
    Calls Try.prog 37 #[.pointer (some ⟨g, 0, none⟩)] w fun e w' => e = .returned (.int .i64 ((8 * s.length - p : Nat) : Int)) ∧ ∃ nq, w' = w.drewN nq := by
  obtain ⟨c0, c1, f0, f1, z⟩ := blk2 h
  have w1 : IntKind.i64.wrap (8 * (s.length : Int)) = 8 * (s.length : Int) := IntWalk.i64_in _ (by omega)
  have w2 : IntKind.i64.wrap (8 * (s.length : Int) - (p : Int)) = ((8 * s.length - p : Nat) : Int) := by rw [IntWalk.i64_in _ (by omega)]; omega
  have w3 : 8 * (s.length : Int) - (p : Int) = ((8 * s.length - p : Nat) : Int) := by omega
  have HW := Lib.hid w3
  clear w3 h
  go_enter Try.func37, Try.ntmps37
  go_wp2_with fail
  go_quiet (fail)
  go_wp2
  go_ret
  exact ⟨by first | rfl | (rw [HW.out]), _, rfl⟩
/-- The bits of a text from one on. -/
def cut (s : List UInt8) (a k : Nat) : List Nat := ((bitsB s).drop a).take k
theorem w64 (n : Int) (h0 : 0 ≤ n) (h1 : n ≤ 9223372036854775807) : wrap64 n = n := by unfold wrap64; omega
theorem or_piece (n k j cb e : Nat) (hn : n < 2 ^ j) (hjk : j + k ≤ 32) (hk : k ≤ 8) (hcb : cb < 256) :
    bits BinOp.or .i64 (wrap64 ((n : Int) * 2 ^ k)) (bits BinOp.and .i64 ((cb : Int) / 2 ^ e) (wrap64 (wrap64 (2 ^ k) - 1))) = ((n * 2 ^ k + cb / 2 ^ e % 2 ^ k : Nat) : Int) := by
  have e0 : n * 2 ^ k < 4294967296 := by
    have h1 : n * 2 ^ k < 2 ^ j * 2 ^ k := (Nat.mul_lt_mul_right (Nat.pow_pos (by omega))).2 hn
    rw [← Nat.pow_add] at h1
    exact Nat.lt_of_lt_of_le h1 (Nat.le_trans (Nat.pow_le_pow_right (by omega) hjk) (by decide))
  have e1 : (n : Int) * 2 ^ k = ((n * 2 ^ k : Nat) : Int) := by push_cast; rfl
  have e2 : (2 : Int) ^ k = ((2 ^ k : Nat) : Int) := by push_cast; rfl
  have e3 : (cb : Int) / 2 ^ e = ((cb / 2 ^ e : Nat) : Int) := by push_cast; rfl
  have p0 : 0 < (2 : Nat) ^ k := Nat.pow_pos (by omega)
  have p1 : (2 : Nat) ^ k ≤ 256 := Nat.le_trans (Nat.pow_le_pow_right (by omega) hk) (by decide)
  have p2 : cb / 2 ^ e ≤ cb := Nat.div_le_self _ _
  rw [e1, e2, e3]
  have p3 : cb / 2 ^ e % 2 ^ k < 2 ^ k := Nat.mod_lt _ p0
  have h5 := or_shift k (cb / 2 ^ e % 2 ^ k) n p3
  generalize cb / 2 ^ e = c at *
  have h4 : c &&& (2 ^ k - 1) = c % 2 ^ k := Nat.and_two_pow_sub_one_eq_mod _ _
  generalize c % 2 ^ k = m at *
  generalize n * 2 ^ k = y at *
  generalize (2 : Nat) ^ k = z at *
  clear e1 e2 e3 hn hjk
  rw [w64 _ (by omega) (by omega), w64 (z : Int) (by omega) (by omega), show (z : Int) - 1 = ((z - 1 : Nat) : Int) from by omega, w64 _ (by omega) (by omega)]
  rw [bits_nat_and .i64 c (z - 1) (by simp [IntKind.bits]; omega) (by simp [IntKind.bits]; omega), h4]
  rw [show IntKind.i64.wrap (m : Int) = (m : Int) from IntWalk.i64_in _ (by omega)]
  rw [bits_nat_or .i64 y m (by simp [IntKind.bits]; omega) (by simp [IntKind.bits]; omega), Nat.or_comm, h5, Nat.add_comm]
  exact IntWalk.i64_in _ (by omega)
theorem cut_len (s : List UInt8) (a k : Nat) (h : a + k ≤ 8 * s.length) : (cut s a k).length = k := by
  unfold cut; rw [List.length_take, List.length_drop, bitsB_len]; omega
theorem cut_lt (s : List UInt8) (a k : Nat) : ∀ d ∈ cut s a k, d < 2 := fun d hd => bitsB_lt s d (List.mem_of_mem_drop (List.mem_of_mem_take hd))
theorem cut_app (s : List UInt8) (a j k : Nat) : cut s a (j + k) = cut s a j ++ cut s (a + j) k := by
  unfold cut
  rw [List.take_add, List.drop_drop]
theorem cut_step (s : List UInt8) (a j k : Nat) (h : a + j + k ≤ 8 * s.length) (h0 : 0 < k) (h8 : (a + j) % 8 + k ≤ 8) (hq : (a + j) / 8 < s.length) :
    num (cut s a (j + k)) = num (cut s a j) * 2 ^ k + s[(a + j) / 8].toNat / 2 ^ (8 - (a + j) % 8 - k) % 2 ^ k := by
  rw [cut_app, num_app, cut_len s (a + j) k h]
  congr 1
  have e : a + j = 8 * ((a + j) / 8) + (a + j) % 8 := by omega
  unfold cut
  rw [show (bitsB s).drop (a + j) = (bitsB s).drop (8 * ((a + j) / 8) + (a + j) % 8) from by rw [← e], bits_at s ((a + j) / 8) ((a + j) % 8) hq (by omega) k h8, num_mid _ _ _ h8]

set_option maxRecDepth 100000 in
set_option maxHeartbeats 2000000 in
theorem peek_any (g : Nat) (s : List UInt8) (p a W : Nat) (w : World) (h : Blk w g 86 (rdr s p)) (ha : a + W ≤ 8 * s.length) (hW : W ≤ 32) (hs : s.length ≤ 1000000) :
    Calls Try.prog 60 #[.pointer (some ⟨g, 0, none⟩), .int .i64 a, .int .i64 W] w fun e w' => e = .returned (.int .i64 (num (cut s a W) : Nat)) ∧ ∃ nq, w' = w.drewN nq := by
  obtain ⟨c0, c1, f0, f1, z⟩ := blk2 h
  clear h
  go_enter Try.func60, Try.ntmps60
  go_wp2_with fail
  go_loopw [1, 2, 7] (fun at_ wd n wr => ∃ (j nq : Nat), at_ = .int .i64 ((a + j : Nat) : Int) ∧ wd = .int .i64 ((W - j : Nat) : Int) ∧ n = .int .i64 (num (cut s a j) : Nat) ∧ j ≤ W ∧ wr = w.drewN nq) (fun _ wd _ _ => (intOf wd).toNat)
  case atStart => exact ⟨0, 0, rfl, rfl, by simp [cut, num], by omega, rfl⟩
  case round =>
    obtain ⟨j, nq0, rfl, rfl, rfl, hj, rfl⟩ := hrel
    by_cases hlt : j < W
    · have hwI : (0 : Int) < ((W - j : Nat) : Int) := by omega
      have hq : (a + j) / 8 < s.length := by omega
      have hnl := num_lt (cut s a j) (cut_lt s a j)
      rw [cut_len s a j (by omega)] at hnl
      have hstep := fun k (h1 : 0 < k) (h2 : (a + j) % 8 + k ≤ 8) (h3 : j + k ≤ W) => cut_step s a j k (by omega) h1 h2 hq
      have HS := Lib.hid hstep
      obtain ⟨cb, hb, hb'⟩ : ∃ b, (⟨s.toArray⟩ : ByteArray)[(a + j) / 8]'(by show (a + j) / 8 < s.toArray.size; simpa using hq) = b ∧ s[(a + j) / 8] = b := ⟨_, rfl, rfl⟩
      have HB' := Lib.hid hb'
      generalize hp : a + j = P at *
      clear hstep hb'
      have hk : min ((8 - P % 8 : Nat) : Int) ((W - j : Nat) : Int) = ((min (8 - P % 8) (W - j) : Nat) : Int) := by omega
      have hf : (8 : Int) - (P : Int) % 8 = ((8 - P % 8 : Nat) : Int) := by omega
      go_wp2_with fail
      try rw [hk]
      obtain ⟨k, hke⟩ : ∃ k, min (8 - P % 8) (W - j) = k := ⟨_, rfl⟩
      obtain ⟨f, hfe⟩ : ∃ f, 8 - P % 8 = f := ⟨_, rfl⟩
      have hk1 : 0 < k := by omega
      have hk2 : P % 8 + k ≤ 8 := by omega
      have hk3 : j + k ≤ W := by omega
      have hk4 : k ≤ f := by omega
      have hst := HS.out k hk1 hk2 hk3
      rw [hfe, HB'.out] at hst
      rw [hke, hfe]
      have hcb : cb.toNat < 256 := cb.toNat_lt
      have hnew := or_piece (num (cut s a j)) k j cb.toNat (f - k) hnl (by omega) (by omega) hcb
      rw [← hst] at hnew
      have h64 : min (f - k) 64 = f - k := by omega
      have HNEW := Lib.hid hnew
      have hfk : IntKind.i64.wrap ((f : Int) - (k : Int)) = ((f - k : Nat) : Int) := by rw [IntWalk.i64_in _ (by omega)]; omega
      have hi0 : (0 : Int) ≤ (P : Int) / 8 := by omega
      have hi1 : (P : Int) / 8 < (s.length : Int) := by omega
      have hcw : IntKind.i64.wrap (cb.toNat : Int) = (cb.toNat : Int) := IntWalk.i64_in _ (by omega)
      clear hst hnew HS HB' hk hf hke hfe
      have hWk : ((W - j : Nat) : Int) - (k : Int) = ((W - (j + k) : Nat) : Int) := by omega
      have HWK := Lib.hid hWk
      clear hWk
      go_quiet (fail)
      go_wp2
      go_roundw
      case rel => exact ⟨j + k, nq0 + nq, by rw [← hp]; congr 1; omega, by rw [HWK.out], by rw [HNEW.out], by omega, rfl⟩
      case measure => simp [intOf]; omega
    · obtain rfl : j = W := by omega
      go_wp2_with fail
      go_ret
      exact ⟨rfl, _, rfl⟩
end BitW
end Go.Proofs.Ytedoeplhjmkllaa
