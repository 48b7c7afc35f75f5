/- The walks of the reference of package want: bytes in the base 16. The walks of package want and its reference: what may be written; a number's digits. The walks of the reference of package want: a number's digits. -/
import Derived.Test.YtdeiehgghhiijaaDoorWanP
import Derived.Test.YtdeiehgghhiijaaDoorReg2
namespace Go.Proofs.YtdeiehgghhiijaaDoor
set_option linter.unusedVariables false
set_option linter.unusedSimpArgs false
set_option linter.unnecessarySimpa false
open Go.RowKit
namespace WanW

theorem El_u8 : El Tryd.prog 94 5 1 1 := El.mk' Tryd.underlying94 (z := .int .u8 0) (by kernel_rfl) rfl (by decide)
def digB (n : Nat) : UInt8 := UInt8.ofNat (digN n)
theorem digN_lt (n : Nat) (h : n < 16) : digN n < 128 := by unfold digN; split <;> omega
theorem digB_toNat (n : Nat) (h : n < 16) : (digB n).toNat = digN n := by
  have := digN_lt n h
  unfold digB
  rw [UInt8.toNat_ofNat']
  omega
/-- Bytes, written in the base 16. -/
def hexL (s : List UInt8) : List UInt8 := s.flatMap fun b => [digB (b.toNat / 16), digB (b.toNat % 16)]
theorem hexL_snoc (s : List UInt8) (b : UInt8) : hexL (s ++ [b]) = hexL s ++ [digB (b.toNat / 16), digB (b.toNat % 16)] := by simp [hexL]
theorem hexL_len (s : List UInt8) : (hexL s).length = 2 * s.length := by
  induction s with
  | nil => rfl
  | cons b s ih =>
    show ([digB (b.toNat / 16), digB (b.toNat % 16)] ++ hexL s).length = _
    simp [ih]
    omega
theorem byts_cat (a b : List UInt8) : byts (a ++ b) = byts a ++ byts b := by simp [byts]
theorem refDigit_b (n : Nat) (hn : n < 16) (w : World) : Calls Tryd.prog 36 #[.int .i64 n] w fun e w' => e = .returned (byt (digB n)) ∧ Below w.heap.size w w' := by
  refine (refDigit_any n hn w).mono ?_
  rintro e w' ⟨rfl, rfl⟩
  exact ⟨by rw [byt, digB_toNat n hn], Below.refl _ _⟩
set_option maxRecDepth 100000 in
set_option maxHeartbeats 4000000 in
theorem refHex_any (s : List UInt8) (w : World) (hs : s.length ≤ 1000000) : Calls Tryd.prog 25 #[str s] w fun e w' => e = .returned (str (hexL s)) ∧ Below w.heap.size w w' := by
  obtain ⟨S, hS⟩ : ∃ S : ByteArray, (⟨s.toArray⟩ : ByteArray) = S := ⟨_, rfl⟩
  have HS := Lib.hid hS
  have hsz : S.size = s.length := by rw [← hS]; simp [ByteArray.size]
  go_enter Tryd.func25, Tryd.ntmps25
  go_wp2_with fail
  go_loopw [3, 4] (fun out i wr => ∃ (k c2 q : Nat) (A2 : Option Addr), i = .int .i64 k ∧ out = .slice A2 q c2 ∧ q ≤ 2 * k ∧ 2 * k ≤ q ∧ k ≤ s.length ∧ Own wr w.heap.size 5 1 A2 q c2 (byts (hexL (s.take k))) ∧ Below w.heap.size w wr) (fun _ i _ => s.length - (intOf i).toNat)
  case atStart => exact ⟨0, 0, 0, none, rfl, rfl, by omega, by omega, by omega, by simpa [hexL, byts] using Own.nil _ _ _ _, Below.refl _ _⟩
  case round =>
    obtain ⟨k, c2, q, A2, rfl, rfl, hq1, hq2, hk, o2, HB⟩ := hrel
    have hsz2 := HB.size
    by_cases hlt : k < s.length
    · have hkI : (k : Int) < (s.length : Int) := by omega
      have hk0 : (0 : Int) ≤ (k : Int) := by omega
      have hkS : k < S.size := by rw [hsz]; exact hlt
      obtain ⟨x, hx⟩ : ∃ x, S[k] = x := ⟨_, rfl⟩
      have hx2 : s[k] = x := by
        rw [← hx]
        subst hS
        rfl
      obtain ⟨m, hm⟩ : ∃ m : Nat, x.toNat = m := ⟨_, rfl⟩
      have hm256 : m < 256 := by rw [← hm]; exact x.toNat_lt
      have HN := Lib.hid (show hexL (s.take (k + 1)) = hexL (s.take k) ++ [digB (m / 16), digB (m % 16)] by rw [List.take_succ_eq_append_getElem hlt, hexL_snoc, hx2, hm])
      have t1 : Int.tdiv (m : Int) 16 = ((m / 16 : Nat) : Int) := by rw [Int.tdiv_eq_ediv_of_nonneg (by omega)]; omega
      have t2 : Int.tmod (m : Int) 16 = ((m % 16 : Nat) : Int) := by rw [Int.tmod_eq_emod_of_nonneg (by omega)]; omega
      have t3 : IntKind.i64.wrap (m : Int) = (m : Int) := w64k (by omega) (by omega)
      have hadd : IntKind.i64.wrap ((k : Int) + 1) = (k : Int) + 1 := w64k (by omega) (by omega)
      obtain ⟨a, ha⟩ : ∃ a, m / 16 = a := ⟨_, rfl⟩
      obtain ⟨b, hb⟩ : ∃ b, m % 16 = b := ⟨_, rfl⟩
      have ha16 : a < 16 := by omega
      have hb16 : b < 16 := by omega
      rw [ha] at t1 HN
      rw [hb] at t2 HN
      have t4 : IntKind.i64.wrap (a : Int) = (a : Int) := w64k (by omega) (by omega)
      clear hx2 ha hb
      go_wp2_with fail
      refine wp_region_held_drew (S := (fun _ => True)) (by kernel_rfl) ?_ (fun hHeld => ?_)
      · replace HB := Below.drew HB; replace o2 := Own.drew o2; (try dsimp only); try trivial
      replace HB := Below.drew HB
      replace o2 := Own.drew o2
      have zHB := HB.size
      refine take_movev (v := ?vu1x0) 0 (Operand.tmp 3) rfl rfl (by first | exact .inl rfl | exact .inr rfl) rfl (by kernel_rfl) (by kernel_rfl) (by kernel_rfl) (fun _ _ _ h => h) (by assumption) ?yu1x0 ?ru1x0
      case yu1x0 => (go_simp; try (with_reducible rfl))
      simp only [List.setIfInBounds_toArray, List.set_cons_zero, List.set_cons_succ]
      refine take_movev (v := ?vu1x1) 1 (Operand.tmp 0) rfl rfl (by first | exact .inl rfl | exact .inr rfl) rfl (by kernel_rfl) (by kernel_rfl) (by kernel_rfl) (fun _ _ _ h => h) (by assumption) ?yu1x1 ?ru1x1
      case yu1x1 => (go_simp; try (with_reducible rfl))
      simp only [List.setIfInBounds_toArray, List.set_cons_zero, List.set_cons_succ]
      refine take_movev (v := ?vu1x2) 2 (Operand.tmp 4) rfl rfl (by first | exact .inl rfl | exact .inr rfl) rfl (by kernel_rfl) (by kernel_rfl) (by kernel_rfl) (fun _ _ _ h => h) (by assumption) ?yu1x2 ?ru1x2
      case yu1x2 => (go_simp; try (with_reducible rfl))
      simp only [List.setIfInBounds_toArray, List.set_cons_zero, List.set_cons_succ]
      refine take_op (v := ?vu1x3) 3 (Op.index 9 (Operand.tmp 12) (Operand.tmp 13)) 5 rfl rfl rfl rfl rfl (by kernel_rfl) (by kernel_rfl) (by kernel_rfl) (fun _ _ _ h => h) ?yu1x3 (by assumption) ?ru1x3
      case yu1x3 => (intro w' hSw; (try dsimp only at hSw); go_simp; try (with_reducible rfl))
      simp only [List.setIfInBounds_toArray, List.set_cons_zero, List.set_cons_succ]
      refine take_op (v := ?vu1x4) 4 (Op.convert 5 3 (Operand.tmp 14)) 3 rfl rfl rfl rfl rfl (by kernel_rfl) (by kernel_rfl) (by kernel_rfl) (fun _ _ _ h => h) ?yu1x4 (by assumption) ?ru1x4
      case yu1x4 => (intro w' hSw; (try dsimp only at hSw); go_simp; try (with_reducible rfl))
      simp only [List.setIfInBounds_toArray, List.set_cons_zero, List.set_cons_succ]
      refine take_op (v := ?vu1x5) 5 (Op.binOp BinOp.quo 3 (Operand.tmp 15) (Operand.const (Value.int IntKind.i64 16)) 3) 3 rfl rfl rfl rfl rfl (by kernel_rfl) (by kernel_rfl) (by kernel_rfl) (fun _ _ _ h => h) ?yu1x5 (by assumption) ?ru1x5
      case yu1x5 => (intro w' hSw; (try dsimp only at hSw); go_simp; try (with_reducible rfl))
      simp only [List.setIfInBounds_toArray, List.set_cons_zero, List.set_cons_succ]
      refine take_movev (v := ?vu1x7) 7 (Operand.tmp 0) rfl rfl (by first | exact .inl rfl | exact .inr rfl) rfl (by kernel_rfl) (by kernel_rfl) (by kernel_rfl) (fun _ _ _ h => h) (by assumption) ?yu1x7 ?ru1x7
      case yu1x7 => (go_simp; try (with_reducible rfl))
      simp only [List.setIfInBounds_toArray, List.set_cons_zero, List.set_cons_succ]
      refine take_movev (v := ?vu1x8) 8 (Operand.tmp 4) rfl rfl (by first | exact .inl rfl | exact .inr rfl) rfl (by kernel_rfl) (by kernel_rfl) (by kernel_rfl) (fun _ _ _ h => h) (by assumption) ?yu1x8 ?ru1x8
      case yu1x8 => (go_simp; try (with_reducible rfl))
      simp only [List.setIfInBounds_toArray, List.set_cons_zero, List.set_cons_succ]
      refine take_op (v := ?vu1x9) 9 (Op.index 9 (Operand.tmp 18) (Operand.tmp 19)) 5 rfl rfl rfl rfl rfl (by kernel_rfl) (by kernel_rfl) (by kernel_rfl) (fun _ _ _ h => h) ?yu1x9 (by assumption) ?ru1x9
      case yu1x9 => (intro w' hSw; (try dsimp only at hSw); go_simp; try (with_reducible rfl))
      simp only [List.setIfInBounds_toArray, List.set_cons_zero, List.set_cons_succ]
      refine take_op (v := ?vu1x10) 10 (Op.convert 5 3 (Operand.tmp 20)) 3 rfl rfl rfl rfl rfl (by kernel_rfl) (by kernel_rfl) (by kernel_rfl) (fun _ _ _ h => h) ?yu1x10 (by assumption) ?ru1x10
      case yu1x10 => (intro w' hSw; (try dsimp only at hSw); go_simp; try (with_reducible rfl))
      simp only [List.setIfInBounds_toArray, List.set_cons_zero, List.set_cons_succ]
      refine take_op (v := ?vu1x11) 11 (Op.binOp BinOp.rem 3 (Operand.tmp 21) (Operand.const (Value.int IntKind.i64 16)) 3) 3 rfl rfl rfl rfl rfl (by kernel_rfl) (by kernel_rfl) (by kernel_rfl) (fun _ _ _ h => h) ?yu1x11 (by assumption) ?ru1x11
      case yu1x11 => (intro w' hSw; (try dsimp only at hSw); go_simp; try (with_reducible rfl))
      simp only [List.setIfInBounds_toArray, List.set_cons_zero, List.set_cons_succ]
      refine wpAnyH_ready (rs := [6]) (by kernel_rfl) (by simp) (AllReadyH.cons rfl (fun K6 hK6 => ?ku1x6) AllReadyH.nil)
      refine take_calls 6 36 [Operand.tmp 16] #[3] rfl rfl (by kernel_rfl) (fun args w => run_enter Tryd.func36 (by kernel_rfl) rfl args w) ?_
      refine (refDigit_b a ha16 _).mono ?_
      rintro e w6 ⟨rfl, hb6⟩
      refine ⟨_, rfl, ?_⟩
      have z6 := hb6.size
      try simp only [World.size_drew] at z6
      replace HB := HB.trans (hb6.mono (by first | exact HB.size | omega))
      have zHB6 := HB.size
      replace o2 := Own.below o2 hb6
      refine hK6.out _ _ ?su1x6 (fun hHeld => ?ru1x6)
      case su1x6 => ((try dsimp only); try trivial)
      try simp only [List.setIfInBounds_toArray, List.set_cons_zero, List.set_cons_succ]
      refine wpAnyH_ready (rs := [12]) (by kernel_rfl) (by simp) (AllReadyH.cons rfl (fun K12 hK12 => ?ku1x12) AllReadyH.nil)
      refine take_calls 12 36 [Operand.tmp 22] #[3] rfl rfl (by kernel_rfl) (fun args w => run_enter Tryd.func36 (by kernel_rfl) rfl args w) ?_
      refine (refDigit_b b hb16 _).mono ?_
      rintro e w12 ⟨rfl, hb12⟩
      refine ⟨_, rfl, ?_⟩
      have z12 := hb12.size
      try simp only [World.size_drew] at z12
      replace HB := HB.trans (hb12.mono (by first | exact HB.size | omega))
      have zHB12 := HB.size
      replace o2 := Own.below o2 hb12
      refine hK12.out _ _ ?su1x12 (fun hHeld => ?ru1x12)
      case su1x12 => ((try dsimp only); try trivial)
      try simp only [List.setIfInBounds_toArray, List.set_cons_zero, List.set_cons_succ]
      refine wpAnyH_ready (rs := [13]) (by kernel_rfl) (by simp) (AllReadyH.cons rfl (fun K13 hK13 => ?ku1x13) AllReadyH.nil)
      refine take_build (e := 5) (len := 2) (size := 1) (w.heap.size) (byts [digB a, digB b]) 13 (Op.buildSlice 94 2 #[(0, Operand.tmp 17), (1, Operand.tmp 23)]) 94 rfl rfl rfl (by kernel_rfl) ?eu1x13 (by rfl) (by decide) (by first | exact Nat.le_refl _ | (simp only [World.size_alloc, World.size_setCell, World.size_drew] at *; omega) | omega) ?_
      case eu1x13 => (go_simp; try (first | with_reducible rfl | (simp [rcells, rcell]; done) | (simp [fcells]; done) | (simp [tcells]; done) | rfl))
      intro gx13 w13 o13 gr13 l13 m13
      have z13 := gr13.size
      try simp only [World.size_drew] at z13
      replace HB := below_grow HB gr13
      have zHB13 := HB.size
      replace o2 := Own.grow0 o2 gr13
      refine hK13.out _ _ ?su1x13 (fun hHeld => ?ru1x13)
      case su1x13 => ((try dsimp only); try trivial)
      try simp only [List.setIfInBounds_toArray, List.set_cons_zero, List.set_cons_succ]
      refine wpAnyH_ready (rs := [14]) (by kernel_rfl) (by simp) (AllReadyH.cons rfl (fun K14 hK14 => ?ku1x14) AllReadyH.nil)
      refine take_app El_u8 14 (Operand.tmp 11) (Operand.tmp 24) 94 rfl rfl rfl (by kernel_rfl) o2 rfl (o13.rd) rfl (byts_one _) (by unfold maxLen; omega) (by omega) (by first | exact Nat.le_refl _ | (simp only [World.size_alloc, World.size_setCell, World.size_drew] at *; omega) | omega) ?_
      intro A14 c14 w14 o14 gr14 at14
      have z14 := gr14.size
      try simp only [World.size_drew] at z14
      replace HB := below_grown HB gr14 o2 (by first | exact Nat.le_refl _ | (simp only [World.size_alloc, World.size_setCell, World.size_drew] at *; omega) | omega)
      have zHB14 := HB.size
      refine hK14.out _ _ ?su1x14 (fun hHeld => ?ru1x14)
      case su1x14 => ((try dsimp only); try trivial)
      try simp only [List.setIfInBounds_toArray, List.set_cons_zero, List.set_cons_succ]
      refine take_op (v := ?vu1x15) 15 (Op.assign (Operand.tmp 25)) 94 rfl rfl rfl rfl rfl (by kernel_rfl) (by kernel_rfl) (by kernel_rfl) (fun _ _ _ h => h) ?yu1x15 (by assumption) ?ru1x15
      case yu1x15 => (intro w' hSw; (try dsimp only at hSw); go_simp; try (with_reducible rfl))
      simp only [List.setIfInBounds_toArray, List.set_cons_zero, List.set_cons_succ]
      refine wpAnyH_done (by kernel_rfl) ?_ _
      clear hHeld
      have o15 := o14
      rw [← byts_cat, ← HN.out] at o15
      go_wp2_with fail
      go_roundw
      case rel => exact ⟨k + 1, c14, _, A14, by go_num, rfl, by omega, by omega, by omega, o15, HB⟩
      case measure => simp [intOf]; omega
    · have hkI : ¬ (k : Int) < (s.length : Int) := by omega
      rw [List.take_of_length_le (by omega)] at o2
      have hcv := run_bytes_str (P := Tryd.prog) wr Tryd.underlying94 Tryd.underlying5 Tryd.underlying9 (c := c2) o2.rd
      clear o2
      go_wp2_with fail
      try rw [Exit.noGoto_ret]
      go_ret
      exact ⟨rfl, HB⟩
end WanW
end Go.Proofs.YtdeiehgghhiijaaDoor

namespace Go.Proofs.YtdeiehgghhiijaaDoor
set_option linter.unusedVariables false
set_option linter.unusedSimpArgs false
set_option linter.unnecessarySimpa false
open Go.RowKit
namespace WanW

def mayV (a b : Int) : Bool := decide (0 ≤ a) && (decide (a ≤ 1000000001) && (decide (0 ≤ b) && decide (b ≤ 1000000001)))
/-- A number's digits. -/
def decL (n : Nat) : List UInt8 := if h : n < 10 then [UInt8.ofNat (48 + n)] else decL (n / 10) ++ [UInt8.ofNat (48 + n % 10)]
termination_by n
decreasing_by omega
theorem decL_len (n k : Nat) (h : n < 10 ^ (k + 1)) : (decL n).length ≤ k + 1 := by
  induction k generalizing n with
  | zero => rw [decL, dif_pos (by simpa using h)]; simp
  | succ k ih =>
    rw [decL]
    split
    · simp
    · rw [List.length_append, List.length_singleton]
      have := ih (n / 10) (by rw [Nat.pow_succ] at h; omega)
      omega
theorem dig_nat (n : Nat) (h : n < 10) : (UInt8.ofNat (48 + n)).toNat = 48 + n := by rw [UInt8.toNat_ofNat']; omega
end WanW
end Go.Proofs.YtdeiehgghhiijaaDoor

namespace Go.Proofs.YtdeiehgghhiijaaDoor
set_option linter.unusedVariables false
set_option linter.unusedSimpArgs false
set_option linter.unnecessarySimpa false
open Go.RowKit
namespace WanW

theorem str_cat (a b : List UInt8) : (⟨a.toArray⟩ : ByteArray) ++ ⟨b.toArray⟩ = ⟨(a ++ b).toArray⟩ := by
  apply ByteArray.ext
  simp
theorem dig_own (w : World) (n : Nat) (h : n < 10) : Own (w.alloc (.cells #[.int .u8 (48 + (n : Int))] 5)) w.heap.size 5 1 (some ⟨w.heap.size, 0, none⟩) 1 1 (byts [UInt8.ofNat (48 + n)]) := by
  have ho := own_new (W0 := w) (t := 5) (base := w.heap.size) (n := 1) (size := 1) (cs := byts [UInt8.ofNat (48 + n)]) rfl rfl (Nat.le_refl _) (by unfold maxLen; omega)
  have e : (byts [UInt8.ofNat (48 + n)]).toArray = #[Value.int .u8 (48 + (n : Int))] := by simp only [byts, byt, List.map_cons, List.map_nil, dig_nat n h]; rfl
  rw [e] at ho
  exact ho
set_option maxRecDepth 100000 in
set_option maxHeartbeats 4000000 in
theorem digits_small (n : Nat) (w : World) (hn10 : n < 10) : Calls Tryd.prog 26 #[.int .i64 n] w fun e w' => e = .returned (str (decL n)) ∧ Below w.heap.size w w' := by
  have hI : (n : Int) < 10 := by omega
  have h1 : IntKind.i64.wrap (48 + (n : Int)) = 48 + (n : Int) := w64k (by omega) (by omega)
  have h2 : IntKind.u8.wrap (48 + (n : Int)) = 48 + (n : Int) := by rw [IntKind.wrap_u8]; omega
  have HD := Lib.hid (show decL n = [UInt8.ofNat (48 + n)] by rw [decL, dif_pos hn10])
  have ho := dig_own w n hn10
  obtain ⟨x, hx⟩ : ∃ x, UInt8.ofNat (48 + n) = x := ⟨_, rfl⟩
  rw [hx] at ho HD
  have hcv := run_bytes_str (P := Tryd.prog) (w.alloc (.cells #[.int .u8 (48 + (n : Int))] 5)) Tryd.underlying94 Tryd.underlying5 Tryd.underlying9 (c := 1) ho.rd
  clear hx ho
  have hB := (Below.refl w.heap.size w).alloc (Nat.le_refl _) (.cells #[.int .u8 (48 + (n : Int))] 5)
  go_enter Tryd.func26, Tryd.ntmps26
  go_wp2_with fail
  go_ret
  exact ⟨by rw [HD.out]; rfl, hB⟩
set_option maxRecDepth 100000 in
set_option maxHeartbeats 4000000 in
theorem digits_any : ∀ (k n : Nat) (w : World), n < 10 ^ (k + 1) → k ≤ 12 → Calls Tryd.prog 26 #[.int .i64 n] w fun e w' => e = .returned (str (decL n)) ∧ Below w.heap.size w w' := by
  intro k
  induction k with
  | zero => intro n w hn _; exact digits_small n w (by simpa using hn)
  | succ k ih =>
    intro n w hn hk
    by_cases hn10 : n < 10
    · exact digits_small n w hn10
    · have hI : ¬ (n : Int) < 10 := by omega
      have hpw : 10 ^ (k + 1 + 1) ≤ 10 ^ 14 := Nat.pow_le_pow_right (by omega) (by omega)
      have hnb : n < 100000000000000 := by
        have : (10 : Nat) ^ 14 = 100000000000000 := by decide
        omega
      have hlen := decL_len (n / 10) k (by rw [Nat.pow_succ] at hn; omega)
      have C := fun w => ih (n / 10) w (by rw [Nat.pow_succ] at hn; omega) (by omega)
      have HD := Lib.hid (show decL n = decL (n / 10) ++ [UInt8.ofNat (48 + n % 10)] by rw [decL, dif_neg hn10])
      obtain ⟨a, ha⟩ : ∃ a, n / 10 = a := ⟨_, rfl⟩
      obtain ⟨b, hb⟩ : ∃ b, n % 10 = b := ⟨_, rfl⟩
      have hb10 : b < 10 := by omega
      have t1 : Int.tdiv (n : Int) 10 = (a : Int) := by rw [Int.tdiv_eq_ediv_of_nonneg (by omega)]; omega
      have t2 : Int.tmod (n : Int) 10 = (b : Int) := by rw [Int.tmod_eq_emod_of_nonneg (by omega)]; omega
      have t3 : IntKind.i64.wrap (a : Int) = (a : Int) := w64k (by omega) (by omega)
      have t4 : IntKind.i64.wrap (48 + (b : Int)) = 48 + (b : Int) := w64k (by omega) (by omega)
      have t5 : IntKind.u8.wrap (48 + (b : Int)) = 48 + (b : Int) := by rw [IntKind.wrap_u8]; omega
      rw [ha] at C HD hlen
      rw [hb] at HD
      obtain ⟨x, hx⟩ : ∃ x, UInt8.ofNat (48 + b) = x := ⟨_, rfl⟩
      rw [hx] at HD
      have hxn : (x.toNat : Int) = 48 + (b : Int) := by rw [← hx, dig_nat b hb10]; omega
      replace t5 : IntKind.u8.wrap (48 + (b : Int)) = (x.toNat : Int) := by rw [t5, hxn]
      have hsl : ¬ 9223372036854775807 < (decL a).length + 1 := by omega
      clear hx hxn
      have hl1 : (decL a).length ≤ 100 := by omega
      have HB := Below.refl w.heap.size w
      clear ha hb hpw hn hnb ih
      go_enter Tryd.func26, Tryd.ntmps26
      go_wp2_with fail
      refine wp_region_held_drew (S := (fun _ => True)) (by kernel_rfl) ?_ (fun hHeld => ?_)
      · replace HB := Below.drew HB; (try dsimp only); try trivial
      replace HB := Below.drew HB
      have zHB := HB.size
      refine take_movev (v := ?vu2x0) 0 (Operand.tmp 0) rfl rfl (by first | exact .inl rfl | exact .inr rfl) rfl (by kernel_rfl) (by kernel_rfl) (by kernel_rfl) (fun _ _ _ h => h) (by assumption) ?yu2x0 ?ru2x0
      case yu2x0 => (go_simp; try (with_reducible rfl))
      simp only [List.setIfInBounds_toArray, List.set_cons_zero, List.set_cons_succ]
      refine take_op (v := ?vu2x1) 1 (Op.binOp BinOp.quo 3 (Operand.tmp 10) (Operand.const (Value.int IntKind.i64 10)) 3) 3 rfl rfl rfl rfl rfl (by kernel_rfl) (by kernel_rfl) (by kernel_rfl) (fun _ _ _ h => h) ?yu2x1 (by assumption) ?ru2x1
      case yu2x1 => (intro w' hSw; (try dsimp only at hSw); go_simp; try (with_reducible rfl))
      simp only [List.setIfInBounds_toArray, List.set_cons_zero, List.set_cons_succ]
      refine take_movev (v := ?vu2x3) 3 (Operand.tmp 0) rfl rfl (by first | exact .inl rfl | exact .inr rfl) rfl (by kernel_rfl) (by kernel_rfl) (by kernel_rfl) (fun _ _ _ h => h) (by assumption) ?yu2x3 ?ru2x3
      case yu2x3 => (go_simp; try (with_reducible rfl))
      simp only [List.setIfInBounds_toArray, List.set_cons_zero, List.set_cons_succ]
      refine take_op (v := ?vu2x4) 4 (Op.binOp BinOp.rem 3 (Operand.tmp 13) (Operand.const (Value.int IntKind.i64 10)) 3) 3 rfl rfl rfl rfl rfl (by kernel_rfl) (by kernel_rfl) (by kernel_rfl) (fun _ _ _ h => h) ?yu2x4 (by assumption) ?ru2x4
      case yu2x4 => (intro w' hSw; (try dsimp only at hSw); go_simp; try (with_reducible rfl))
      simp only [List.setIfInBounds_toArray, List.set_cons_zero, List.set_cons_succ]
      refine take_op (v := ?vu2x5) 5 (Op.binOp BinOp.add 3 (Operand.const (Value.int IntKind.i64 48)) (Operand.tmp 14) 3) 3 rfl rfl rfl rfl rfl (by kernel_rfl) (by kernel_rfl) (by kernel_rfl) (fun _ _ _ h => h) ?yu2x5 (by assumption) ?ru2x5
      case yu2x5 => (intro w' hSw; (try dsimp only at hSw); go_simp; try (with_reducible rfl))
      simp only [List.setIfInBounds_toArray, List.set_cons_zero, List.set_cons_succ]
      refine take_op (v := ?vu2x6) 6 (Op.convert 3 5 (Operand.tmp 15)) 5 rfl rfl rfl rfl rfl (by kernel_rfl) (by kernel_rfl) (by kernel_rfl) (fun _ _ _ h => h) ?yu2x6 (by assumption) ?ru2x6
      case yu2x6 => (intro w' hSw; (try dsimp only at hSw); go_simp; try (with_reducible rfl))
      simp only [List.setIfInBounds_toArray, List.set_cons_zero, List.set_cons_succ]
      refine wpAnyH_ready (rs := [2, 7]) (by kernel_rfl) (by simp) (AllReadyH.cons rfl (fun K2 hK2 => ?ku2x2) (AllReadyH.cons rfl (fun K7 hK7 => ?ku2x7) AllReadyH.nil))
      case ku2x2 =>
        refine take_calls 2 26 [Operand.tmp 11] #[3] rfl rfl (by kernel_rfl) (fun args w => run_enter Tryd.func26 (by kernel_rfl) rfl args w) ?_
        refine (C _).mono ?_
        rintro e w2 ⟨rfl, hb2⟩
        refine ⟨_, rfl, ?_⟩
        have z2 := hb2.size
        try simp only [World.size_drew] at z2
        replace HB := HB.trans (hb2.mono (by first | exact HB.size | omega))
        have zHB2 := HB.size
        refine hK2.out _ _ ?su2xb1x2 (fun hHeld => ?ru2xb1x2)
        case su2xb1x2 => ((try dsimp only); try trivial)
        try simp only [List.setIfInBounds_toArray, List.set_cons_zero, List.set_cons_succ]
        refine wpAnyH_ready (rs := [7]) (by kernel_rfl) (by simp) (AllReadyH.cons rfl (fun K7 hK7 => ?ku2xb1x7) AllReadyH.nil)
        refine take_build (e := 5) (len := 1) (size := 1) (w.heap.size) (byts [x]) 7 (Op.buildSlice 94 1 #[(0, Operand.tmp 16)]) 94 rfl rfl rfl (by kernel_rfl) ?eu2xb1x7 (by rfl) (by decide) (by first | exact Nat.le_refl _ | (simp only [World.size_alloc, World.size_setCell, World.size_drew] at *; omega) | omega) ?_
        case eu2xb1x7 => (go_simp; try (first | with_reducible rfl | (simp [rcells, rcell]; done) | (simp [fcells]; done) | (simp [tcells]; done) | rfl))
        intro gx7 w7 o7 gr7 l7 m7
        have z7 := gr7.size
        try simp only [World.size_drew] at z7
        replace HB := below_grow HB gr7
        have zHB7 := HB.size
        refine hK7.out _ _ ?su2xb1x7 (fun hHeld => ?ru2xb1x7)
        case su2xb1x7 => ((try dsimp only); try trivial)
        try simp only [List.setIfInBounds_toArray, List.set_cons_zero, List.set_cons_succ]
        refine wpAnyH_ready (rs := [8]) (by kernel_rfl) (by simp) (AllReadyH.cons rfl (fun K8 hK8 => ?ku2xb1x8) AllReadyH.nil)
        refine take_any 8 (Op.convert 94 9 (Operand.tmp 17)) 9 rfl rfl rfl (by kernel_rfl) (v := str [x]) (by have hcv := fun c => run_bytes_str (P := Tryd.prog) _ Tryd.underlying94 Tryd.underlying5 Tryd.underlying9 (c := c) o7.rd; go_simp; try (with_reducible rfl)) ?_
        refine hK8.out _ _ ?su2xb1x8 (fun hHeld => ?ru2xb1x8)
        case su2xb1x8 => ((try dsimp only); try trivial)
        try simp only [List.setIfInBounds_toArray, List.set_cons_zero, List.set_cons_succ]
        refine take_op (v := ?vu2xb1x9) 9 (Op.binOp BinOp.add 9 (Operand.tmp 12) (Operand.tmp 18) 9) 9 rfl rfl rfl rfl rfl (by kernel_rfl) (by kernel_rfl) (by kernel_rfl) (fun _ _ _ h => h) ?yu2xb1x9 (by assumption) ?ru2xb1x9
        case yu2xb1x9 => (intro w' hSw; (try dsimp only at hSw); go_simp; try (with_reducible rfl))
        simp only [List.setIfInBounds_toArray, List.set_cons_zero, List.set_cons_succ]
        refine take_op (v := ?vu2xb1x10) 10 (Op.assign (Operand.tmp 19)) 9 rfl rfl rfl rfl rfl (by kernel_rfl) (by kernel_rfl) (by kernel_rfl) (fun _ _ _ h => h) ?yu2xb1x10 (by assumption) ?ru2xb1x10
        case yu2xb1x10 => (intro w' hSw; (try dsimp only at hSw); go_simp; try (with_reducible rfl))
        simp only [List.setIfInBounds_toArray, List.set_cons_zero, List.set_cons_succ]
        refine wpAnyH_done (by kernel_rfl) ?_ _
        clear hHeld
        go_wp2_with fail
        go_ret
        exact ⟨by rw [HD.out]; simp [str_cat], HB⟩
      case ku2x7 =>
        refine take_build (e := 5) (len := 1) (size := 1) (w.heap.size) (byts [x]) 7 (Op.buildSlice 94 1 #[(0, Operand.tmp 16)]) 94 rfl rfl rfl (by kernel_rfl) ?eu2xb4x7 (by rfl) (by decide) (by first | exact Nat.le_refl _ | (simp only [World.size_alloc, World.size_setCell, World.size_drew] at *; omega) | omega) ?_
        case eu2xb4x7 => (go_simp; try (first | with_reducible rfl | (simp [rcells, rcell]; done) | (simp [fcells]; done) | (simp [tcells]; done) | rfl))
        intro gx7 w7 o7 gr7 l7 m7
        have z7 := gr7.size
        try simp only [World.size_drew] at z7
        replace HB := below_grow HB gr7
        have zHB7 := HB.size
        refine hK7.out _ _ ?su2xb4x7 (fun hHeld => ?ru2xb4x7)
        case su2xb4x7 => ((try dsimp only); try trivial)
        try simp only [List.setIfInBounds_toArray, List.set_cons_zero, List.set_cons_succ]
        refine wpAnyH_ready (rs := [2, 8]) (by kernel_rfl) (by simp) (AllReadyH.cons rfl (fun K2 hK2 => ?ku2xb4x2) (AllReadyH.cons rfl (fun K8 hK8 => ?ku2xb4x8) AllReadyH.nil))
        case ku2xb4x2 =>
          refine take_calls 2 26 [Operand.tmp 11] #[3] rfl rfl (by kernel_rfl) (fun args w => run_enter Tryd.func26 (by kernel_rfl) rfl args w) ?_
          refine (C _).mono ?_
          rintro e w2 ⟨rfl, hb2⟩
          refine ⟨_, rfl, ?_⟩
          have z2 := hb2.size
          try simp only [World.size_drew] at z2
          replace HB := HB.trans (hb2.mono (by first | exact HB.size | omega))
          have zHB2 := HB.size
          replace o7 := Own.below o7 hb2
          refine hK2.out _ _ ?su2xb4xb5x2 (fun hHeld => ?ru2xb4xb5x2)
          case su2xb4xb5x2 => ((try dsimp only); try trivial)
          try simp only [List.setIfInBounds_toArray, List.set_cons_zero, List.set_cons_succ]
          refine wpAnyH_ready (rs := [8]) (by kernel_rfl) (by simp) (AllReadyH.cons rfl (fun K8 hK8 => ?ku2xb4xb5x8) AllReadyH.nil)
          refine take_any 8 (Op.convert 94 9 (Operand.tmp 17)) 9 rfl rfl rfl (by kernel_rfl) (v := str [x]) (by have hcv := fun c => run_bytes_str (P := Tryd.prog) _ Tryd.underlying94 Tryd.underlying5 Tryd.underlying9 (c := c) o7.rd; go_simp; try (with_reducible rfl)) ?_
          refine hK8.out _ _ ?su2xb4xb5x8 (fun hHeld => ?ru2xb4xb5x8)
          case su2xb4xb5x8 => ((try dsimp only); try trivial)
          try simp only [List.setIfInBounds_toArray, List.set_cons_zero, List.set_cons_succ]
          refine take_op (v := ?vu2xb4xb5x9) 9 (Op.binOp BinOp.add 9 (Operand.tmp 12) (Operand.tmp 18) 9) 9 rfl rfl rfl rfl rfl (by kernel_rfl) (by kernel_rfl) (by kernel_rfl) (fun _ _ _ h => h) ?yu2xb4xb5x9 (by assumption) ?ru2xb4xb5x9
          case yu2xb4xb5x9 => (intro w' hSw; (try dsimp only at hSw); go_simp; try (with_reducible rfl))
          simp only [List.setIfInBounds_toArray, List.set_cons_zero, List.set_cons_succ]
          refine take_op (v := ?vu2xb4xb5x10) 10 (Op.assign (Operand.tmp 19)) 9 rfl rfl rfl rfl rfl (by kernel_rfl) (by kernel_rfl) (by kernel_rfl) (fun _ _ _ h => h) ?yu2xb4xb5x10 (by assumption) ?ru2xb4xb5x10
          case yu2xb4xb5x10 => (intro w' hSw; (try dsimp only at hSw); go_simp; try (with_reducible rfl))
          simp only [List.setIfInBounds_toArray, List.set_cons_zero, List.set_cons_succ]
          refine wpAnyH_done (by kernel_rfl) ?_ _
          clear hHeld
          go_wp2_with fail
          go_ret
          exact ⟨by rw [HD.out]; simp [str_cat], HB⟩
        case ku2xb4x8 =>
          refine take_any 8 (Op.convert 94 9 (Operand.tmp 17)) 9 rfl rfl rfl (by kernel_rfl) (v := str [x]) (by have hcv := fun c => run_bytes_str (P := Tryd.prog) _ Tryd.underlying94 Tryd.underlying5 Tryd.underlying9 (c := c) o7.rd; go_simp; try (with_reducible rfl)) ?_
          refine hK8.out _ _ ?su2xb4xb7x8 (fun hHeld => ?ru2xb4xb7x8)
          case su2xb4xb7x8 => ((try dsimp only); try trivial)
          try simp only [List.setIfInBounds_toArray, List.set_cons_zero, List.set_cons_succ]
          refine wpAnyH_ready (rs := [2]) (by kernel_rfl) (by simp) (AllReadyH.cons rfl (fun K2 hK2 => ?ku2xb4xb7x2) AllReadyH.nil)
          refine take_calls 2 26 [Operand.tmp 11] #[3] rfl rfl (by kernel_rfl) (fun args w => run_enter Tryd.func26 (by kernel_rfl) rfl args w) ?_
          refine (C _).mono ?_
          rintro e w2 ⟨rfl, hb2⟩
          refine ⟨_, rfl, ?_⟩
          have z2 := hb2.size
          try simp only [World.size_drew] at z2
          replace HB := HB.trans (hb2.mono (by first | exact HB.size | omega))
          have zHB2 := HB.size
          replace o7 := Own.below o7 hb2
          refine hK2.out _ _ ?su2xb4xb7x2 (fun hHeld => ?ru2xb4xb7x2)
          case su2xb4xb7x2 => ((try dsimp only); try trivial)
          try simp only [List.setIfInBounds_toArray, List.set_cons_zero, List.set_cons_succ]
          refine take_op (v := ?vu2xb4xb7x9) 9 (Op.binOp BinOp.add 9 (Operand.tmp 12) (Operand.tmp 18) 9) 9 rfl rfl rfl rfl rfl (by kernel_rfl) (by kernel_rfl) (by kernel_rfl) (fun _ _ _ h => h) ?yu2xb4xb7x9 (by assumption) ?ru2xb4xb7x9
          case yu2xb4xb7x9 => (intro w' hSw; (try dsimp only at hSw); go_simp; try (with_reducible rfl))
          simp only [List.setIfInBounds_toArray, List.set_cons_zero, List.set_cons_succ]
          refine take_op (v := ?vu2xb4xb7x10) 10 (Op.assign (Operand.tmp 19)) 9 rfl rfl rfl rfl rfl (by kernel_rfl) (by kernel_rfl) (by kernel_rfl) (fun _ _ _ h => h) ?yu2xb4xb7x10 (by assumption) ?ru2xb4xb7x10
          case yu2xb4xb7x10 => (intro w' hSw; (try dsimp only at hSw); go_simp; try (with_reducible rfl))
          simp only [List.setIfInBounds_toArray, List.set_cons_zero, List.set_cons_succ]
          refine wpAnyH_done (by kernel_rfl) ?_ _
          clear hHeld
          go_wp2_with fail
          go_ret
          exact ⟨by rw [HD.out]; simp [str_cat], HB⟩
end WanW
end Go.Proofs.YtdeiehgghhiijaaDoor
