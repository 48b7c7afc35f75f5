/- The walks of the reference of package want: a number's digits. -/
import Derived.Test.YtdeiehgghhiijaaDoorWanE
namespace Go.Proofs.YtdeiehgghhiijaaDoor
set_option linter.unusedVariables false
set_option linter.unusedSimpArgs false
set_option linter.unnecessarySimpa false
open Go.RowKit
namespace WanW

theorem str_cat (a b : List UInt8) : (⟨a.toArray⟩ : ByteArray) ++ ⟨b.toArray⟩ = ⟨(a ++ b).toArray⟩ := by
  apply ByteArray.ext
  simp
theorem dig_own (w : World) (n : Nat) (h : n < 10) : Own (w.alloc (.cells #[.int .u8 (48 + (n : Int))] 5)) w.heap.size 5 1 (some ⟨w.heap.size, 0, none⟩) 1 1 (byts [UInt8.ofNat (48 + n)]) := by
  have ho := own_new (W0 := w) (t := 5) (base := w.heap.size) (n := 1) (size := 1) (cs := byts [UInt8.ofNat (48 + n)]) rfl rfl (Nat.le_refl _) (by unfold maxLen; omega)
  have e : (byts [UInt8.ofNat (48 + n)]).toArray = #[Value.int .u8 (48 + (n : Int))] := by simp only [byts, byt, List.map_cons, List.map_nil, dig_nat n h]; rfl
  rw [e] at ho
  exact ho
set_option maxRecDepth 100000 in
set_option maxHeartbeats 4000000 in
theorem digits_small (n : Nat) (w : World) (hn10 : n < 10) : Calls Tryd.prog 26 #[.int .i64 n] w fun e w' => e = .returned (str (decL n)) ∧ Below w.heap.size w w' := by
  have hI : (n : Int) < 10 := by omega
  have h1 : IntKind.i64.wrap (48 + (n : Int)) = 48 + (n : Int) := w64k (by omega) (by omega)
  have h2 : IntKind.u8.wrap (48 + (n : Int)) = 48 + (n : Int) := by rw [IntKind.wrap_u8]; omega
  have HD := Lib.hid (show decL n = [UInt8.ofNat (48 + n)] by rw [decL, dif_pos hn10])
  have ho := dig_own w n hn10
  obtain ⟨x, hx⟩ : ∃ x, UInt8.ofNat (48 + n) = x := ⟨_, rfl⟩
  rw [hx] at ho HD
  have hcv := run_bytes_str (P := Tryd.prog) (w.alloc (.cells #[.int .u8 (48 + (n : Int))] 5)) Tryd.underlying94 Tryd.underlying5 Tryd.underlying9 (c := 1) ho.rd
  clear hx ho
  have hB := (Below.refl w.heap.size w).alloc (Nat.le_refl _) (.cells #[.int .u8 (48 + (n : Int))] 5)
  go_enter Tryd.func26, Tryd.ntmps26
  go_wp2_with fail
  go_ret
  exact ⟨by rw [HD.out]; rfl, hB⟩
set_option maxRecDepth 100000 in
set_option maxHeartbeats 4000000 in
theorem digits_any : ∀ (k n : Nat) (w : World), n < 10 ^ (k + 1) → k ≤ 12 → Calls Tryd.prog 26 #[.int .i64 n] w fun e w' => e = .returned (str (decL n)) ∧ Below w.heap.size w w' := by
  intro k
  induction k with
  | zero => intro n w hn _; exact digits_small n w (by simpa using hn)
  | succ k ih =>
    intro n w hn hk
    by_cases hn10 : n < 10
    · exact digits_small n w hn10
    · have hI : ¬ (n : Int) < 10 := by omega
      have hpw : 10 ^ (k + 1 + 1) ≤ 10 ^ 14 := Nat.pow_le_pow_right (by omega) (by omega)
      have hnb : n < 100000000000000 := by
        have : (10 : Nat) ^ 14 = 100000000000000 := by decide
        omega
      have hlen := decL_len (n / 10) k (by rw [Nat.pow_succ] at hn; omega)
      have C := fun w => ih (n / 10) w (by rw [Nat.pow_succ] at hn; omega) (by omega)
      have HD := Lib.hid (show decL n = decL (n / 10) ++ [UInt8.ofNat (48 + n % 10)] by rw [decL, dif_neg hn10])
      obtain ⟨a, ha⟩ : ∃ a, n / 10 = a := ⟨_, rfl⟩
      obtain ⟨b, hb⟩ : ∃ b, n % 10 = b := ⟨_, rfl⟩
      have hb10 : b < 10 := by omega
      have t1 : Int.tdiv (n : Int) 10 = (a : Int) := by rw [Int.tdiv_eq_ediv_of_nonneg (by omega)]; omega
      have t2 : Int.tmod (n : Int) 10 = (b : Int) := by rw [Int.tmod_eq_emod_of_nonneg (by omega)]; omega
      have t3 : IntKind.i64.wrap (a : Int) = (a : Int) := w64k (by omega) (by omega)
      have t4 : IntKind.i64.wrap (48 + (b : Int)) = 48 + (b : Int) := w64k (by omega) (by omega)
      have t5 : IntKind.u8.wrap (48 + (b : Int)) = 48 + (b : Int) := by rw [IntKind.wrap_u8]; omega
      rw [ha] at C HD hlen
      rw [hb] at HD
      obtain ⟨x, hx⟩ : ∃ x, UInt8.ofNat (48 + b) = x := ⟨_, rfl⟩
      rw [hx] at HD
      have hxn : (x.toNat : Int) = 48 + (b : Int) := by rw [← hx, dig_nat b hb10]; omega
      replace t5 : IntKind.u8.wrap (48 + (b : Int)) = (x.toNat : Int) := by rw [t5, hxn]
      have hsl : ¬ 9223372036854775807 < (decL a).length + 1 := by omega
      clear hx hxn
      have hl1 : (decL a).length ≤ 100 := by omega
      have HB := Below.refl w.heap.size w
      clear ha hb hpw hn hnb ih
      go_enter Tryd.func26, Tryd.ntmps26
      go_wp2_with fail
      refine wp_region_held_drew (S := (fun _ => True)) (by kernel_rfl) ?_ (fun hHeld => ?_)
      · replace HB := Below.drew HB; (try dsimp only); try trivial
      replace HB := Below.drew HB
      have zHB := HB.size
      refine take_movev (v := ?vu1x0) 0 (Operand.tmp 0) rfl rfl (by first | exact .inl rfl | exact .inr rfl) rfl (by kernel_rfl) (by kernel_rfl) (by kernel_rfl) (fun _ _ _ h => h) (by assumption) ?yu1x0 ?ru1x0
      case yu1x0 => (go_simp; try (with_reducible rfl))
      simp only [List.setIfInBounds_toArray, List.set_cons_zero, List.set_cons_succ]
      refine take_op (v := ?vu1x1) 1 (Op.binOp BinOp.quo 3 (Operand.tmp 10) (Operand.const (Value.int IntKind.i64 10)) 3) 3 rfl rfl rfl rfl rfl (by kernel_rfl) (by kernel_rfl) (by kernel_rfl) (fun _ _ _ h => h) ?yu1x1 (by assumption) ?ru1x1
      case yu1x1 => (intro w' hSw; (try dsimp only at hSw); go_simp; try (with_reducible rfl))
      simp only [List.setIfInBounds_toArray, List.set_cons_zero, List.set_cons_succ]
      refine take_movev (v := ?vu1x3) 3 (Operand.tmp 0) rfl rfl (by first | exact .inl rfl | exact .inr rfl) rfl (by kernel_rfl) (by kernel_rfl) (by kernel_rfl) (fun _ _ _ h => h) (by assumption) ?yu1x3 ?ru1x3
      case yu1x3 => (go_simp; try (with_reducible rfl))
      simp only [List.setIfInBounds_toArray, List.set_cons_zero, List.set_cons_succ]
      refine take_op (v := ?vu1x4) 4 (Op.binOp BinOp.rem 3 (Operand.tmp 13) (Operand.const (Value.int IntKind.i64 10)) 3) 3 rfl rfl rfl rfl rfl (by kernel_rfl) (by kernel_rfl) (by kernel_rfl) (fun _ _ _ h => h) ?yu1x4 (by assumption) ?ru1x4
      case yu1x4 => (intro w' hSw; (try dsimp only at hSw); go_simp; try (with_reducible rfl))
      simp only [List.setIfInBounds_toArray, List.set_cons_zero, List.set_cons_succ]
      refine take_op (v := ?vu1x5) 5 (Op.binOp BinOp.add 3 (Operand.const (Value.int IntKind.i64 48)) (Operand.tmp 14) 3) 3 rfl rfl rfl rfl rfl (by kernel_rfl) (by kernel_rfl) (by kernel_rfl) (fun _ _ _ h => h) ?yu1x5 (by assumption) ?ru1x5
      case yu1x5 => (intro w' hSw; (try dsimp only at hSw); go_simp; try (with_reducible rfl))
      simp only [List.setIfInBounds_toArray, List.set_cons_zero, List.set_cons_succ]
      refine take_op (v := ?vu1x6) 6 (Op.convert 3 5 (Operand.tmp 15)) 5 rfl rfl rfl rfl rfl (by kernel_rfl) (by kernel_rfl) (by kernel_rfl) (fun _ _ _ h => h) ?yu1x6 (by assumption) ?ru1x6
      case yu1x6 => (intro w' hSw; (try dsimp only at hSw); go_simp; try (with_reducible rfl))
      simp only [List.setIfInBounds_toArray, List.set_cons_zero, List.set_cons_succ]
      refine wpAnyH_ready (rs := [2, 7]) (by kernel_rfl) (by simp) (AllReadyH.cons rfl (fun K2 hK2 => ?ku1x2) (AllReadyH.cons rfl (fun K7 hK7 => ?ku1x7) AllReadyH.nil))
      case ku1x2 =>
        refine take_calls 2 26 [Operand.tmp 11] #[3] rfl rfl (by kernel_rfl) (fun args w => run_enter Tryd.func26 (by kernel_rfl) rfl args w) ?_
        refine (C _).mono ?_
        rintro e w2 ⟨rfl, hb2⟩
        refine ⟨_, rfl, ?_⟩
        have z2 := hb2.size
        try simp only [World.size_drew] at z2
        replace HB := HB.trans (hb2.mono (by first | exact HB.size | omega))
        have zHB2 := HB.size
        refine hK2.out _ _ ?su1xb1x2 (fun hHeld => ?ru1xb1x2)
        case su1xb1x2 => ((try dsimp only); try trivial)
        try simp only [List.setIfInBounds_toArray, List.set_cons_zero, List.set_cons_succ]
        refine wpAnyH_ready (rs := [7]) (by kernel_rfl) (by simp) (AllReadyH.cons rfl (fun K7 hK7 => ?ku1xb1x7) AllReadyH.nil)
        refine take_build (e := 5) (len := 1) (size := 1) (w.heap.size) (byts [x]) 7 (Op.buildSlice 94 1 #[(0, Operand.tmp 16)]) 94 rfl rfl rfl (by kernel_rfl) ?eu1xb1x7 (by rfl) (by decide) (by first | exact Nat.le_refl _ | (simp only [World.size_alloc, World.size_setCell, World.size_drew] at *; omega) | omega) ?_
        case eu1xb1x7 => (go_simp; try (first | with_reducible rfl | (simp [rcells, rcell]; done) | (simp [fcells]; done) | (simp [tcells]; done) | rfl))
        intro gx7 w7 o7 gr7 l7 m7
        have z7 := gr7.size
        try simp only [World.size_drew] at z7
        replace HB := below_grow HB gr7
        have zHB7 := HB.size
        refine hK7.out _ _ ?su1xb1x7 (fun hHeld => ?ru1xb1x7)
        case su1xb1x7 => ((try dsimp only); try trivial)
        try simp only [List.setIfInBounds_toArray, List.set_cons_zero, List.set_cons_succ]
        refine wpAnyH_ready (rs := [8]) (by kernel_rfl) (by simp) (AllReadyH.cons rfl (fun K8 hK8 => ?ku1xb1x8) AllReadyH.nil)
        refine take_any 8 (Op.convert 94 9 (Operand.tmp 17)) 9 rfl rfl rfl (by kernel_rfl) (v := str [x]) (by have hcv := fun c => run_bytes_str (P := Tryd.prog) _ Tryd.underlying94 Tryd.underlying5 Tryd.underlying9 (c := c) o7.rd; go_simp; try (with_reducible rfl)) ?_
        refine hK8.out _ _ ?su1xb1x8 (fun hHeld => ?ru1xb1x8)
        case su1xb1x8 => ((try dsimp only); try trivial)
        try simp only [List.setIfInBounds_toArray, List.set_cons_zero, List.set_cons_succ]
        refine take_op (v := ?vu1xb1x9) 9 (Op.binOp BinOp.add 9 (Operand.tmp 12) (Operand.tmp 18) 9) 9 rfl rfl rfl rfl rfl (by kernel_rfl) (by kernel_rfl) (by kernel_rfl) (fun _ _ _ h => h) ?yu1xb1x9 (by assumption) ?ru1xb1x9
        case yu1xb1x9 => (intro w' hSw; (try dsimp only at hSw); go_simp; try (with_reducible rfl))
        simp only [List.setIfInBounds_toArray, List.set_cons_zero, List.set_cons_succ]
        refine take_op (v := ?vu1xb1x10) 10 (Op.assign (Operand.tmp 19)) 9 rfl rfl rfl rfl rfl (by kernel_rfl) (by kernel_rfl) (by kernel_rfl) (fun _ _ _ h => h) ?yu1xb1x10 (by assumption) ?ru1xb1x10
        case yu1xb1x10 => (intro w' hSw; (try dsimp only at hSw); go_simp; try (with_reducible rfl))
        simp only [List.setIfInBounds_toArray, List.set_cons_zero, List.set_cons_succ]
        refine wpAnyH_done (by kernel_rfl) ?_ _
        clear hHeld
        go_wp2_with fail
        go_ret
        exact ⟨by rw [HD.out]; simp [str_cat], HB⟩
      case ku1x7 =>
        refine take_build (e := 5) (len := 1) (size := 1) (w.heap.size) (byts [x]) 7 (Op.buildSlice 94 1 #[(0, Operand.tmp 16)]) 94 rfl rfl rfl (by kernel_rfl) ?eu1xb4x7 (by rfl) (by decide) (by first | exact Nat.le_refl _ | (simp only [World.size_alloc, World.size_setCell, World.size_drew] at *; omega) | omega) ?_
        case eu1xb4x7 => (go_simp; try (first | with_reducible rfl | (simp [rcells, rcell]; done) | (simp [fcells]; done) | (simp [tcells]; done) | rfl))
        intro gx7 w7 o7 gr7 l7 m7
        have z7 := gr7.size
        try simp only [World.size_drew] at z7
        replace HB := below_grow HB gr7
        have zHB7 := HB.size
        refine hK7.out _ _ ?su1xb4x7 (fun hHeld => ?ru1xb4x7)
        case su1xb4x7 => ((try dsimp only); try trivial)
        try simp only [List.setIfInBounds_toArray, List.set_cons_zero, List.set_cons_succ]
        refine wpAnyH_ready (rs := [2, 8]) (by kernel_rfl) (by simp) (AllReadyH.cons rfl (fun K2 hK2 => ?ku1xb4x2) (AllReadyH.cons rfl (fun K8 hK8 => ?ku1xb4x8) AllReadyH.nil))
        case ku1xb4x2 =>
          refine take_calls 2 26 [Operand.tmp 11] #[3] rfl rfl (by kernel_rfl) (fun args w => run_enter Tryd.func26 (by kernel_rfl) rfl args w) ?_
          refine (C _).mono ?_
          rintro e w2 ⟨rfl, hb2⟩
          refine ⟨_, rfl, ?_⟩
          have z2 := hb2.size
          try simp only [World.size_drew] at z2
          replace HB := HB.trans (hb2.mono (by first | exact HB.size | omega))
          have zHB2 := HB.size
          replace o7 := Own.below o7 hb2
          refine hK2.out _ _ ?su1xb4xb5x2 (fun hHeld => ?ru1xb4xb5x2)
          case su1xb4xb5x2 => ((try dsimp only); try trivial)
          try simp only [List.setIfInBounds_toArray, List.set_cons_zero, List.set_cons_succ]
          refine wpAnyH_ready (rs := [8]) (by kernel_rfl) (by simp) (AllReadyH.cons rfl (fun K8 hK8 => ?ku1xb4xb5x8) AllReadyH.nil)
          refine take_any 8 (Op.convert 94 9 (Operand.tmp 17)) 9 rfl rfl rfl (by kernel_rfl) (v := str [x]) (by have hcv := fun c => run_bytes_str (P := Tryd.prog) _ Tryd.underlying94 Tryd.underlying5 Tryd.underlying9 (c := c) o7.rd; go_simp; try (with_reducible rfl)) ?_
          refine hK8.out _ _ ?su1xb4xb5x8 (fun hHeld => ?ru1xb4xb5x8)
          case su1xb4xb5x8 => ((try dsimp only); try trivial)
          try simp only [List.setIfInBounds_toArray, List.set_cons_zero, List.set_cons_succ]
          refine take_op (v := ?vu1xb4xb5x9) 9 (Op.binOp BinOp.add 9 (Operand.tmp 12) (Operand.tmp 18) 9) 9 rfl rfl rfl rfl rfl (by kernel_rfl) (by kernel_rfl) (by kernel_rfl) (fun _ _ _ h => h) ?yu1xb4xb5x9 (by assumption) ?ru1xb4xb5x9
          case yu1xb4xb5x9 => (intro w' hSw; (try dsimp only at hSw); go_simp; try (with_reducible rfl))
          simp only [List.setIfInBounds_toArray, List.set_cons_zero, List.set_cons_succ]
          refine take_op (v := ?vu1xb4xb5x10) 10 (Op.assign (Operand.tmp 19)) 9 rfl rfl rfl rfl rfl (by kernel_rfl) (by kernel_rfl) (by kernel_rfl) (fun _ _ _ h => h) ?yu1xb4xb5x10 (by assumption) ?ru1xb4xb5x10
          case yu1xb4xb5x10 => (intro w' hSw; (try dsimp only at hSw); go_simp; try (with_reducible rfl))
          simp only [List.setIfInBounds_toArray, List.set_cons_zero, List.set_cons_succ]
          refine wpAnyH_done (by kernel_rfl) ?_ _
          clear hHeld
          go_wp2_with fail
          go_ret
          exact ⟨by rw [HD.out]; simp [str_cat], HB⟩
        case ku1xb4x8 =>
          refine take_any 8 (Op.convert 94 9 (Operand.tmp 17)) 9 rfl rfl rfl (by kernel_rfl) (v := str [x]) (by have hcv := fun c => run_bytes_str (P := Tryd.prog) _ Tryd.underlying94 Tryd.underlying5 Tryd.underlying9 (c := c) o7.rd; go_simp; try (with_reducible rfl)) ?_
          refine hK8.out _ _ ?su1xb4xb7x8 (fun hHeld => ?ru1xb4xb7x8)
          case su1xb4xb7x8 => ((try dsimp only); try trivial)
          try simp only [List.setIfInBounds_toArray, List.set_cons_zero, List.set_cons_succ]
          refine wpAnyH_ready (rs := [2]) (by kernel_rfl) (by simp) (AllReadyH.cons rfl (fun K2 hK2 => ?ku1xb4xb7x2) AllReadyH.nil)
          refine take_calls 2 26 [Operand.tmp 11] #[3] rfl rfl (by kernel_rfl) (fun args w => run_enter Tryd.func26 (by kernel_rfl) rfl args w) ?_
          refine (C _).mono ?_
          rintro e w2 ⟨rfl, hb2⟩
          refine ⟨_, rfl, ?_⟩
          have z2 := hb2.size
          try simp only [World.size_drew] at z2
          replace HB := HB.trans (hb2.mono (by first | exact HB.size | omega))
          have zHB2 := HB.size
          replace o7 := Own.below o7 hb2
          refine hK2.out _ _ ?su1xb4xb7x2 (fun hHeld => ?ru1xb4xb7x2)
          case su1xb4xb7x2 => ((try dsimp only); try trivial)
          try simp only [List.setIfInBounds_toArray, List.set_cons_zero, List.set_cons_succ]
          refine take_op (v := ?vu1xb4xb7x9) 9 (Op.binOp BinOp.add 9 (Operand.tmp 12) (Operand.tmp 18) 9) 9 rfl rfl rfl rfl rfl (by kernel_rfl) (by kernel_rfl) (by kernel_rfl) (fun _ _ _ h => h) ?yu1xb4xb7x9 (by assumption) ?ru1xb4xb7x9
          case yu1xb4xb7x9 => (intro w' hSw; (try dsimp only at hSw); go_simp; try (with_reducible rfl))
          simp only [List.setIfInBounds_toArray, List.set_cons_zero, List.set_cons_succ]
          refine take_op (v := ?vu1xb4xb7x10) 10 (Op.assign (Operand.tmp 19)) 9 rfl rfl rfl rfl rfl (by kernel_rfl) (by kernel_rfl) (by kernel_rfl) (fun _ _ _ h => h) ?yu1xb4xb7x10 (by assumption) ?ru1xb4xb7x10
          case yu1xb4xb7x10 => (intro w' hSw; (try dsimp only at hSw); go_simp; try (with_reducible rfl))
          simp only [List.setIfInBounds_toArray, List.set_cons_zero, List.set_cons_succ]
          refine wpAnyH_done (by kernel_rfl) ?_ _
          clear hHeld
          go_wp2_with fail
          go_ret
          exact ⟨by rw [HD.out]; simp [str_cat], HB⟩
end WanW
end Go.Proofs.YtdeiehgghhiijaaDoor
