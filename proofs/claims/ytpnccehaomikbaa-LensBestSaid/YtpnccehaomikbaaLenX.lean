/- The walks of package lens: two rows that are sorted are merged: one behind a row. -/
import Derived.Test.YtpnccehaomikbaaLenU
namespace Go.Proofs.Ytpnccehaomikbaa
set_option linter.unusedVariables false
set_option linter.unusedSimpArgs false
set_option linter.unnecessarySimpa false
open Go.RowKit
namespace LenW

set_option maxRecDepth 100000 in
set_option maxHeartbeats 8000000 in
theorem sym_end (base : Nat) (A0 : Option Addr) (N c : Nat) (P M1 T : List (Int × Int)) (y : Int × Int) (w : World) (a m b : Nat) (ha : P.length = a) (hm : a + M1.length = m) (hb : m + 1 = b) (hN : P.length + M1.length + 1 + T.length = N) (hN3 : N ≤ 1000) (h2 : 2 ≤ M1.length)
    (hM1 : upW M1) (ho : Own w base 39 2 A0 N c (fcells (P ++ (M1 ++ (y :: T))))) (hbs : base ≤ w.heap.size) : MergeOk base A0 N c P M1 [y] T w a m b := by
  unfold MergeOk
  obtain ⟨l1, hl1⟩ : ∃ l, M1.length = l := ⟨_, rfl⟩
  obtain ⟨t0, ht0⟩ : ∃ t, T.length = t := ⟨_, rfl⟩
  rw [hl1] at hm hN h2
  rw [ht0, ha] at hN
  have hbN : b ≤ N := by omega
  have ham1 : a + l1 ≤ m := by omega
  have ham2 : m ≤ a + l1 := by omega
  have hmb1 : m + 1 ≤ b := by omega
  have hmb2 : b ≤ m + 1 := by omega
  have hw1 : IntKind.i64.wrap ((m : Int) - (a : Int)) = (l1 : Int) := (w64k (by omega) (by omega)).trans (by omega)
  have hw2 : IntKind.i64.wrap ((b : Int) - (m : Int)) = 1 := (w64k (by omega) (by omega)).trans (by omega)
  have hl11 : ¬ (l1 : Int) = 1 := by omega
  have hl12 : ((l1 : Int) == 1) = false := by simp; omega
  have HL1 := Lib.hid hl1
  have HA := Lib.hid ha
  have HT0 := Lib.hid ht0
  have HM1 := Lib.hid hM1
  clear hl1 ha ht0 hm hb hN hM1
  obtain ⟨y1, y2⟩ := y
  obtain ⟨g, rfl⟩ : ∃ g, A0 = some ⟨g, 0, none⟩ := by
    rcases ho.shape with ⟨_, h0, _⟩ | ⟨g, e, _⟩
    · omega
    · exact ⟨g, e⟩
  have hg0 : base ≤ g := (ho.blk g rfl).1
  go_enter Try.func36, Try.ntmps36
  go_wp2_with fail
  go_loopw [14, 15] (fun s r wr => ∃ i j : Nat, s = .int .i64 i ∧ r = .int .i64 j ∧ a ≤ i ∧ i ≤ j ∧ j ≤ m ∧ (∀ t (ht : t < M1.length), t + a < i → (M1[t]).1 ≤ y1) ∧ (∀ t (ht : t < M1.length), j ≤ t + a → y1 < (M1[t]).1) ∧ Own wr base 39 2 (some ⟨g, 0, none⟩) N c (fcells (P ++ (M1 ++ ((y1, y2) :: T)))) ∧ Below base w wr) (fun s r _ => (intOf r).toNat - (intOf s).toNat)
  case atStart => exact ⟨a, m, rfl, rfl, Nat.le_refl _, by omega, Nat.le_refl _, fun t _ h => absurd h (by omega), fun t ht h => absurd h (by have := HL1.out; omega), ho, Below.refl _ _⟩
  case round =>
    clear ho
    obtain ⟨i, j, rfl, rfl, hi, hij, hj, hlo, hhi, o2, HB⟩ := hrel
    have hz := HB.size
    have HLO := Lib.hid hlo
    have HHI := Lib.hid hhi
    clear hlo hhi
    by_cases hlt : i < j
    · have hltI : (i : Int) < (j : Int) := by omega
      obtain ⟨h, hh⟩ : ∃ h, (i + j) / 2 = h := ⟨_, rfl⟩
      have hh1 : i ≤ h := by omega
      have hh2 : h < j := by omega
      have hij1 : IntKind.i64.wrap ((i : Int) + (j : Int)) = ((i + j : Nat) : Int) := (w64k (by omega) (by omega)).trans (by omega)
      have hhI : ((i : Int) + (j : Int)) / 2 = (h : Int) := by omega
      obtain ⟨t, ht⟩ : ∃ t, h = a + t := ⟨h - a, by omega⟩
      have htl : t < M1.length := by have := HL1.out; omega
      obtain ⟨z, hz0⟩ : ∃ z, M1[t] = z := ⟨_, rfl⟩
      have hLl : (P ++ (M1 ++ ((y1, y2) :: T))).length = N := by have := o2.len; rw [fcells_len] at this; omega
      have e1 : (P ++ (M1 ++ ((y1, y2) :: T)))[h]'(by omega) = z := by
        rw [List.getElem_append_right (by have := HA.out; omega)]
        have : h - P.length = t := by have := HA.out; omega
        simp only [this]
        rw [List.getElem_append_left htl, hz0]
      have e2 : (P ++ (M1 ++ ((y1, y2) :: T)))[m]'(by omega) = (y1, y2) := by
        rw [List.getElem_append_right (by have := HA.out; omega), List.getElem_append_right (by have := HA.out; have := HL1.out; omega)]
        have : m - P.length - M1.length = 0 := by have := HA.out; have := HL1.out; omega
        simp only [this, List.getElem_cons_zero]
      have K1 := cells_at _ h (by omega) z e1
      have K2 := cells_at _ m (by omega) (y1, y2) e2
      obtain ⟨z1, z2⟩ := z
      dsimp only at K1 K2
      have KK := Lib.hid (And.intro K1 K2)
      have HZ := Lib.hid hz0
      have HT := Lib.hid ht
      obtain ⟨v, hv⟩ : ∃ v, cmpV y1 z1 = v := ⟨_, rfl⟩
      have hvl := cmpV_lt y1 z1
      rw [hv] at hvl
      have HVL := Lib.hid hvl
      have HT1 := Lib.hid htl
      have hh0 : (0 : Int) ≤ (h : Int) := by omega
      have hm0 : (0 : Int) ≤ (m : Int) := by omega
      have hhN : (h : Int) < (N : Int) := by omega
      have hmN : (m : Int) < (N : Int) := by omega
      have hh3 : IntKind.i64.wrap ((h : Int) + 1) = (h : Int) + 1 := w64k (by omega) (by omega)
      clear hh K1 K2 e1 e2 hz0 ht hvl hLl
      by_cases hv0 : v < 0
      · have hzx := HVL.out.1 hv0
        have hnd : (!decide (v < 0)) = false := by simp [hv0]
        have HHI2 := Lib.hid (show ∀ t' (ht : t' < M1.length), h ≤ t' + a → y1 < (M1[t']).1 from fun t' ht' hle => by
          have h1 := up_get HM1.out t t' (by have := HT.out; omega) ht'
          rw [HZ.out] at h1
          dsimp only at h1
          omega)
        clear hzx
        go_wp2_with fail
        refine wp_region_held_drew (S := (fun w' => w'.cell? ⟨g, h * 2, none⟩ = some (.int .i64 z1) ∧ w'.cell? ⟨g, h * 2 + 1, none⟩ = some (.int .i64 z2) ∧ w'.cell? ⟨g, m * 2, none⟩ = some (.int .i64 y1) ∧ w'.cell? ⟨g, m * 2 + 1, none⟩ = some (.int .i64 y2))) (by kernel_rfl) ?_ (fun hHeld => ?_)
        · replace HB := Below.drew HB; replace o2 := Own.drew o2; (try dsimp only); exact ⟨own_cell o2 _ KK.out.1.1, own_cell o2 _ KK.out.1.2, own_cell o2 _ KK.out.2.1, own_cell o2 _ KK.out.2.2⟩
        replace HB := Below.drew HB
        replace o2 := Own.drew o2
        have zHB := HB.size
        refine take_movev (v := ?vu1x0) 0 (Operand.tmp 4) rfl rfl (by first | exact .inl rfl | exact .inr rfl) rfl (by kernel_rfl) (by kernel_rfl) (by kernel_rfl) (fun _ _ _ h => h) (by assumption) ?yu1x0 ?ru1x0
        case yu1x0 => (go_simp; try (with_reducible rfl))
        simp only [List.setIfInBounds_toArray, List.set_cons_zero, List.set_cons_succ]
        refine take_movev (v := ?vu1x1) 1 (Operand.tmp 0) rfl rfl (by first | exact .inl rfl | exact .inr rfl) rfl (by kernel_rfl) (by kernel_rfl) (by kernel_rfl) (fun _ _ _ h => h) (by assumption) ?yu1x1 ?ru1x1
        case yu1x1 => (go_simp; try (with_reducible rfl))
        simp only [List.setIfInBounds_toArray, List.set_cons_zero, List.set_cons_succ]
        refine take_movev (v := ?vu1x2) 2 (Operand.tmp 2) rfl rfl (by first | exact .inl rfl | exact .inr rfl) rfl (by kernel_rfl) (by kernel_rfl) (by kernel_rfl) (fun _ _ _ h => h) (by assumption) ?yu1x2 ?ru1x2
        case yu1x2 => (go_simp; try (with_reducible rfl))
        simp only [List.setIfInBounds_toArray, List.set_cons_zero, List.set_cons_succ]
        refine take_op (v := ?vu1x3) 3 (Op.indexAddr 36 (Operand.tmp 93) (Operand.tmp 94)) 0 rfl rfl rfl rfl rfl (by kernel_rfl) (by kernel_rfl) (by kernel_rfl) (fun _ _ _ h => h) ?yu1x3 (by assumption) ?ru1x3
        case yu1x3 => (intro w' hSw; (try dsimp only at hSw); go_simp; try (with_reducible rfl))
        simp only [List.setIfInBounds_toArray, List.set_cons_zero, List.set_cons_succ]
        refine take_op (v := ?vu1x4) 4 (Op.load 39 (Operand.tmp 95)) 39 rfl rfl rfl rfl rfl (by kernel_rfl) (by kernel_rfl) (by kernel_rfl) (fun _ _ _ h => h) ?yu1x4 (by assumption) ?ru1x4
        case yu1x4 => (intro w' hSw; (try dsimp only at hSw); go_simp; try (with_reducible rfl))
        simp only [List.setIfInBounds_toArray, List.set_cons_zero, List.set_cons_succ]
        refine take_movev (v := ?vu1x5) 5 (Operand.tmp 0) rfl rfl (by first | exact .inl rfl | exact .inr rfl) rfl (by kernel_rfl) (by kernel_rfl) (by kernel_rfl) (fun _ _ _ h => h) (by assumption) ?yu1x5 ?ru1x5
        case yu1x5 => (go_simp; try (with_reducible rfl))
        simp only [List.setIfInBounds_toArray, List.set_cons_zero, List.set_cons_succ]
        refine take_movev (v := ?vu1x6) 6 (Operand.tmp 16) rfl rfl (by first | exact .inl rfl | exact .inr rfl) rfl (by kernel_rfl) (by kernel_rfl) (by kernel_rfl) (fun _ _ _ h => h) (by assumption) ?yu1x6 ?ru1x6
        case yu1x6 => (go_simp; try (with_reducible rfl))
        simp only [List.setIfInBounds_toArray, List.set_cons_zero, List.set_cons_succ]
        refine take_op (v := ?vu1x7) 7 (Op.indexAddr 36 (Operand.tmp 97) (Operand.tmp 98)) 0 rfl rfl rfl rfl rfl (by kernel_rfl) (by kernel_rfl) (by kernel_rfl) (fun _ _ _ h => h) ?yu1x7 (by assumption) ?ru1x7
        case yu1x7 => (intro w' hSw; (try dsimp only at hSw); go_simp; try (with_reducible rfl))
        simp only [List.setIfInBounds_toArray, List.set_cons_zero, List.set_cons_succ]
        refine take_op (v := ?vu1x8) 8 (Op.load 39 (Operand.tmp 99)) 39 rfl rfl rfl rfl rfl (by kernel_rfl) (by kernel_rfl) (by kernel_rfl) (fun _ _ _ h => h) ?yu1x8 (by assumption) ?ru1x8
        case yu1x8 => (intro w' hSw; (try dsimp only at hSw); go_simp; try (with_reducible rfl))
        simp only [List.setIfInBounds_toArray, List.set_cons_zero, List.set_cons_succ]
        refine wpAnyH_ready (rs := [9]) (by kernel_rfl) (by simp) (AllReadyH.cons rfl (fun K9 hK9 => ?ku1x9) AllReadyH.nil)
        refine take_callv 9 30 92 [Operand.tmp 96, Operand.tmp 100] #[39, 39] rfl rfl (by kernel_rfl) rfl (fun args w => run_enter Try.func30 (by kernel_rfl) rfl args w) ?_
        refine (against_any y1 y2 z1 z2 _ v hv).mono ?_
        rintro e w9 ⟨rfl, hb9⟩
        refine ⟨_, rfl, ?_⟩
        have z9 := hb9.size
        try simp only [World.size_drew] at z9
        replace HB := HB.trans (hb9.mono (by first | exact HB.size | omega))
        have zHB9 := HB.size
        replace o2 := Own.below o2 hb9
        refine hK9.out _ _ ?su1x9 (fun hHeld => ?ru1x9)
        case su1x9 => ((try dsimp only); exact ⟨own_cell o2 _ KK.out.1.1, own_cell o2 _ KK.out.1.2, own_cell o2 _ KK.out.2.1, own_cell o2 _ KK.out.2.2⟩)
        try simp only [List.setIfInBounds_toArray, List.set_cons_zero, List.set_cons_succ]
        refine take_op (v := ?vu1x10) 10 (Op.binOp BinOp.lss 3 (Operand.tmp 101) (Operand.const (Value.int IntKind.i64 0)) 3) 4 rfl rfl rfl rfl rfl (by kernel_rfl) (by kernel_rfl) (by kernel_rfl) (fun _ _ _ h => h) ?yu1x10 (by assumption) ?ru1x10
        case yu1x10 => (intro w' hSw; (try dsimp only at hSw); go_simp; try (with_reducible rfl))
        simp only [List.setIfInBounds_toArray, List.set_cons_zero, List.set_cons_succ]
        refine take_op (v := ?vu1x11) 11 (Op.unOp UnOp.not 4 (Operand.tmp 102)) 4 rfl rfl rfl rfl rfl (by kernel_rfl) (by kernel_rfl) (by kernel_rfl) (fun _ _ _ h => h) ?yu1x11 (by assumption) ?ru1x11
        case yu1x11 => (intro w' hSw; (try dsimp only at hSw); go_simp; try (with_reducible rfl))
        simp only [List.setIfInBounds_toArray, List.set_cons_zero, List.set_cons_succ]
        refine wpAnyH_done (by kernel_rfl) ?_ _
        clear hHeld
        go_wp2_with fail
        go_roundw
        case rel => exact ⟨i, h, rfl, rfl, hi, by omega, by omega, HLO.out, HHI2.out, o2, HB⟩
        case measure => simp [intOf]; omega
      · have hzx : ¬ y1 < z1 := fun e => hv0 (HVL.out.2 e)
        have hnd : (!decide (v < 0)) = true := by simp [hv0]
        have HLO2 := Lib.hid (show ∀ t' (ht : t' < M1.length), t' + a < h + 1 → (M1[t']).1 ≤ y1 from fun t' ht' hle => by
          have h1 := up_get HM1.out t' t (by have := HT.out; omega) HT1.out
          rw [HZ.out] at h1
          dsimp only at h1
          omega)
        clear hzx
        go_wp2_with fail
        refine wp_region_held_drew (S := (fun w' => w'.cell? ⟨g, h * 2, none⟩ = some (.int .i64 z1) ∧ w'.cell? ⟨g, h * 2 + 1, none⟩ = some (.int .i64 z2) ∧ w'.cell? ⟨g, m * 2, none⟩ = some (.int .i64 y1) ∧ w'.cell? ⟨g, m * 2 + 1, none⟩ = some (.int .i64 y2))) (by kernel_rfl) ?_ (fun hHeld => ?_)
        · replace HB := Below.drew HB; replace o2 := Own.drew o2; (try dsimp only); exact ⟨own_cell o2 _ KK.out.1.1, own_cell o2 _ KK.out.1.2, own_cell o2 _ KK.out.2.1, own_cell o2 _ KK.out.2.2⟩
        replace HB := Below.drew HB
        replace o2 := Own.drew o2
        have zHB := HB.size
        refine take_movev (v := ?vu2x0) 0 (Operand.tmp 4) rfl rfl (by first | exact .inl rfl | exact .inr rfl) rfl (by kernel_rfl) (by kernel_rfl) (by kernel_rfl) (fun _ _ _ h => h) (by assumption) ?yu2x0 ?ru2x0
        case yu2x0 => (go_simp; try (with_reducible rfl))
        simp only [List.setIfInBounds_toArray, List.set_cons_zero, List.set_cons_succ]
        refine take_movev (v := ?vu2x1) 1 (Operand.tmp 0) rfl rfl (by first | exact .inl rfl | exact .inr rfl) rfl (by kernel_rfl) (by kernel_rfl) (by kernel_rfl) (fun _ _ _ h => h) (by assumption) ?yu2x1 ?ru2x1
        case yu2x1 => (go_simp; try (with_reducible rfl))
        simp only [List.setIfInBounds_toArray, List.set_cons_zero, List.set_cons_succ]
        refine take_movev (v := ?vu2x2) 2 (Operand.tmp 2) rfl rfl (by first | exact .inl rfl | exact .inr rfl) rfl (by kernel_rfl) (by kernel_rfl) (by kernel_rfl) (fun _ _ _ h => h) (by assumption) ?yu2x2 ?ru2x2
        case yu2x2 => (go_simp; try (with_reducible rfl))
        simp only [List.setIfInBounds_toArray, List.set_cons_zero, List.set_cons_succ]
        refine take_op (v := ?vu2x3) 3 (Op.indexAddr 36 (Operand.tmp 93) (Operand.tmp 94)) 0 rfl rfl rfl rfl rfl (by kernel_rfl) (by kernel_rfl) (by kernel_rfl) (fun _ _ _ h => h) ?yu2x3 (by assumption) ?ru2x3
        case yu2x3 => (intro w' hSw; (try dsimp only at hSw); go_simp; try (with_reducible rfl))
        simp only [List.setIfInBounds_toArray, List.set_cons_zero, List.set_cons_succ]
        refine take_op (v := ?vu2x4) 4 (Op.load 39 (Operand.tmp 95)) 39 rfl rfl rfl rfl rfl (by kernel_rfl) (by kernel_rfl) (by kernel_rfl) (fun _ _ _ h => h) ?yu2x4 (by assumption) ?ru2x4
        case yu2x4 => (intro w' hSw; (try dsimp only at hSw); go_simp; try (with_reducible rfl))
        simp only [List.setIfInBounds_toArray, List.set_cons_zero, List.set_cons_succ]
        refine take_movev (v := ?vu2x5) 5 (Operand.tmp 0) rfl rfl (by first | exact .inl rfl | exact .inr rfl) rfl (by kernel_rfl) (by kernel_rfl) (by kernel_rfl) (fun _ _ _ h => h) (by assumption) ?yu2x5 ?ru2x5
        case yu2x5 => (go_simp; try (with_reducible rfl))
        simp only [List.setIfInBounds_toArray, List.set_cons_zero, List.set_cons_succ]
        refine take_movev (v := ?vu2x6) 6 (Operand.tmp 16) rfl rfl (by first | exact .inl rfl | exact .inr rfl) rfl (by kernel_rfl) (by kernel_rfl) (by kernel_rfl) (fun _ _ _ h => h) (by assumption) ?yu2x6 ?ru2x6
        case yu2x6 => (go_simp; try (with_reducible rfl))
        simp only [List.setIfInBounds_toArray, List.set_cons_zero, List.set_cons_succ]
        refine take_op (v := ?vu2x7) 7 (Op.indexAddr 36 (Operand.tmp 97) (Operand.tmp 98)) 0 rfl rfl rfl rfl rfl (by kernel_rfl) (by kernel_rfl) (by kernel_rfl) (fun _ _ _ h => h) ?yu2x7 (by assumption) ?ru2x7
        case yu2x7 => (intro w' hSw; (try dsimp only at hSw); go_simp; try (with_reducible rfl))
        simp only [List.setIfInBounds_toArray, List.set_cons_zero, List.set_cons_succ]
        refine take_op (v := ?vu2x8) 8 (Op.load 39 (Operand.tmp 99)) 39 rfl rfl rfl rfl rfl (by kernel_rfl) (by kernel_rfl) (by kernel_rfl) (fun _ _ _ h => h) ?yu2x8 (by assumption) ?ru2x8
        case yu2x8 => (intro w' hSw; (try dsimp only at hSw); go_simp; try (with_reducible rfl))
        simp only [List.setIfInBounds_toArray, List.set_cons_zero, List.set_cons_succ]
        refine wpAnyH_ready (rs := [9]) (by kernel_rfl) (by simp) (AllReadyH.cons rfl (fun K9 hK9 => ?ku2x9) AllReadyH.nil)
        refine take_callv 9 30 92 [Operand.tmp 96, Operand.tmp 100] #[39, 39] rfl rfl (by kernel_rfl) rfl (fun args w => run_enter Try.func30 (by kernel_rfl) rfl args w) ?_
        refine (against_any y1 y2 z1 z2 _ v hv).mono ?_
        rintro e w9 ⟨rfl, hb9⟩
        refine ⟨_, rfl, ?_⟩
        have z9 := hb9.size
        try simp only [World.size_drew] at z9
        replace HB := HB.trans (hb9.mono (by first | exact HB.size | omega))
        have zHB9 := HB.size
        replace o2 := Own.below o2 hb9
        refine hK9.out _ _ ?su2x9 (fun hHeld => ?ru2x9)
        case su2x9 => ((try dsimp only); exact ⟨own_cell o2 _ KK.out.1.1, own_cell o2 _ KK.out.1.2, own_cell o2 _ KK.out.2.1, own_cell o2 _ KK.out.2.2⟩)
        try simp only [List.setIfInBounds_toArray, List.set_cons_zero, List.set_cons_succ]
        refine take_op (v := ?vu2x10) 10 (Op.binOp BinOp.lss 3 (Operand.tmp 101) (Operand.const (Value.int IntKind.i64 0)) 3) 4 rfl rfl rfl rfl rfl (by kernel_rfl) (by kernel_rfl) (by kernel_rfl) (fun _ _ _ h => h) ?yu2x10 (by assumption) ?ru2x10
        case yu2x10 => (intro w' hSw; (try dsimp only at hSw); go_simp; try (with_reducible rfl))
        simp only [List.setIfInBounds_toArray, List.set_cons_zero, List.set_cons_succ]
        refine take_op (v := ?vu2x11) 11 (Op.unOp UnOp.not 4 (Operand.tmp 102)) 4 rfl rfl rfl rfl rfl (by kernel_rfl) (by kernel_rfl) (by kernel_rfl) (fun _ _ _ h => h) ?yu2x11 (by assumption) ?ru2x11
        case yu2x11 => (intro w' hSw; (try dsimp only at hSw); go_simp; try (with_reducible rfl))
        simp only [List.setIfInBounds_toArray, List.set_cons_zero, List.set_cons_succ]
        refine wpAnyH_done (by kernel_rfl) ?_ _
        clear hHeld
        go_wp2_with fail
        go_roundw
        case rel => exact ⟨h + 1, j, by go_num, rfl, by omega, by omega, hj, HLO2.out, HHI.out, o2, HB⟩
        case measure => simp [intOf]; omega
    · have hltI : ¬ (i : Int) < (j : Int) := by omega
      obtain rfl : i = j := by omega
      obtain ⟨A1, A2, hAA, hA1⟩ : ∃ A1 A2, M1 = A1 ++ A2 ∧ A1.length = i - a := ⟨M1.take (i - a), M1.drop (i - a), (List.take_append_drop _ _).symm, by rw [List.length_take, HL1.out]; omega⟩
      obtain ⟨d, hd⟩ : ∃ d, m - i = d := ⟨_, rfl⟩
      have hA2 : A2.length = d := by have := HL1.out; rw [hAA, List.length_append] at this; omega
      have hsort : sortW (M1 ++ [(y1, y2)]) = A1 ++ (y1, y2) :: A2 := by
        rw [hAA]
        refine sort_last _ A1 A2 (hAA ▸ HM1.out) (fun x hx => ?_) (fun x hx => ?_)
        · obtain ⟨t, ht, rfl⟩ := List.getElem_of_mem hx
          have := HLO.out t (by rw [hAA, List.length_append]; omega) (by omega)
          simp only [hAA, List.getElem_append_left ht] at this
          exact this
        · obtain ⟨t, ht, rfl⟩ := List.getElem_of_mem hx
          have := HHI.out (A1.length + t) (by rw [hAA, List.length_append]; omega) (by omega)
          simp only [hAA] at this
          rw [List.getElem_append_right (by omega)] at this
          simpa using this
      have HSO := Lib.hid hsort
      have HD1 := Lib.hid hA1
      have HD2 := Lib.hid hA2
      have hid : i + d ≤ m := by omega
      have hid2 : m ≤ i + d := by omega
      have o2' : Own wr base 39 2 (some ⟨g, 0, none⟩) N c (fcells (P ++ (A1 ++ (A2.take d ++ ((y1, y2) :: (A2.drop d ++ T)))))) := by
        rw [List.take_of_length_le (Nat.le_of_eq hA2), List.drop_of_length_le (Nat.le_of_eq hA2)]
        rw [hAA] at o2; simpa using o2
      clear hAA hA1 hd hsort o2 HLO HHI hA2
      go_wp2_with fail
      go_loopw [17] (fun s wr' => ∃ k k' : Nat, s = .int .i64 k ∧ i + k' ≤ k ∧ k ≤ i + k' ∧ k' ≤ d ∧ Own wr' base 39 2 (some ⟨g, 0, none⟩) N c (fcells (P ++ (A1 ++ (A2.take k' ++ ((y1, y2) :: (A2.drop k' ++ T)))))) ∧ Below base w wr') (fun s _ => (intOf s).toNat)
      case atStart => exact ⟨m, d, rfl, by omega, by omega, by omega, o2', HB⟩
      case round =>
        clear o2' HB hz
        obtain ⟨k, k', rfl, hk1, hk2, hk3, o2, HB⟩ := hrel
        have hz := HB.size
        by_cases hlt : i < k
        · obtain ⟨q, rfl⟩ : ∃ q, k' = q + 1 := ⟨k' - 1, by omega⟩
          obtain ⟨p, rfl⟩ : ∃ p, k = p + 1 := ⟨k - 1, by omega⟩
          have hkI : (i : Int) < ((p + 1 : Nat) : Int) := by omega
          have hkI2 : (i : Int) < (p : Int) + 1 := by omega
          have hqA : q < A2.length := by have := HD2.out; omega
          obtain ⟨z, hz0⟩ : ∃ z, A2[q] = z := ⟨_, rfl⟩
          have HS := swap_ok (P ++ (A1 ++ A2.take q)) [] (A2.drop (q + 1) ++ T) z (y1, y2) p (p + 1) (by rw [List.length_append, List.length_append, List.length_take, HA.out, HD1.out]; omega) (by simp)
          have eL : P ++ (A1 ++ (A2.take (q + 1) ++ ((y1, y2) :: (A2.drop (q + 1) ++ T)))) = (P ++ (A1 ++ A2.take q)) ++ z :: ([] ++ (y1, y2) :: (A2.drop (q + 1) ++ T)) := by rw [List.take_succ_eq_append_getElem hqA, hz0]; simp
          have eR : (P ++ (A1 ++ A2.take q)) ++ (y1, y2) :: ([] ++ z :: (A2.drop (q + 1) ++ T)) = P ++ (A1 ++ (A2.take q ++ ((y1, y2) :: (A2.drop q ++ T)))) := by rw [drop_cons2 A2 q hqA, hz0]; simp
          rw [eL] at o2
          rw [eR] at HS
          obtain ⟨L, hL⟩ : ∃ L, (P ++ (A1 ++ A2.take q)) ++ z :: ([] ++ (y1, y2) :: (A2.drop (q + 1) ++ T)) = L := ⟨_, rfl⟩
          obtain ⟨L', hL'⟩ : ∃ L', P ++ (A1 ++ (A2.take q ++ ((y1, y2) :: (A2.drop q ++ T)))) = L' := ⟨_, rfl⟩
          rw [hL, hL'] at HS
          rw [hL] at o2
          have HL' := Lib.hid hL'
          obtain ⟨z1, z2⟩ := z
          have SW := Lib.hid HS
          have hk0 : (0 : Int) ≤ (p : Int) := by omega
          have hk4 : (0 : Int) ≤ (p : Int) + 1 := by omega
          have hk5 : (p : Int) < (N : Int) := by omega
          have hk6 : (p : Int) + 1 < (N : Int) := by omega
          have hkN : p + 1 < N := by omega
          have hk7 : IntKind.i64.wrap ((p : Int) + 1 - 1) = (p : Int) := (w64k (by omega) (by omega)).trans (by omega)
          have hk8 : IntKind.i64.wrap (p : Int) = (p : Int) := w64k (by omega) (by omega)
          clear HS hL hL' eL eR hz0 hqA
          go_wp2_with fail
          refine wp_region_held_drew (S := (fun _ => True)) (by kernel_rfl) ?_ (fun hHeld => ?_)
          · replace HB := Below.drew HB; replace o2 := Own.drew o2; (try dsimp only); try trivial
          replace HB := Below.drew HB
          replace o2 := Own.drew o2
          have zHB := HB.size
          refine take_movev (v := ?vu3x0) 0 (Operand.tmp 0) rfl rfl (by first | exact .inl rfl | exact .inr rfl) rfl (by kernel_rfl) (by kernel_rfl) (by kernel_rfl) (fun _ _ _ h => h) (by assumption) ?yu3x0 ?ru3x0
          case yu3x0 => (go_simp; try (with_reducible rfl))
          simp only [List.setIfInBounds_toArray, List.set_cons_zero, List.set_cons_succ]
          refine take_movev (v := ?vu3x1) 1 (Operand.tmp 17) rfl rfl (by first | exact .inl rfl | exact .inr rfl) rfl (by kernel_rfl) (by kernel_rfl) (by kernel_rfl) (fun _ _ _ h => h) (by assumption) ?yu3x1 ?ru3x1
          case yu3x1 => (go_simp; try (with_reducible rfl))
          simp only [List.setIfInBounds_toArray, List.set_cons_zero, List.set_cons_succ]
          refine take_movev (v := ?vu3x2) 2 (Operand.tmp 0) rfl rfl (by first | exact .inl rfl | exact .inr rfl) rfl (by kernel_rfl) (by kernel_rfl) (by kernel_rfl) (fun _ _ _ h => h) (by assumption) ?yu3x2 ?ru3x2
          case yu3x2 => (go_simp; try (with_reducible rfl))
          simp only [List.setIfInBounds_toArray, List.set_cons_zero, List.set_cons_succ]
          refine take_movev (v := ?vu3x3) 3 (Operand.tmp 17) rfl rfl (by first | exact .inl rfl | exact .inr rfl) rfl (by kernel_rfl) (by kernel_rfl) (by kernel_rfl) (fun _ _ _ h => h) (by assumption) ?yu3x3 ?ru3x3
          case yu3x3 => (go_simp; try (with_reducible rfl))
          simp only [List.setIfInBounds_toArray, List.set_cons_zero, List.set_cons_succ]
          refine take_op (v := ?vu3x4) 4 (Op.binOp BinOp.sub 3 (Operand.tmp 116) (Operand.const (Value.int IntKind.i64 1)) 3) 3 rfl rfl rfl rfl rfl (by kernel_rfl) (by kernel_rfl) (by kernel_rfl) (fun _ _ _ h => h) ?yu3x4 (by assumption) ?ru3x4
          case yu3x4 => (intro w' hSw; (try dsimp only at hSw); go_simp; try (with_reducible rfl))
          simp only [List.setIfInBounds_toArray, List.set_cons_zero, List.set_cons_succ]
          refine take_movev (v := ?vu3x5) 5 (Operand.tmp 0) rfl rfl (by first | exact .inl rfl | exact .inr rfl) rfl (by kernel_rfl) (by kernel_rfl) (by kernel_rfl) (fun _ _ _ h => h) (by assumption) ?yu3x5 ?ru3x5
          case yu3x5 => (go_simp; try (with_reducible rfl))
          simp only [List.setIfInBounds_toArray, List.set_cons_zero, List.set_cons_succ]
          refine take_movev (v := ?vu3x6) 6 (Operand.tmp 17) rfl rfl (by first | exact .inl rfl | exact .inr rfl) rfl (by kernel_rfl) (by kernel_rfl) (by kernel_rfl) (fun _ _ _ h => h) (by assumption) ?yu3x6 ?ru3x6
          case yu3x6 => (go_simp; try (with_reducible rfl))
          simp only [List.setIfInBounds_toArray, List.set_cons_zero, List.set_cons_succ]
          refine take_op (v := ?vu3x7) 7 (Op.binOp BinOp.sub 3 (Operand.tmp 119) (Operand.const (Value.int IntKind.i64 1)) 3) 3 rfl rfl rfl rfl rfl (by kernel_rfl) (by kernel_rfl) (by kernel_rfl) (fun _ _ _ h => h) ?yu3x7 (by assumption) ?ru3x7
          case yu3x7 => (intro w' hSw; (try dsimp only at hSw); go_simp; try (with_reducible rfl))
          simp only [List.setIfInBounds_toArray, List.set_cons_zero, List.set_cons_succ]
          refine take_op (v := ?vu3x8) 8 (Op.indexAddr 36 (Operand.tmp 118) (Operand.tmp 120)) 0 rfl rfl rfl rfl rfl (by kernel_rfl) (by kernel_rfl) (by kernel_rfl) (fun _ _ _ h => h) ?yu3x8 (by assumption) ?ru3x8
          case yu3x8 => (intro w' hSw; (try dsimp only at hSw); go_simp; try (with_reducible rfl))
          simp only [List.setIfInBounds_toArray, List.set_cons_zero, List.set_cons_succ]
          refine take_movev (v := ?vu3x10) 10 (Operand.tmp 0) rfl rfl (by first | exact .inl rfl | exact .inr rfl) rfl (by kernel_rfl) (by kernel_rfl) (by kernel_rfl) (fun _ _ _ h => h) (by assumption) ?yu3x10 ?ru3x10
          case yu3x10 => (go_simp; try (with_reducible rfl))
          simp only [List.setIfInBounds_toArray, List.set_cons_zero, List.set_cons_succ]
          refine take_movev (v := ?vu3x11) 11 (Operand.tmp 17) rfl rfl (by first | exact .inl rfl | exact .inr rfl) rfl (by kernel_rfl) (by kernel_rfl) (by kernel_rfl) (fun _ _ _ h => h) (by assumption) ?yu3x11 ?ru3x11
          case yu3x11 => (go_simp; try (with_reducible rfl))
          simp only [List.setIfInBounds_toArray, List.set_cons_zero, List.set_cons_succ]
          refine take_op (v := ?vu3x12) 12 (Op.indexAddr 36 (Operand.tmp 123) (Operand.tmp 124)) 0 rfl rfl rfl rfl rfl (by kernel_rfl) (by kernel_rfl) (by kernel_rfl) (fun _ _ _ h => h) ?yu3x12 (by assumption) ?ru3x12
          case yu3x12 => (intro w' hSw; (try dsimp only at hSw); go_simp; try (with_reducible rfl))
          simp only [List.setIfInBounds_toArray, List.set_cons_zero, List.set_cons_succ]
          refine wpAnyH_ready (rs := [9, 13]) (by kernel_rfl) (by simp) (AllReadyH.cons rfl (fun K9 hK9 => ?ku3x9) (AllReadyH.cons rfl (fun K13 hK13 => ?ku3x13) AllReadyH.nil))
          case ku3x9 =>
            refine take_any 9 (Op.load 39 (Operand.tmp 121)) 39 rfl rfl rfl (by kernel_rfl) (v := .agg #[.int .i64 z1, .int .i64 z2]) (by have k1 : wr.cell? ⟨g, p * 2, none⟩ = _ := own_cell o2 _ SW.out.c1; have k2 : wr.cell? ⟨g, p * 2 + 1, none⟩ = _ := own_cell o2 _ SW.out.c2; go_simp; try (with_reducible rfl)) ?_
            refine hK9.out _ _ ?su3xb1x9 (fun hHeld => ?ru3xb1x9)
            case su3xb1x9 => ((try dsimp only); try trivial)
            try simp only [List.setIfInBounds_toArray, List.set_cons_zero, List.set_cons_succ]
            refine wpAnyH_ready (rs := [13]) (by kernel_rfl) (by simp) (AllReadyH.cons rfl (fun K13 hK13 => ?ku3xb1x13) AllReadyH.nil)
            refine take_any 13 (Op.load 39 (Operand.tmp 125)) 39 rfl rfl rfl (by kernel_rfl) (v := .agg #[.int .i64 y1, .int .i64 y2]) (by have k1 : wr.cell? ⟨g, (p + 1) * 2, none⟩ = _ := own_cell o2 _ SW.out.c3; have k2 : wr.cell? ⟨g, (p + 1) * 2 + 1, none⟩ = _ := own_cell o2 _ SW.out.c4; go_simp; try (with_reducible rfl)) ?_
            refine hK13.out _ _ ?su3xb1x13 (fun hHeld => ?ru3xb1x13)
            case su3xb1x13 => ((try dsimp only); try trivial)
            try simp only [List.setIfInBounds_toArray, List.set_cons_zero, List.set_cons_succ]
            refine take_op (v := ?vu3xb1x14) 14 (Op.indexAddr 36 (Operand.tmp 113) (Operand.tmp 114)) 0 rfl rfl rfl rfl rfl (by kernel_rfl) (by kernel_rfl) (by kernel_rfl) (fun _ _ _ h => h) ?yu3xb1x14 (by assumption) ?ru3xb1x14
            case yu3xb1x14 => (intro w' hSw; (try dsimp only at hSw); go_simp; try (with_reducible rfl))
            simp only [List.setIfInBounds_toArray, List.set_cons_zero, List.set_cons_succ]
            refine wpAnyH_ready (rs := [15]) (by kernel_rfl) (by simp) (AllReadyH.cons rfl (fun K15 hK15 => ?ku3xb1x15) AllReadyH.nil)
            refine take_store 15 (Op.store 39 (Operand.tmp 127) (Operand.tmp 122)) 0 rfl rfl rfl (by kernel_rfl) (w' := (wr.drew.setCell ⟨g, (p + 1) * 2, none⟩ (.int .i64 z1)).setCell ⟨g, (p + 1) * 2 + 1, none⟩ (.int .i64 z2)) (by have f := own_thaw o2; have hfl := o2.len; obtain ⟨v1, hv1⟩ : ∃ v1, _ := own_has o2 ((p + 1) * 2) (by omega); obtain ⟨v2, hv2⟩ : ∃ v2, _ := own_has o2 ((p + 1) * 2 + 1) (by omega); (try simp only [World.cell?_drew, World.frozen?_drew] at f hv1 hv2); go_simp; try (with_reducible rfl)) ?_
            refine hK15.out _ _ (trivial) (fun hHeld => ?_)
            replace o2 := (o2.set (k := (p + 1) * 2) (.int .i64 z1)).set (k := (p + 1) * 2 + 1) (.int .i64 z2)
            replace HB := (HB.setCell (p := ⟨g, (p + 1) * 2, none⟩) hg0 (.int .i64 z1)).setCell (p := ⟨g, (p + 1) * 2 + 1, none⟩) hg0 (.int .i64 z2)
            generalize ((wr.drew.setCell ⟨g, (p + 1) * 2, none⟩ (.int .i64 z1)).setCell ⟨g, (p + 1) * 2 + 1, none⟩ (.int .i64 z2)) = wq at *
            refine take_op (v := ?vu3xb1x16) 16 (Op.indexAddr 36 (Operand.tmp 115) (Operand.tmp 117)) 0 rfl rfl rfl rfl rfl (by kernel_rfl) (by kernel_rfl) (by kernel_rfl) (fun _ _ _ h => h) ?yu3xb1x16 (by assumption) ?ru3xb1x16
            case yu3xb1x16 => (intro w' hSw; (try dsimp only at hSw); go_simp; try (with_reducible rfl))
            simp only [List.setIfInBounds_toArray, List.set_cons_zero, List.set_cons_succ]
            refine wpAnyH_ready (rs := [17]) (by kernel_rfl) (by simp) (AllReadyH.cons rfl (fun K17 hK17 => ?ku3xb1x17) AllReadyH.nil)
            refine take_store 17 (Op.store 39 (Operand.tmp 128) (Operand.tmp 126)) 0 rfl rfl rfl (by kernel_rfl) (w' := (wq.setCell ⟨g, p * 2, none⟩ (.int .i64 y1)).setCell ⟨g, p * 2 + 1, none⟩ (.int .i64 y2)) (by have f := own_thaw o2; have hfl := o2.len; obtain ⟨v1, hv1⟩ : ∃ v1, _ := own_has o2 (p * 2) (by omega); obtain ⟨v2, hv2⟩ : ∃ v2, _ := own_has o2 (p * 2 + 1) (by omega); (try simp only [World.cell?_drew, World.frozen?_drew] at f hv1 hv2); go_simp; try (with_reducible rfl)) ?_
            refine hK17.out _ _ (trivial) (fun hHeld => ?_)
            replace o2 := (o2.set (k := p * 2) (.int .i64 y1)).set (k := p * 2 + 1) (.int .i64 y2)
            replace HB := (HB.setCell (p := ⟨g, p * 2, none⟩) hg0 (.int .i64 y1)).setCell (p := ⟨g, p * 2 + 1, none⟩) hg0 (.int .i64 y2)
            generalize ((wq.setCell ⟨g, p * 2, none⟩ (.int .i64 y1)).setCell ⟨g, p * 2 + 1, none⟩ (.int .i64 y2)) = wq at *
            refine wpAnyH_done (by kernel_rfl) ?_ _
            clear hHeld
            have o3 : Own wq base 39 2 (some ⟨g, 0, none⟩) N c (fcells L') := by first | exact SW.out.s1 ▸ o2 | exact SW.out.s2 ▸ o2
            go_wp2_with fail
            go_roundw
            case rel => exact ⟨p, q, rfl, by omega, by omega, by omega, by rw [HL'.out]; exact o3, HB⟩
            case measure => first | (simp [intOf]; done) | (simp [intOf]; omega)
          case ku3x13 =>
            refine take_any 13 (Op.load 39 (Operand.tmp 125)) 39 rfl rfl rfl (by kernel_rfl) (v := .agg #[.int .i64 y1, .int .i64 y2]) (by have k1 : wr.cell? ⟨g, (p + 1) * 2, none⟩ = _ := own_cell o2 _ SW.out.c3; have k2 : wr.cell? ⟨g, (p + 1) * 2 + 1, none⟩ = _ := own_cell o2 _ SW.out.c4; go_simp; try (with_reducible rfl)) ?_
            refine hK13.out _ _ ?su3xb5x13 (fun hHeld => ?ru3xb5x13)
            case su3xb5x13 => ((try dsimp only); try trivial)
            try simp only [List.setIfInBounds_toArray, List.set_cons_zero, List.set_cons_succ]
            refine wpAnyH_ready (rs := [9]) (by kernel_rfl) (by simp) (AllReadyH.cons rfl (fun K9 hK9 => ?ku3xb5x9) AllReadyH.nil)
            refine take_any 9 (Op.load 39 (Operand.tmp 121)) 39 rfl rfl rfl (by kernel_rfl) (v := .agg #[.int .i64 z1, .int .i64 z2]) (by have k1 : wr.cell? ⟨g, p * 2, none⟩ = _ := own_cell o2 _ SW.out.c1; have k2 : wr.cell? ⟨g, p * 2 + 1, none⟩ = _ := own_cell o2 _ SW.out.c2; go_simp; try (with_reducible rfl)) ?_
            refine hK9.out _ _ ?su3xb5x9 (fun hHeld => ?ru3xb5x9)
            case su3xb5x9 => ((try dsimp only); try trivial)
            try simp only [List.setIfInBounds_toArray, List.set_cons_zero, List.set_cons_succ]
            refine take_op (v := ?vu3xb5x14) 14 (Op.indexAddr 36 (Operand.tmp 113) (Operand.tmp 114)) 0 rfl rfl rfl rfl rfl (by kernel_rfl) (by kernel_rfl) (by kernel_rfl) (fun _ _ _ h => h) ?yu3xb5x14 (by assumption) ?ru3xb5x14
            case yu3xb5x14 => (intro w' hSw; (try dsimp only at hSw); go_simp; try (with_reducible rfl))
            simp only [List.setIfInBounds_toArray, List.set_cons_zero, List.set_cons_succ]
            refine wpAnyH_ready (rs := [15]) (by kernel_rfl) (by simp) (AllReadyH.cons rfl (fun K15 hK15 => ?ku3xb5x15) AllReadyH.nil)
            refine take_store 15 (Op.store 39 (Operand.tmp 127) (Operand.tmp 122)) 0 rfl rfl rfl (by kernel_rfl) (w' := (wr.drew.setCell ⟨g, (p + 1) * 2, none⟩ (.int .i64 z1)).setCell ⟨g, (p + 1) * 2 + 1, none⟩ (.int .i64 z2)) (by have f := own_thaw o2; have hfl := o2.len; obtain ⟨v1, hv1⟩ : ∃ v1, _ := own_has o2 ((p + 1) * 2) (by omega); obtain ⟨v2, hv2⟩ : ∃ v2, _ := own_has o2 ((p + 1) * 2 + 1) (by omega); (try simp only [World.cell?_drew, World.frozen?_drew] at f hv1 hv2); go_simp; try (with_reducible rfl)) ?_
            refine hK15.out _ _ (trivial) (fun hHeld => ?_)
            replace o2 := (o2.set (k := (p + 1) * 2) (.int .i64 z1)).set (k := (p + 1) * 2 + 1) (.int .i64 z2)
            replace HB := (HB.setCell (p := ⟨g, (p + 1) * 2, none⟩) hg0 (.int .i64 z1)).setCell (p := ⟨g, (p + 1) * 2 + 1, none⟩) hg0 (.int .i64 z2)
            generalize ((wr.drew.setCell ⟨g, (p + 1) * 2, none⟩ (.int .i64 z1)).setCell ⟨g, (p + 1) * 2 + 1, none⟩ (.int .i64 z2)) = wq at *
            refine take_op (v := ?vu3xb5x16) 16 (Op.indexAddr 36 (Operand.tmp 115) (Operand.tmp 117)) 0 rfl rfl rfl rfl rfl (by kernel_rfl) (by kernel_rfl) (by kernel_rfl) (fun _ _ _ h => h) ?yu3xb5x16 (by assumption) ?ru3xb5x16
            case yu3xb5x16 => (intro w' hSw; (try dsimp only at hSw); go_simp; try (with_reducible rfl))
            simp only [List.setIfInBounds_toArray, List.set_cons_zero, List.set_cons_succ]
            refine wpAnyH_ready (rs := [17]) (by kernel_rfl) (by simp) (AllReadyH.cons rfl (fun K17 hK17 => ?ku3xb5x17) AllReadyH.nil)
            refine take_store 17 (Op.store 39 (Operand.tmp 128) (Operand.tmp 126)) 0 rfl rfl rfl (by kernel_rfl) (w' := (wq.setCell ⟨g, p * 2, none⟩ (.int .i64 y1)).setCell ⟨g, p * 2 + 1, none⟩ (.int .i64 y2)) (by have f := own_thaw o2; have hfl := o2.len; obtain ⟨v1, hv1⟩ : ∃ v1, _ := own_has o2 (p * 2) (by omega); obtain ⟨v2, hv2⟩ : ∃ v2, _ := own_has o2 (p * 2 + 1) (by omega); (try simp only [World.cell?_drew, World.frozen?_drew] at f hv1 hv2); go_simp; try (with_reducible rfl)) ?_
            refine hK17.out _ _ (trivial) (fun hHeld => ?_)
            replace o2 := (o2.set (k := p * 2) (.int .i64 y1)).set (k := p * 2 + 1) (.int .i64 y2)
            replace HB := (HB.setCell (p := ⟨g, p * 2, none⟩) hg0 (.int .i64 y1)).setCell (p := ⟨g, p * 2 + 1, none⟩) hg0 (.int .i64 y2)
            generalize ((wq.setCell ⟨g, p * 2, none⟩ (.int .i64 y1)).setCell ⟨g, p * 2 + 1, none⟩ (.int .i64 y2)) = wq at *
            refine wpAnyH_done (by kernel_rfl) ?_ _
            clear hHeld
            have o3 : Own wq base 39 2 (some ⟨g, 0, none⟩) N c (fcells L') := by first | exact SW.out.s1 ▸ o2 | exact SW.out.s2 ▸ o2
            go_wp2_with fail
            go_roundw
            case rel => exact ⟨p, q, rfl, by omega, by omega, by omega, by rw [HL'.out]; exact o3, HB⟩
            case measure => first | (simp [intOf]; done) | (simp [intOf]; omega)
        · have hkI : ¬ (i : Int) < (k : Int) := by omega
          obtain rfl : k' = 0 := by omega
          have e1 := HSO.out
          have HF := Lib.hid (show P ++ (A1 ++ (A2.take 0 ++ ((y1, y2) :: (A2.drop 0 ++ T)))) = P ++ (sortW (M1 ++ [(y1, y2)]) ++ T) by rw [e1]; simp)
          clear e1
          go_wp2_with fail
          try rw [Exit.noGoto_ret]
          try simp only [Exit.inBlock, Exit.then]
          refine bodyPost_ret (results_none rfl _ _ _) rfl ?_
          exact ⟨rfl, HF.out ▸ o2, HB⟩
end LenW
end Go.Proofs.Ytpnccehaomikbaa
