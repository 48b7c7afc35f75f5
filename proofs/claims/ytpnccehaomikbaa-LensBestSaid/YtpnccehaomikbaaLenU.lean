/- The walks of package lens: two rows that are sorted are merged: one ahead of a row. -/
import Derived.Test.YtpnccehaomikbaaLenT
namespace Go.Proofs.Ytpnccehaomikbaa
set_option linter.unusedVariables false
set_option linter.unusedSimpArgs false
set_option linter.unnecessarySimpa false
open Go.RowKit
namespace LenW

/-- What merging does, from a place on. -/
def MergeOk (base : Nat) (A0 : Option Addr) (N c : Nat) (P M1 M2 T : List (Int × Int)) (w : World) (a m b : Nat) : Prop :=
  Calls Try.prog 36 #[.slice A0 N c, .int .i64 a, .int .i64 m, .int .i64 b, .func (.func 30) #[] #[]] w fun e w' => e = .returned (.tuple #[]) ∧ Own w' base 39 2 A0 N c (fcells (P ++ (sortW (M1 ++ M2) ++ T))) ∧ Below base w w'
theorem cells_at (L : List (Int × Int)) (h : Nat) (hL : h < L.length) (x : Int × Int) (hx : L[h] = x) : (fcells L)[h * 2]? = some (.int .i64 x.1) ∧ (fcells L)[h * 2 + 1]? = some (.int .i64 x.2) := by
  subst hx
  exact fcells_get L h hL
theorem up_get {l : List (Int × Int)} (h : upW l) (i j : Nat) (hij : i ≤ j) (hj : j < l.length) : (l[i]'(by omega)).1 ≤ (l[j]).1 := by
  rcases Nat.lt_or_ge i j with h1 | h1
  · exact List.pairwise_iff_getElem.1 h i j (by omega) hj h1
  · obtain rfl : i = j := by omega
    exact Int.le_refl _
set_option maxRecDepth 100000 in
set_option maxHeartbeats 8000000 in
theorem sym_one (base : Nat) (A0 : Option Addr) (N c : Nat) (P M2 T : List (Int × Int)) (x : Int × Int) (w : World) (a m b : Nat) (ha : P.length = a) (hm : a + 1 = m) (hb : m + M2.length = b) (hN : P.length + 1 + M2.length + T.length = N) (hN3 : N ≤ 1000)
    (hM2 : upW M2) (ho : Own w base 39 2 A0 N c (fcells (P ++ (x :: (M2 ++ T))))) (hbs : base ≤ w.heap.size) : MergeOk base A0 N c P [x] M2 T w a m b := by
  unfold MergeOk
  obtain ⟨l2, hl2⟩ : ∃ l, M2.length = l := ⟨_, rfl⟩
  obtain ⟨t0, ht0⟩ : ∃ t, T.length = t := ⟨_, rfl⟩
  rw [hl2] at hb hN
  rw [ht0, ha] at hN
  have hbN : b ≤ N := by omega
  have ham1 : a + 1 ≤ m := by omega
  have ham2 : m ≤ a + 1 := by omega
  have hmb1 : m + l2 ≤ b := by omega
  have hmb2 : b ≤ m + l2 := by omega
  have hw1 : IntKind.i64.wrap ((m : Int) - (a : Int)) = 1 := (w64k (by omega) (by omega)).trans (by omega)
  have HL2 := Lib.hid hl2
  have HA := Lib.hid ha
  have HT0 := Lib.hid ht0
  have HN := Lib.hid hN
  have HM2 := Lib.hid hM2
  clear hl2 ha ht0 hm hb hN hM2
  obtain ⟨x1, x2⟩ := x
  obtain ⟨g, rfl⟩ : ∃ g, A0 = some ⟨g, 0, none⟩ := by
    rcases ho.shape with ⟨_, h0, _⟩ | ⟨g, e, _⟩
    · omega
    · exact ⟨g, e⟩
  have hg0 : base ≤ g := (ho.blk g rfl).1
  go_enter Try.func36, Try.ntmps36
  go_wp2_with fail
  go_loopw [10, 11] (fun s r wr => ∃ i j : Nat, s = .int .i64 i ∧ r = .int .i64 j ∧ m ≤ i ∧ i ≤ j ∧ j ≤ b ∧ (∀ t (ht : t < M2.length), t + m < i → (M2[t]).1 < x1) ∧ (∀ t (ht : t < M2.length), j ≤ t + m → x1 ≤ (M2[t]).1) ∧ Own wr base 39 2 (some ⟨g, 0, none⟩) N c (fcells (P ++ ((x1, x2) :: (M2 ++ T)))) ∧ Below base w wr) (fun s r _ => (intOf r).toNat - (intOf s).toNat)
  case atStart => exact ⟨m, b, rfl, rfl, Nat.le_refl _, by omega, Nat.le_refl _, fun t _ h => absurd h (by omega), fun t ht h => absurd h (by have := HL2.out; omega), ho, Below.refl _ _⟩
  case round =>
    clear ho
    obtain ⟨i, j, rfl, rfl, hi, hij, hj, hlo, hhi, o2, HB⟩ := hrel
    have hz := HB.size
    have HLO := Lib.hid hlo
    have HHI := Lib.hid hhi
    clear hlo hhi
    by_cases hlt : i < j
    · have hltI : (i : Int) < (j : Int) := by omega
      obtain ⟨h, hh⟩ : ∃ h, (i + j) / 2 = h := ⟨_, rfl⟩
      have hh1 : i ≤ h := by omega
      have hh2 : h < j := by omega
      have hij1 : IntKind.i64.wrap ((i : Int) + (j : Int)) = ((i + j : Nat) : Int) := (w64k (by omega) (by omega)).trans (by omega)
      have hhI : ((i : Int) + (j : Int)) / 2 = (h : Int) := by omega
      obtain ⟨t, ht⟩ : ∃ t, h = m + t := ⟨h - m, by omega⟩
      have htl : t < M2.length := by have := HL2.out; omega
      obtain ⟨z, hz0⟩ : ∃ z, M2[t] = z := ⟨_, rfl⟩
      have hLl : (P ++ ((x1, x2) :: (M2 ++ T))).length = N := by have := o2.len; rw [fcells_len] at this; omega
      have e1 : (P ++ ((x1, x2) :: (M2 ++ T)))[h]'(by omega) = z := by
        rw [List.getElem_append_right (by have := HA.out; omega)]
        have : h - P.length = t + 1 := by have := HA.out; omega
        simp only [this, List.getElem_cons_succ]
        rw [List.getElem_append_left htl, hz0]
      have e2 : (P ++ ((x1, x2) :: (M2 ++ T)))[a]'(by omega) = (x1, x2) := by
        rw [List.getElem_append_right (by have := HA.out; omega)]
        have : a - P.length = 0 := by have := HA.out; omega
        simp only [this, List.getElem_cons_zero]
      have K1 := cells_at _ h (by omega) z e1
      have K2 := cells_at _ a (by omega) (x1, x2) e2
      obtain ⟨z1, z2⟩ := z
      dsimp only at K1 K2
      have KK := Lib.hid (And.intro K1 K2)
      have UP := HM2.out
      have HZ := Lib.hid hz0
      have HT := Lib.hid ht
      have hLO : Lib.hid UP = Lib.hid UP := rfl
      obtain ⟨v, hv⟩ : ∃ v, cmpV z1 x1 = v := ⟨_, rfl⟩
      have hvl := cmpV_lt z1 x1
      rw [hv] at hvl
      have HVL := Lib.hid hvl
      have HT1 := Lib.hid htl
      have hh0 : (0 : Int) ≤ (h : Int) := by omega
      have ha0 : (0 : Int) ≤ (a : Int) := by omega
      have hhN : (h : Int) < (N : Int) := by omega
      have haN : (a : Int) < (N : Int) := by omega
      have hh3 : IntKind.i64.wrap ((h : Int) + 1) = (h : Int) + 1 := w64k (by omega) (by omega)
      clear hh K1 K2 e1 e2 hz0 ht hvl hLO UP hLl
      by_cases hv0 : v < 0
      · have hzx := HVL.out.1 hv0
        have HLO2 := Lib.hid (show ∀ t' (ht : t' < M2.length), t' + m < h + 1 → (M2[t']).1 < x1 from fun t' ht' hle => by
          have h1 := up_get HM2.out t' t (by have := HT.out; omega) HT1.out
          rw [HZ.out] at h1
          dsimp only at h1
          omega)
        clear hzx
        go_wp2_with fail
        refine wp_region_held_drew (S := (fun w' => w'.cell? ⟨g, h * 2, none⟩ = some (.int .i64 z1) ∧ w'.cell? ⟨g, h * 2 + 1, none⟩ = some (.int .i64 z2) ∧ w'.cell? ⟨g, a * 2, none⟩ = some (.int .i64 x1) ∧ w'.cell? ⟨g, a * 2 + 1, none⟩ = some (.int .i64 x2))) (by kernel_rfl) ?_ (fun hHeld => ?_)
        · replace HB := Below.drew HB; replace o2 := Own.drew o2; (try dsimp only); exact ⟨own_cell o2 _ KK.out.1.1, own_cell o2 _ KK.out.1.2, own_cell o2 _ KK.out.2.1, own_cell o2 _ KK.out.2.2⟩
        replace HB := Below.drew HB
        replace o2 := Own.drew o2
        have zHB := HB.size
        refine take_movev (v := ?vu1x0) 0 (Operand.tmp 4) rfl rfl (by first | exact .inl rfl | exact .inr rfl) rfl (by kernel_rfl) (by kernel_rfl) (by kernel_rfl) (fun _ _ _ h => h) (by assumption) ?yu1x0 ?ru1x0
        case yu1x0 => (go_simp; try (with_reducible rfl))
        simp only [List.setIfInBounds_toArray, List.set_cons_zero, List.set_cons_succ]
        refine take_movev (v := ?vu1x1) 1 (Operand.tmp 0) rfl rfl (by first | exact .inl rfl | exact .inr rfl) rfl (by kernel_rfl) (by kernel_rfl) (by kernel_rfl) (fun _ _ _ h => h) (by assumption) ?yu1x1 ?ru1x1
        case yu1x1 => (go_simp; try (with_reducible rfl))
        simp only [List.setIfInBounds_toArray, List.set_cons_zero, List.set_cons_succ]
        refine take_movev (v := ?vu1x2) 2 (Operand.tmp 12) rfl rfl (by first | exact .inl rfl | exact .inr rfl) rfl (by kernel_rfl) (by kernel_rfl) (by kernel_rfl) (fun _ _ _ h => h) (by assumption) ?yu1x2 ?ru1x2
        case yu1x2 => (go_simp; try (with_reducible rfl))
        simp only [List.setIfInBounds_toArray, List.set_cons_zero, List.set_cons_succ]
        refine take_op (v := ?vu1x3) 3 (Op.indexAddr 36 (Operand.tmp 41) (Operand.tmp 42)) 0 rfl rfl rfl rfl rfl (by kernel_rfl) (by kernel_rfl) (by kernel_rfl) (fun _ _ _ h => h) ?yu1x3 (by assumption) ?ru1x3
        case yu1x3 => (intro w' hSw; (try dsimp only at hSw); go_simp; try (with_reducible rfl))
        simp only [List.setIfInBounds_toArray, List.set_cons_zero, List.set_cons_succ]
        refine take_op (v := ?vu1x4) 4 (Op.load 39 (Operand.tmp 43)) 39 rfl rfl rfl rfl rfl (by kernel_rfl) (by kernel_rfl) (by kernel_rfl) (fun _ _ _ h => h) ?yu1x4 (by assumption) ?ru1x4
        case yu1x4 => (intro w' hSw; (try dsimp only at hSw); go_simp; try (with_reducible rfl))
        simp only [List.setIfInBounds_toArray, List.set_cons_zero, List.set_cons_succ]
        refine take_movev (v := ?vu1x5) 5 (Operand.tmp 0) rfl rfl (by first | exact .inl rfl | exact .inr rfl) rfl (by kernel_rfl) (by kernel_rfl) (by kernel_rfl) (fun _ _ _ h => h) (by assumption) ?yu1x5 ?ru1x5
        case yu1x5 => (go_simp; try (with_reducible rfl))
        simp only [List.setIfInBounds_toArray, List.set_cons_zero, List.set_cons_succ]
        refine take_movev (v := ?vu1x6) 6 (Operand.tmp 1) rfl rfl (by first | exact .inl rfl | exact .inr rfl) rfl (by kernel_rfl) (by kernel_rfl) (by kernel_rfl) (fun _ _ _ h => h) (by assumption) ?yu1x6 ?ru1x6
        case yu1x6 => (go_simp; try (with_reducible rfl))
        simp only [List.setIfInBounds_toArray, List.set_cons_zero, List.set_cons_succ]
        refine take_op (v := ?vu1x7) 7 (Op.indexAddr 36 (Operand.tmp 45) (Operand.tmp 46)) 0 rfl rfl rfl rfl rfl (by kernel_rfl) (by kernel_rfl) (by kernel_rfl) (fun _ _ _ h => h) ?yu1x7 (by assumption) ?ru1x7
        case yu1x7 => (intro w' hSw; (try dsimp only at hSw); go_simp; try (with_reducible rfl))
        simp only [List.setIfInBounds_toArray, List.set_cons_zero, List.set_cons_succ]
        refine take_op (v := ?vu1x8) 8 (Op.load 39 (Operand.tmp 47)) 39 rfl rfl rfl rfl rfl (by kernel_rfl) (by kernel_rfl) (by kernel_rfl) (fun _ _ _ h => h) ?yu1x8 (by assumption) ?ru1x8
        case yu1x8 => (intro w' hSw; (try dsimp only at hSw); go_simp; try (with_reducible rfl))
        simp only [List.setIfInBounds_toArray, List.set_cons_zero, List.set_cons_succ]
        refine wpAnyH_ready (rs := [9]) (by kernel_rfl) (by simp) (AllReadyH.cons rfl (fun K9 hK9 => ?ku1x9) AllReadyH.nil)
        refine take_callv 9 30 40 [Operand.tmp 44, Operand.tmp 48] #[39, 39] rfl rfl (by kernel_rfl) rfl (fun args w => run_enter Try.func30 (by kernel_rfl) rfl args w) ?_
        refine (against_any z1 z2 x1 x2 _ v hv).mono ?_
        rintro e w9 ⟨rfl, hb9⟩
        refine ⟨_, rfl, ?_⟩
        have z9 := hb9.size
        try simp only [World.size_drew] at z9
        replace HB := HB.trans (hb9.mono (by first | exact HB.size | omega))
        have zHB9 := HB.size
        replace o2 := Own.below o2 hb9
        refine hK9.out _ _ ?su1x9 (fun hHeld => ?ru1x9)
        case su1x9 => ((try dsimp only); exact ⟨own_cell o2 _ KK.out.1.1, own_cell o2 _ KK.out.1.2, own_cell o2 _ KK.out.2.1, own_cell o2 _ KK.out.2.2⟩)
        try simp only [List.setIfInBounds_toArray, List.set_cons_zero, List.set_cons_succ]
        refine take_op (v := ?vu1x10) 10 (Op.binOp BinOp.lss 3 (Operand.tmp 49) (Operand.const (Value.int IntKind.i64 0)) 3) 4 rfl rfl rfl rfl rfl (by kernel_rfl) (by kernel_rfl) (by kernel_rfl) (fun _ _ _ h => h) ?yu1x10 (by assumption) ?ru1x10
        case yu1x10 => (intro w' hSw; (try dsimp only at hSw); go_simp; try (with_reducible rfl))
        simp only [List.setIfInBounds_toArray, List.set_cons_zero, List.set_cons_succ]
        refine wpAnyH_done (by kernel_rfl) ?_ _
        clear hHeld
        go_wp2_with fail
        go_roundw
        case rel => exact ⟨h + 1, j, by go_num, rfl, by omega, by omega, hj, HLO2.out, HHI.out, o2, HB⟩
        case measure => simp [intOf]; omega
      · have hzx : ¬ z1 < x1 := fun e => hv0 (HVL.out.2 e)
        have HHI2 := Lib.hid (show ∀ t' (ht : t' < M2.length), h ≤ t' + m → x1 ≤ (M2[t']).1 from fun t' ht' hle => by
          have h1 := up_get HM2.out t t' (by have := HT.out; omega) ht'
          rw [HZ.out] at h1
          dsimp only at h1
          omega)
        clear hzx
        go_wp2_with fail
        refine wp_region_held_drew (S := (fun w' => w'.cell? ⟨g, h * 2, none⟩ = some (.int .i64 z1) ∧ w'.cell? ⟨g, h * 2 + 1, none⟩ = some (.int .i64 z2) ∧ w'.cell? ⟨g, a * 2, none⟩ = some (.int .i64 x1) ∧ w'.cell? ⟨g, a * 2 + 1, none⟩ = some (.int .i64 x2))) (by kernel_rfl) ?_ (fun hHeld => ?_)
        · replace HB := Below.drew HB; replace o2 := Own.drew o2; (try dsimp only); exact ⟨own_cell o2 _ KK.out.1.1, own_cell o2 _ KK.out.1.2, own_cell o2 _ KK.out.2.1, own_cell o2 _ KK.out.2.2⟩
        replace HB := Below.drew HB
        replace o2 := Own.drew o2
        have zHB := HB.size
        refine take_movev (v := ?vu2x0) 0 (Operand.tmp 4) rfl rfl (by first | exact .inl rfl | exact .inr rfl) rfl (by kernel_rfl) (by kernel_rfl) (by kernel_rfl) (fun _ _ _ h => h) (by assumption) ?yu2x0 ?ru2x0
        case yu2x0 => (go_simp; try (with_reducible rfl))
        simp only [List.setIfInBounds_toArray, List.set_cons_zero, List.set_cons_succ]
        refine take_movev (v := ?vu2x1) 1 (Operand.tmp 0) rfl rfl (by first | exact .inl rfl | exact .inr rfl) rfl (by kernel_rfl) (by kernel_rfl) (by kernel_rfl) (fun _ _ _ h => h) (by assumption) ?yu2x1 ?ru2x1
        case yu2x1 => (go_simp; try (with_reducible rfl))
        simp only [List.setIfInBounds_toArray, List.set_cons_zero, List.set_cons_succ]
        refine take_movev (v := ?vu2x2) 2 (Operand.tmp 12) rfl rfl (by first | exact .inl rfl | exact .inr rfl) rfl (by kernel_rfl) (by kernel_rfl) (by kernel_rfl) (fun _ _ _ h => h) (by assumption) ?yu2x2 ?ru2x2
        case yu2x2 => (go_simp; try (with_reducible rfl))
        simp only [List.setIfInBounds_toArray, List.set_cons_zero, List.set_cons_succ]
        refine take_op (v := ?vu2x3) 3 (Op.indexAddr 36 (Operand.tmp 41) (Operand.tmp 42)) 0 rfl rfl rfl rfl rfl (by kernel_rfl) (by kernel_rfl) (by kernel_rfl) (fun _ _ _ h => h) ?yu2x3 (by assumption) ?ru2x3
        case yu2x3 => (intro w' hSw; (try dsimp only at hSw); go_simp; try (with_reducible rfl))
        simp only [List.setIfInBounds_toArray, List.set_cons_zero, List.set_cons_succ]
        refine take_op (v := ?vu2x4) 4 (Op.load 39 (Operand.tmp 43)) 39 rfl rfl rfl rfl rfl (by kernel_rfl) (by kernel_rfl) (by kernel_rfl) (fun _ _ _ h => h) ?yu2x4 (by assumption) ?ru2x4
        case yu2x4 => (intro w' hSw; (try dsimp only at hSw); go_simp; try (with_reducible rfl))
        simp only [List.setIfInBounds_toArray, List.set_cons_zero, List.set_cons_succ]
        refine take_movev (v := ?vu2x5) 5 (Operand.tmp 0) rfl rfl (by first | exact .inl rfl | exact .inr rfl) rfl (by kernel_rfl) (by kernel_rfl) (by kernel_rfl) (fun _ _ _ h => h) (by assumption) ?yu2x5 ?ru2x5
        case yu2x5 => (go_simp; try (with_reducible rfl))
        simp only [List.setIfInBounds_toArray, List.set_cons_zero, List.set_cons_succ]
        refine take_movev (v := ?vu2x6) 6 (Operand.tmp 1) rfl rfl (by first | exact .inl rfl | exact .inr rfl) rfl (by kernel_rfl) (by kernel_rfl) (by kernel_rfl) (fun _ _ _ h => h) (by assumption) ?yu2x6 ?ru2x6
        case yu2x6 => (go_simp; try (with_reducible rfl))
        simp only [List.setIfInBounds_toArray, List.set_cons_zero, List.set_cons_succ]
        refine take_op (v := ?vu2x7) 7 (Op.indexAddr 36 (Operand.tmp 45) (Operand.tmp 46)) 0 rfl rfl rfl rfl rfl (by kernel_rfl) (by kernel_rfl) (by kernel_rfl) (fun _ _ _ h => h) ?yu2x7 (by assumption) ?ru2x7
        case yu2x7 => (intro w' hSw; (try dsimp only at hSw); go_simp; try (with_reducible rfl))
        simp only [List.setIfInBounds_toArray, List.set_cons_zero, List.set_cons_succ]
        refine take_op (v := ?vu2x8) 8 (Op.load 39 (Operand.tmp 47)) 39 rfl rfl rfl rfl rfl (by kernel_rfl) (by kernel_rfl) (by kernel_rfl) (fun _ _ _ h => h) ?yu2x8 (by assumption) ?ru2x8
        case yu2x8 => (intro w' hSw; (try dsimp only at hSw); go_simp; try (with_reducible rfl))
        simp only [List.setIfInBounds_toArray, List.set_cons_zero, List.set_cons_succ]
        refine wpAnyH_ready (rs := [9]) (by kernel_rfl) (by simp) (AllReadyH.cons rfl (fun K9 hK9 => ?ku2x9) AllReadyH.nil)
        refine take_callv 9 30 40 [Operand.tmp 44, Operand.tmp 48] #[39, 39] rfl rfl (by kernel_rfl) rfl (fun args w => run_enter Try.func30 (by kernel_rfl) rfl args w) ?_
        refine (against_any z1 z2 x1 x2 _ v hv).mono ?_
        rintro e w9 ⟨rfl, hb9⟩
        refine ⟨_, rfl, ?_⟩
        have z9 := hb9.size
        try simp only [World.size_drew] at z9
        replace HB := HB.trans (hb9.mono (by first | exact HB.size | omega))
        have zHB9 := HB.size
        replace o2 := Own.below o2 hb9
        refine hK9.out _ _ ?su2x9 (fun hHeld => ?ru2x9)
        case su2x9 => ((try dsimp only); exact ⟨own_cell o2 _ KK.out.1.1, own_cell o2 _ KK.out.1.2, own_cell o2 _ KK.out.2.1, own_cell o2 _ KK.out.2.2⟩)
        try simp only [List.setIfInBounds_toArray, List.set_cons_zero, List.set_cons_succ]
        refine take_op (v := ?vu2x10) 10 (Op.binOp BinOp.lss 3 (Operand.tmp 49) (Operand.const (Value.int IntKind.i64 0)) 3) 4 rfl rfl rfl rfl rfl (by kernel_rfl) (by kernel_rfl) (by kernel_rfl) (fun _ _ _ h => h) ?yu2x10 (by assumption) ?ru2x10
        case yu2x10 => (intro w' hSw; (try dsimp only at hSw); go_simp; try (with_reducible rfl))
        simp only [List.setIfInBounds_toArray, List.set_cons_zero, List.set_cons_succ]
        refine wpAnyH_done (by kernel_rfl) ?_ _
        clear hHeld
        go_wp2_with fail
        go_roundw
        case rel => exact ⟨i, h, rfl, rfl, hi, by omega, by omega, HLO.out, HHI2.out, o2, HB⟩
        case measure => simp [intOf]; omega
    · have hltI : ¬ (i : Int) < (j : Int) := by omega
      obtain rfl : i = j := by omega
      obtain ⟨B1, B2, hBB, hB1⟩ : ∃ B1 B2, M2 = B1 ++ B2 ∧ B1.length = i - m := ⟨M2.take (i - m), M2.drop (i - m), (List.take_append_drop _ _).symm, by rw [List.length_take, HL2.out]; omega⟩
      obtain ⟨d, hd⟩ : ∃ d, i - m = d := ⟨_, rfl⟩
      rw [hd] at hB1
      have hsort : sortW ((x1, x2) :: M2) = B1 ++ (x1, x2) :: B2 := by
        rw [hBB]
        refine sort_first _ B1 B2 (hBB ▸ HM2.out) (fun y hy => ?_) (fun y hy => ?_)
        · obtain ⟨t, ht, rfl⟩ := List.getElem_of_mem hy
          have := HLO.out t (by rw [hBB, List.length_append]; omega) (by omega)
          simp only [hBB, List.getElem_append_left ht] at this
          exact this
        · obtain ⟨t, ht, rfl⟩ := List.getElem_of_mem hy
          have := HHI.out (B1.length + t) (by rw [hBB, List.length_append]; omega) (by omega)
          simp only [hBB] at this
          rw [List.getElem_append_right (by omega)] at this
          simpa using this
      have HSO := Lib.hid hsort
      have HD1 := Lib.hid hB1
      have hid : i ≤ m + d := by omega
      have hid2 : m + d ≤ i := by omega
      have hi1 : IntKind.i64.wrap ((i : Int) - 1) = ((a + d : Nat) : Int) := (w64k (by omega) (by omega)).trans (by omega)
      obtain ⟨ad, had⟩ : ∃ ad, a + d = ad := ⟨_, rfl⟩
      rw [had] at hi1
      have had1 : ad ≤ a + d := by omega
      have had2 : a + d ≤ ad := by omega
      have o2' : Own wr base 39 2 (some ⟨g, 0, none⟩) N c (fcells (P ++ (B1.take 0 ++ ((x1, x2) :: (B1.drop 0 ++ (B2 ++ T)))))) := by rw [hBB] at o2; simpa using o2
      clear hBB hB1 hd had hsort o2 HLO HHI
      go_wp2_with fail
      go_loopw [13] (fun s wr' => ∃ k k' : Nat, s = .int .i64 k ∧ a + k' ≤ k ∧ k ≤ a + k' ∧ k' ≤ d ∧ Own wr' base 39 2 (some ⟨g, 0, none⟩) N c (fcells (P ++ (B1.take k' ++ ((x1, x2) :: (B1.drop k' ++ (B2 ++ T)))))) ∧ Below base w wr') (fun s _ => ad - (intOf s).toNat)
      case atStart => exact ⟨a, 0, rfl, by omega, by omega, by omega, o2', HB⟩
      case round =>
        clear o2' HB hz
        obtain ⟨k, k', rfl, hk1, hk2, hk3, o2, HB⟩ := hrel
        have hz := HB.size
        by_cases hlt : k < ad
        · have hkI : (k : Int) < (ad : Int) := by omega
          have hkB : k' < B1.length := by have := HD1.out; omega
          obtain ⟨y, hy⟩ : ∃ y, B1[k'] = y := ⟨_, rfl⟩
          have HS := swap_ok (P ++ B1.take k') [] (B1.drop (k' + 1) ++ (B2 ++ T)) (x1, x2) y k (k + 1) (by rw [List.length_append, List.length_take, HA.out]; omega) (by simp)
          have eL : P ++ (B1.take k' ++ ((x1, x2) :: (B1.drop k' ++ (B2 ++ T)))) = (P ++ B1.take k') ++ (x1, x2) :: ([] ++ y :: (B1.drop (k' + 1) ++ (B2 ++ T))) := by rw [drop_cons2 B1 k' hkB, hy]; simp
          have eR : (P ++ B1.take k') ++ y :: ([] ++ (x1, x2) :: (B1.drop (k' + 1) ++ (B2 ++ T))) = P ++ (B1.take (k' + 1) ++ ((x1, x2) :: (B1.drop (k' + 1) ++ (B2 ++ T)))) := by rw [List.take_succ_eq_append_getElem hkB, hy]; simp
          rw [eL] at o2
          rw [eR] at HS
          obtain ⟨L, hL⟩ : ∃ L, (P ++ B1.take k') ++ (x1, x2) :: ([] ++ y :: (B1.drop (k' + 1) ++ (B2 ++ T))) = L := ⟨_, rfl⟩
          obtain ⟨L', hL'⟩ : ∃ L', P ++ (B1.take (k' + 1) ++ ((x1, x2) :: (B1.drop (k' + 1) ++ (B2 ++ T)))) = L' := ⟨_, rfl⟩
          rw [hL, hL'] at HS
          rw [hL] at o2
          have HL' := Lib.hid hL'
          obtain ⟨y1, y2⟩ := y
          have SW := Lib.hid HS
          have hdm := HD1.out
          have hk0 : (0 : Int) ≤ (k : Int) := by omega
          have hk4 : (0 : Int) ≤ (k : Int) + 1 := by omega
          have hk5 : (k : Int) < (N : Int) := by omega
          have hk6 : (k : Int) + 1 < (N : Int) := by omega
          have hkN : k + 1 < N := by omega
          have hk7 : IntKind.i64.wrap ((k : Int) + 1) = (k : Int) + 1 := w64k (by omega) (by omega)
          clear HS hL hL' eL eR hy hkB hdm
          go_wp2_with fail
          refine wp_region_held_drew (S := (fun _ => True)) (by kernel_rfl) ?_ (fun hHeld => ?_)
          · replace HB := Below.drew HB; replace o2 := Own.drew o2; (try dsimp only); try trivial
          replace HB := Below.drew HB
          replace o2 := Own.drew o2
          have zHB := HB.size
          refine take_movev (v := ?vu3x0) 0 (Operand.tmp 0) rfl rfl (by first | exact .inl rfl | exact .inr rfl) rfl (by kernel_rfl) (by kernel_rfl) (by kernel_rfl) (fun _ _ _ h => h) (by assumption) ?yu3x0 ?ru3x0
          case yu3x0 => (go_simp; try (with_reducible rfl))
          simp only [List.setIfInBounds_toArray, List.set_cons_zero, List.set_cons_succ]
          refine take_movev (v := ?vu3x1) 1 (Operand.tmp 13) rfl rfl (by first | exact .inl rfl | exact .inr rfl) rfl (by kernel_rfl) (by kernel_rfl) (by kernel_rfl) (fun _ _ _ h => h) (by assumption) ?yu3x1 ?ru3x1
          case yu3x1 => (go_simp; try (with_reducible rfl))
          simp only [List.setIfInBounds_toArray, List.set_cons_zero, List.set_cons_succ]
          refine take_movev (v := ?vu3x2) 2 (Operand.tmp 0) rfl rfl (by first | exact .inl rfl | exact .inr rfl) rfl (by kernel_rfl) (by kernel_rfl) (by kernel_rfl) (fun _ _ _ h => h) (by assumption) ?yu3x2 ?ru3x2
          case yu3x2 => (go_simp; try (with_reducible rfl))
          simp only [List.setIfInBounds_toArray, List.set_cons_zero, List.set_cons_succ]
          refine take_movev (v := ?vu3x3) 3 (Operand.tmp 13) rfl rfl (by first | exact .inl rfl | exact .inr rfl) rfl (by kernel_rfl) (by kernel_rfl) (by kernel_rfl) (fun _ _ _ h => h) (by assumption) ?yu3x3 ?ru3x3
          case yu3x3 => (go_simp; try (with_reducible rfl))
          simp only [List.setIfInBounds_toArray, List.set_cons_zero, List.set_cons_succ]
          refine take_op (v := ?vu3x4) 4 (Op.binOp BinOp.add 3 (Operand.tmp 64) (Operand.const (Value.int IntKind.i64 1)) 3) 3 rfl rfl rfl rfl rfl (by kernel_rfl) (by kernel_rfl) (by kernel_rfl) (fun _ _ _ h => h) ?yu3x4 (by assumption) ?ru3x4
          case yu3x4 => (intro w' hSw; (try dsimp only at hSw); go_simp; try (with_reducible rfl))
          simp only [List.setIfInBounds_toArray, List.set_cons_zero, List.set_cons_succ]
          refine take_movev (v := ?vu3x5) 5 (Operand.tmp 0) rfl rfl (by first | exact .inl rfl | exact .inr rfl) rfl (by kernel_rfl) (by kernel_rfl) (by kernel_rfl) (fun _ _ _ h => h) (by assumption) ?yu3x5 ?ru3x5
          case yu3x5 => (go_simp; try (with_reducible rfl))
          simp only [List.setIfInBounds_toArray, List.set_cons_zero, List.set_cons_succ]
          refine take_movev (v := ?vu3x6) 6 (Operand.tmp 13) rfl rfl (by first | exact .inl rfl | exact .inr rfl) rfl (by kernel_rfl) (by kernel_rfl) (by kernel_rfl) (fun _ _ _ h => h) (by assumption) ?yu3x6 ?ru3x6
          case yu3x6 => (go_simp; try (with_reducible rfl))
          simp only [List.setIfInBounds_toArray, List.set_cons_zero, List.set_cons_succ]
          refine take_op (v := ?vu3x7) 7 (Op.binOp BinOp.add 3 (Operand.tmp 67) (Operand.const (Value.int IntKind.i64 1)) 3) 3 rfl rfl rfl rfl rfl (by kernel_rfl) (by kernel_rfl) (by kernel_rfl) (fun _ _ _ h => h) ?yu3x7 (by assumption) ?ru3x7
          case yu3x7 => (intro w' hSw; (try dsimp only at hSw); go_simp; try (with_reducible rfl))
          simp only [List.setIfInBounds_toArray, List.set_cons_zero, List.set_cons_succ]
          refine take_op (v := ?vu3x8) 8 (Op.indexAddr 36 (Operand.tmp 66) (Operand.tmp 68)) 0 rfl rfl rfl rfl rfl (by kernel_rfl) (by kernel_rfl) (by kernel_rfl) (fun _ _ _ h => h) ?yu3x8 (by assumption) ?ru3x8
          case yu3x8 => (intro w' hSw; (try dsimp only at hSw); go_simp; try (with_reducible rfl))
          simp only [List.setIfInBounds_toArray, List.set_cons_zero, List.set_cons_succ]
          refine take_movev (v := ?vu3x10) 10 (Operand.tmp 0) rfl rfl (by first | exact .inl rfl | exact .inr rfl) rfl (by kernel_rfl) (by kernel_rfl) (by kernel_rfl) (fun _ _ _ h => h) (by assumption) ?yu3x10 ?ru3x10
          case yu3x10 => (go_simp; try (with_reducible rfl))
          simp only [List.setIfInBounds_toArray, List.set_cons_zero, List.set_cons_succ]
          refine take_movev (v := ?vu3x11) 11 (Operand.tmp 13) rfl rfl (by first | exact .inl rfl | exact .inr rfl) rfl (by kernel_rfl) (by kernel_rfl) (by kernel_rfl) (fun _ _ _ h => h) (by assumption) ?yu3x11 ?ru3x11
          case yu3x11 => (go_simp; try (with_reducible rfl))
          simp only [List.setIfInBounds_toArray, List.set_cons_zero, List.set_cons_succ]
          refine take_op (v := ?vu3x12) 12 (Op.indexAddr 36 (Operand.tmp 71) (Operand.tmp 72)) 0 rfl rfl rfl rfl rfl (by kernel_rfl) (by kernel_rfl) (by kernel_rfl) (fun _ _ _ h => h) ?yu3x12 (by assumption) ?ru3x12
          case yu3x12 => (intro w' hSw; (try dsimp only at hSw); go_simp; try (with_reducible rfl))
          simp only [List.setIfInBounds_toArray, List.set_cons_zero, List.set_cons_succ]
          refine wpAnyH_ready (rs := [9, 13]) (by kernel_rfl) (by simp) (AllReadyH.cons rfl (fun K9 hK9 => ?ku3x9) (AllReadyH.cons rfl (fun K13 hK13 => ?ku3x13) AllReadyH.nil))
          case ku3x9 =>
            refine take_any 9 (Op.load 39 (Operand.tmp 69)) 39 rfl rfl rfl (by kernel_rfl) (v := .agg #[.int .i64 y1, .int .i64 y2]) (by have k1 : wr.cell? ⟨g, (k + 1) * 2, none⟩ = _ := own_cell o2 _ SW.out.c3; have k2 : wr.cell? ⟨g, (k + 1) * 2 + 1, none⟩ = _ := own_cell o2 _ SW.out.c4; go_simp; try (with_reducible rfl)) ?_
            refine hK9.out _ _ ?su3xb1x9 (fun hHeld => ?ru3xb1x9)
            case su3xb1x9 => ((try dsimp only); try trivial)
            try simp only [List.setIfInBounds_toArray, List.set_cons_zero, List.set_cons_succ]
            refine wpAnyH_ready (rs := [13]) (by kernel_rfl) (by simp) (AllReadyH.cons rfl (fun K13 hK13 => ?ku3xb1x13) AllReadyH.nil)
            refine take_any 13 (Op.load 39 (Operand.tmp 73)) 39 rfl rfl rfl (by kernel_rfl) (v := .agg #[.int .i64 x1, .int .i64 x2]) (by have k1 : wr.cell? ⟨g, k * 2, none⟩ = _ := own_cell o2 _ SW.out.c1; have k2 : wr.cell? ⟨g, k * 2 + 1, none⟩ = _ := own_cell o2 _ SW.out.c2; go_simp; try (with_reducible rfl)) ?_
            refine hK13.out _ _ ?su3xb1x13 (fun hHeld => ?ru3xb1x13)
            case su3xb1x13 => ((try dsimp only); try trivial)
            try simp only [List.setIfInBounds_toArray, List.set_cons_zero, List.set_cons_succ]
            refine take_op (v := ?vu3xb1x14) 14 (Op.indexAddr 36 (Operand.tmp 61) (Operand.tmp 62)) 0 rfl rfl rfl rfl rfl (by kernel_rfl) (by kernel_rfl) (by kernel_rfl) (fun _ _ _ h => h) ?yu3xb1x14 (by assumption) ?ru3xb1x14
            case yu3xb1x14 => (intro w' hSw; (try dsimp only at hSw); go_simp; try (with_reducible rfl))
            simp only [List.setIfInBounds_toArray, List.set_cons_zero, List.set_cons_succ]
            refine wpAnyH_ready (rs := [15]) (by kernel_rfl) (by simp) (AllReadyH.cons rfl (fun K15 hK15 => ?ku3xb1x15) AllReadyH.nil)
            refine take_store 15 (Op.store 39 (Operand.tmp 75) (Operand.tmp 70)) 0 rfl rfl rfl (by kernel_rfl) (w' := (wr.drew.setCell ⟨g, k * 2, none⟩ (.int .i64 y1)).setCell ⟨g, k * 2 + 1, none⟩ (.int .i64 y2)) (by have f := own_thaw o2; have hfl := o2.len; obtain ⟨v1, hv1⟩ : ∃ v1, _ := own_has o2 (k * 2) (by omega); obtain ⟨v2, hv2⟩ : ∃ v2, _ := own_has o2 (k * 2 + 1) (by omega); (try simp only [World.cell?_drew, World.frozen?_drew] at f hv1 hv2); go_simp; try (with_reducible rfl)) ?_
            refine hK15.out _ _ (trivial) (fun hHeld => ?_)
            replace o2 := (o2.set (k := k * 2) (.int .i64 y1)).set (k := k * 2 + 1) (.int .i64 y2)
            replace HB := (HB.setCell (p := ⟨g, k * 2, none⟩) hg0 (.int .i64 y1)).setCell (p := ⟨g, k * 2 + 1, none⟩) hg0 (.int .i64 y2)
            generalize ((wr.drew.setCell ⟨g, k * 2, none⟩ (.int .i64 y1)).setCell ⟨g, k * 2 + 1, none⟩ (.int .i64 y2)) = wq at *
            refine take_op (v := ?vu3xb1x16) 16 (Op.indexAddr 36 (Operand.tmp 63) (Operand.tmp 65)) 0 rfl rfl rfl rfl rfl (by kernel_rfl) (by kernel_rfl) (by kernel_rfl) (fun _ _ _ h => h) ?yu3xb1x16 (by assumption) ?ru3xb1x16
            case yu3xb1x16 => (intro w' hSw; (try dsimp only at hSw); go_simp; try (with_reducible rfl))
            simp only [List.setIfInBounds_toArray, List.set_cons_zero, List.set_cons_succ]
            refine wpAnyH_ready (rs := [17]) (by kernel_rfl) (by simp) (AllReadyH.cons rfl (fun K17 hK17 => ?ku3xb1x17) AllReadyH.nil)
            refine take_store 17 (Op.store 39 (Operand.tmp 76) (Operand.tmp 74)) 0 rfl rfl rfl (by kernel_rfl) (w' := (wq.setCell ⟨g, (k + 1) * 2, none⟩ (.int .i64 x1)).setCell ⟨g, (k + 1) * 2 + 1, none⟩ (.int .i64 x2)) (by have f := own_thaw o2; have hfl := o2.len; obtain ⟨v1, hv1⟩ : ∃ v1, _ := own_has o2 ((k + 1) * 2) (by omega); obtain ⟨v2, hv2⟩ : ∃ v2, _ := own_has o2 ((k + 1) * 2 + 1) (by omega); (try simp only [World.cell?_drew, World.frozen?_drew] at f hv1 hv2); go_simp; try (with_reducible rfl)) ?_
            refine hK17.out _ _ (trivial) (fun hHeld => ?_)
            replace o2 := (o2.set (k := (k + 1) * 2) (.int .i64 x1)).set (k := (k + 1) * 2 + 1) (.int .i64 x2)
            replace HB := (HB.setCell (p := ⟨g, (k + 1) * 2, none⟩) hg0 (.int .i64 x1)).setCell (p := ⟨g, (k + 1) * 2 + 1, none⟩) hg0 (.int .i64 x2)
            generalize ((wq.setCell ⟨g, (k + 1) * 2, none⟩ (.int .i64 x1)).setCell ⟨g, (k + 1) * 2 + 1, none⟩ (.int .i64 x2)) = wq at *
            refine wpAnyH_done (by kernel_rfl) ?_ _
            clear hHeld
            have o3 : Own wq base 39 2 (some ⟨g, 0, none⟩) N c (fcells L') := by first | exact SW.out.s1 ▸ o2 | exact SW.out.s2 ▸ o2
            go_wp2_with fail
            go_roundw
            case rel => exact ⟨k + 1, k' + 1, by go_num, by omega, by omega, by omega, by rw [HL'.out]; exact o3, HB⟩
            case measure => simp [intOf]; omega
          case ku3x13 =>
            refine take_any 13 (Op.load 39 (Operand.tmp 73)) 39 rfl rfl rfl (by kernel_rfl) (v := .agg #[.int .i64 x1, .int .i64 x2]) (by have k1 : wr.cell? ⟨g, k * 2, none⟩ = _ := own_cell o2 _ SW.out.c1; have k2 : wr.cell? ⟨g, k * 2 + 1, none⟩ = _ := own_cell o2 _ SW.out.c2; go_simp; try (with_reducible rfl)) ?_
            refine hK13.out _ _ ?su3xb5x13 (fun hHeld => ?ru3xb5x13)
            case su3xb5x13 => ((try dsimp only); try trivial)
            try simp only [List.setIfInBounds_toArray, List.set_cons_zero, List.set_cons_succ]
            refine wpAnyH_ready (rs := [9]) (by kernel_rfl) (by simp) (AllReadyH.cons rfl (fun K9 hK9 => ?ku3xb5x9) AllReadyH.nil)
            refine take_any 9 (Op.load 39 (Operand.tmp 69)) 39 rfl rfl rfl (by kernel_rfl) (v := .agg #[.int .i64 y1, .int .i64 y2]) (by have k1 : wr.cell? ⟨g, (k + 1) * 2, none⟩ = _ := own_cell o2 _ SW.out.c3; have k2 : wr.cell? ⟨g, (k + 1) * 2 + 1, none⟩ = _ := own_cell o2 _ SW.out.c4; go_simp; try (with_reducible rfl)) ?_
            refine hK9.out _ _ ?su3xb5x9 (fun hHeld => ?ru3xb5x9)
            case su3xb5x9 => ((try dsimp only); try trivial)
            try simp only [List.setIfInBounds_toArray, List.set_cons_zero, List.set_cons_succ]
            refine take_op (v := ?vu3xb5x14) 14 (Op.indexAddr 36 (Operand.tmp 61) (Operand.tmp 62)) 0 rfl rfl rfl rfl rfl (by kernel_rfl) (by kernel_rfl) (by kernel_rfl) (fun _ _ _ h => h) ?yu3xb5x14 (by assumption) ?ru3xb5x14
            case yu3xb5x14 => (intro w' hSw; (try dsimp only at hSw); go_simp; try (with_reducible rfl))
            simp only [List.setIfInBounds_toArray, List.set_cons_zero, List.set_cons_succ]
            refine wpAnyH_ready (rs := [15]) (by kernel_rfl) (by simp) (AllReadyH.cons rfl (fun K15 hK15 => ?ku3xb5x15) AllReadyH.nil)
            refine take_store 15 (Op.store 39 (Operand.tmp 75) (Operand.tmp 70)) 0 rfl rfl rfl (by kernel_rfl) (w' := (wr.drew.setCell ⟨g, k * 2, none⟩ (.int .i64 y1)).setCell ⟨g, k * 2 + 1, none⟩ (.int .i64 y2)) (by have f := own_thaw o2; have hfl := o2.len; obtain ⟨v1, hv1⟩ : ∃ v1, _ := own_has o2 (k * 2) (by omega); obtain ⟨v2, hv2⟩ : ∃ v2, _ := own_has o2 (k * 2 + 1) (by omega); (try simp only [World.cell?_drew, World.frozen?_drew] at f hv1 hv2); go_simp; try (with_reducible rfl)) ?_
            refine hK15.out _ _ (trivial) (fun hHeld => ?_)
            replace o2 := (o2.set (k := k * 2) (.int .i64 y1)).set (k := k * 2 + 1) (.int .i64 y2)
            replace HB := (HB.setCell (p := ⟨g, k * 2, none⟩) hg0 (.int .i64 y1)).setCell (p := ⟨g, k * 2 + 1, none⟩) hg0 (.int .i64 y2)
            generalize ((wr.drew.setCell ⟨g, k * 2, none⟩ (.int .i64 y1)).setCell ⟨g, k * 2 + 1, none⟩ (.int .i64 y2)) = wq at *
            refine take_op (v := ?vu3xb5x16) 16 (Op.indexAddr 36 (Operand.tmp 63) (Operand.tmp 65)) 0 rfl rfl rfl rfl rfl (by kernel_rfl) (by kernel_rfl) (by kernel_rfl) (fun _ _ _ h => h) ?yu3xb5x16 (by assumption) ?ru3xb5x16
            case yu3xb5x16 => (intro w' hSw; (try dsimp only at hSw); go_simp; try (with_reducible rfl))
            simp only [List.setIfInBounds_toArray, List.set_cons_zero, List.set_cons_succ]
            refine wpAnyH_ready (rs := [17]) (by kernel_rfl) (by simp) (AllReadyH.cons rfl (fun K17 hK17 => ?ku3xb5x17) AllReadyH.nil)
            refine take_store 17 (Op.store 39 (Operand.tmp 76) (Operand.tmp 74)) 0 rfl rfl rfl (by kernel_rfl) (w' := (wq.setCell ⟨g, (k + 1) * 2, none⟩ (.int .i64 x1)).setCell ⟨g, (k + 1) * 2 + 1, none⟩ (.int .i64 x2)) (by have f := own_thaw o2; have hfl := o2.len; obtain ⟨v1, hv1⟩ : ∃ v1, _ := own_has o2 ((k + 1) * 2) (by omega); obtain ⟨v2, hv2⟩ : ∃ v2, _ := own_has o2 ((k + 1) * 2 + 1) (by omega); (try simp only [World.cell?_drew, World.frozen?_drew] at f hv1 hv2); go_simp; try (with_reducible rfl)) ?_
            refine hK17.out _ _ (trivial) (fun hHeld => ?_)
            replace o2 := (o2.set (k := (k + 1) * 2) (.int .i64 x1)).set (k := (k + 1) * 2 + 1) (.int .i64 x2)
            replace HB := (HB.setCell (p := ⟨g, (k + 1) * 2, none⟩) hg0 (.int .i64 x1)).setCell (p := ⟨g, (k + 1) * 2 + 1, none⟩) hg0 (.int .i64 x2)
            generalize ((wq.setCell ⟨g, (k + 1) * 2, none⟩ (.int .i64 x1)).setCell ⟨g, (k + 1) * 2 + 1, none⟩ (.int .i64 x2)) = wq at *
            refine wpAnyH_done (by kernel_rfl) ?_ _
            clear hHeld
            have o3 : Own wq base 39 2 (some ⟨g, 0, none⟩) N c (fcells L') := by first | exact SW.out.s1 ▸ o2 | exact SW.out.s2 ▸ o2
            go_wp2_with fail
            go_roundw
            case rel => exact ⟨k + 1, k' + 1, by go_num, by omega, by omega, by omega, by rw [HL'.out]; exact o3, HB⟩
            case measure => simp [intOf]; omega
        · have hkI : ¬ (k : Int) < (ad : Int) := by omega
          obtain rfl : k' = d := by omega
          have e1 := HSO.out
          rw [List.take_of_length_le (Nat.le_of_eq HD1.out), List.drop_of_length_le (Nat.le_of_eq HD1.out)] at o2
          have HF := Lib.hid (show P ++ (B1 ++ ((x1, x2) :: ([] ++ (B2 ++ T)))) = P ++ (sortW ((x1, x2) :: M2) ++ T) by rw [e1]; simp)
          clear e1
          go_wp2_with fail
          try rw [Exit.noGoto_ret]
          try simp only [Exit.inBlock, Exit.then]
          refine bodyPost_ret (results_none rfl _ _ _) rfl ?_
          exact ⟨rfl, HF.out ▸ o2, HB⟩
end LenW
end Go.Proofs.Ytpnccehaomikbaa
