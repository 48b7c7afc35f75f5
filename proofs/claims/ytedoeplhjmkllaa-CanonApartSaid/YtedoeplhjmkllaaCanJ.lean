/- Walks over the laws of package canon: Apart. -/
import Derived.Test.YtedoeplhjmkllaaCanB
import Derived.Deep.CutRange
import Derived.Deep.DeepCutAuto
namespace Go.Proofs.Ytedoeplhjmkllaa
set_option linter.unusedVariables false
set_option linter.unusedSimpArgs false
set_option linter.unnecessarySimpa false
open Go.RowKit
namespace LenW
open Classical

/-- Two words that are used. -/
theorem apart_num {l : List Int} (hk : chkL l = 0) {i k : Nat} (hi : i < l.length) (hkl : k < l.length) (hne : i ≠ k) (ha : (wordF l i).2 ≠ 0) (hb : ¬ (wordF l k).2 < (wordF l i).2) :
    ∃ x p y q : Nat, wordF l i = ((x : Int), (p : Int)) ∧ wordF l k = ((y : Int), (q : Int)) ∧ 0 < p ∧ p ≤ q ∧ q ≤ 15 ∧ x ≤ 32768 ∧ y ≤ 32768 ∧ (q = p → i < k → x < y) ∧ y / 2 ^ (q - p) ≠ x ∧ (p < q → x < y / 2 ^ (q - p)) := by
  have hV : ∀ s, (wordF l s).2 ≠ 0 → Vs l s := fun s h => Decidable.byContradiction fun e => by rw [wordF_N e] at h; exact h rfl
  have hVi := hV i ha
  have hp := wd_pos hVi
  have hVk : Vs l k := by
    refine hV k (fun e => hb ?_)
    rw [e, wordF_V hVi]
    show (0 : Int) < (wd l i : Int)
    omega
  rw [wordF_V hVi, wordF_V hVk] at hb
  have hpq : wd l i ≤ wd l k := by
    have : ¬ (wd l k : Int) < (wd l i : Int) := hb
    omega
  have hle : ∀ s, Vs l s → nm l s ≤ 32768 := fun s hs => by
    have h1 := nm_lt hk hs
    have h2 : (2 : Nat) ^ wd l s ≤ 2 ^ 15 := Nat.pow_le_pow_right (by omega) (wd_le hk hs)
    omega
  refine ⟨nm l i, wd l i, nm l k, wd l k, wordF_V hVi, wordF_V hVk, hp, hpq, wd_le hk hVk, hle i hVi, hle k hVk, ?_, ?_, fun h => word_apart hVi hVk h⟩
  · intro he hik
    have := rk_mono hVi hik he.symm
    unfold nm
    rw [he]
    omega
  · intro e
    exact hne (word_free hVi hVk hpq e)
set_option maxRecDepth 100000 in
set_option maxHeartbeats 8000000 in
theorem apart_law (A : Option Addr) (n c : Nat) (l : List Int) (w : World)
    (h : Rd w w.heap.size 1 A n (ints l)) (hn : n ≤ maxLen) :
    Calls Try.prog 6 #[.slice A n c] w fun e w' => e = .returned (.bool true) ∧ Below w.heap.size w w' := by
  unfold maxLen at hn
  by_cases h1 : (n : Int) > 60
  · clear h
    go_enter Try.func6, Try.ntmps6
    go_wp2_with fail
    refine (awake_any _).mono ?_
    rintro e w7 ⟨rfl, hb7⟩
    go_wp2_with fail
    go_ret
    exact ⟨rfl, hb7⟩
  have hl : l.length = n := rd_len h
  by_cases hv : chkL l = 0
  · have C1 := words_yes A n c l w h (by omega) hv
    have HA := Lib.hid (fun i k => @apart_num l hv i k)
    clear hv h
    have hnn : ((n : Int) != (n : Int)) = false := by simp
    go_enter Try.func6, Try.ntmps6
    go_wp2_with fail
    refine C1.mono ?_
    rintro e w1 ⟨gW, rfl, hgW, bW, HB⟩
    clear C1
    go_wp2_with fail
    go_loopw [5] (fun i wr => ∃ j : Nat, i = .int .i64 j ∧ j ≤ n ∧ Below w1.heap.size w1 wr) (fun i _ => n - (intOf i).toNat)
    case atStart => exact ⟨0, rfl, by omega, Below.refl _ _⟩
    case round =>
      obtain ⟨i, rfl, hi, hbw⟩ := hrel
      by_cases hlt : i < n
      · have hiI : (i : Int) < (n : Int) := by omega
        go_wp2_with fail
        go_loopw [6] (fun k wr' => ∃ j : Nat, k = .int .i64 j ∧ j ≤ n ∧ Below w1.heap.size w1 wr') (fun i _ => n - (intOf i).toNat)
        case atStart => exact ⟨0, rfl, by omega, hbw⟩
        case round =>
          obtain ⟨k, rfl, hk, hbw2⟩ := hrel
          clear hbw
          by_cases hlk : k < n
          · have hkI : (k : Int) < (n : Int) := by omega
            have hi0 : (0 : Int) ≤ (i : Int) := by omega
            have hk0 : (0 : Int) ≤ (k : Int) := by omega
            have hsz := hbw2.size
            have hsz1 := HB.size
            have bWr := bW.below hbw2 bW.lt
            have hgl := bWr.lt
            have hgl1 := bW.lt
            obtain ⟨c0, c1⟩ := fcells_at (wordsF l) i (by rw [wordsF_len]; omega)
            obtain ⟨e0, e1⟩ := fcells_at (wordsF l) k (by rw [wordsF_len]; omega)
            rw [wordsF_at l i (by omega)] at c0 c1
            rw [wordsF_at l k (by omega)] at e0 e1
            have HC0 := Lib.hid c0
            have HC1 := Lib.hid c1
            have HE0 := Lib.hid e0
            have HE1 := Lib.hid e1
            have HAP := Lib.hid (HA.out i k (by omega) (by omega))
            obtain ⟨⟨a1, a2⟩, ha⟩ : ∃ z, wordF l i = z := ⟨_, rfl⟩
            obtain ⟨⟨b1, b2⟩, hb⟩ : ∃ z, wordF l k = z := ⟨_, rfl⟩
            rw [ha] at HC0 HC1 HAP
            rw [hb] at HE0 HE1 HAP
            dsimp only at HC0 HC1 HE0 HE1
            clear c0 c1 e0 e1 ha hb
            go_upto_region 14 with fail
            go_cut [7, 8] from 38 to 119 (fun p7 p8 wx => ∃ (g1 g2 : Nat), p7 = .pointer (some ⟨g1, 0, none⟩) ∧ p8 = .pointer (some ⟨g2, 0, none⟩) ∧ Blk wx g1 47 #[.int .i64 a1, .int .i64 a2] ∧ Blk wx g2 47 #[.int .i64 b1, .int .i64 b2] ∧ Below w1.heap.size w1 wx)
            case first =>
              have HW := hbw2
              have bX := bWr
              refine wp_region_held_drew (S := (fun w' => w'.cell? ⟨gW, i * 2, none⟩ = some (.int .i64 a1) ∧ w'.cell? ⟨gW, i * 2 + 1, none⟩ = some (.int .i64 a2) ∧ w'.cell? ⟨gW, k * 2, none⟩ = some (.int .i64 b1) ∧ w'.cell? ⟨gW, k * 2 + 1, none⟩ = some (.int .i64 b2))) (by kernel_rfl) ?_ (fun hHeld => ?_)
              · replace HW := Below.drew HW; replace bX := Blk.drew bX; (try dsimp only); exact ⟨bX.cell_ _ HC0.out, bX.cell_ _ HC1.out, bX.cell_ _ HE0.out, bX.cell_ _ HE1.out⟩
              replace HW := Below.drew HW
              replace bX := Blk.drew bX
              have zHW := HW.size
              refine take_move 0 (Operand.tmp 3) rfl rfl (by first | exact .inl rfl | exact .inr rfl) rfl (by kernel_rfl) (by kernel_rfl) (by kernel_rfl) (fun _ _ _ h => h) (by assumption) ?_
              simp only [List.setIfInBounds_toArray, List.set_cons_zero, List.set_cons_succ]
              refine take_move 1 (Operand.tmp 5) rfl rfl (by first | exact .inl rfl | exact .inr rfl) rfl (by kernel_rfl) (by kernel_rfl) (by kernel_rfl) (fun _ _ _ h => h) (by assumption) ?_
              simp only [List.setIfInBounds_toArray, List.set_cons_zero, List.set_cons_succ]
              refine take_op (v := ?vu1x2) 2 (Op.indexAddr 24 (Operand.tmp 44) (Operand.tmp 45)) 0 rfl rfl rfl rfl rfl (by kernel_rfl) (by kernel_rfl) (by kernel_rfl) (fun _ _ _ h => h) ?yu1x2 (by assumption) ?ru1x2
              case yu1x2 => (intro w' hSw; (try dsimp only at hSw); go_simp; try (with_reducible rfl))
              simp only [List.setIfInBounds_toArray, List.set_cons_zero, List.set_cons_succ]
              refine take_op (v := ?vu1x3) 3 (Op.load 47 (Operand.tmp 46)) 47 rfl rfl rfl rfl rfl (by kernel_rfl) (by kernel_rfl) (by kernel_rfl) (fun _ _ _ h => h) ?yu1x3 (by assumption) ?ru1x3
              case yu1x3 => (intro w' hSw; (try dsimp only at hSw); go_simp; try (with_reducible rfl))
              simp only [List.setIfInBounds_toArray, List.set_cons_zero, List.set_cons_succ]
              refine take_move 4 (Operand.tmp 3) rfl rfl (by first | exact .inl rfl | exact .inr rfl) rfl (by kernel_rfl) (by kernel_rfl) (by kernel_rfl) (fun _ _ _ h => h) (by assumption) ?_
              simp only [List.setIfInBounds_toArray, List.set_cons_zero, List.set_cons_succ]
              refine take_move 5 (Operand.tmp 6) rfl rfl (by first | exact .inl rfl | exact .inr rfl) rfl (by kernel_rfl) (by kernel_rfl) (by kernel_rfl) (fun _ _ _ h => h) (by assumption) ?_
              simp only [List.setIfInBounds_toArray, List.set_cons_zero, List.set_cons_succ]
              refine take_op (v := ?vu1x6) 6 (Op.indexAddr 24 (Operand.tmp 48) (Operand.tmp 49)) 0 rfl rfl rfl rfl rfl (by kernel_rfl) (by kernel_rfl) (by kernel_rfl) (fun _ _ _ h => h) ?yu1x6 (by assumption) ?ru1x6
              case yu1x6 => (intro w' hSw; (try dsimp only at hSw); go_simp; try (with_reducible rfl))
              simp only [List.setIfInBounds_toArray, List.set_cons_zero, List.set_cons_succ]
              refine take_op (v := ?vu1x7) 7 (Op.load 47 (Operand.tmp 50)) 47 rfl rfl rfl rfl rfl (by kernel_rfl) (by kernel_rfl) (by kernel_rfl) (fun _ _ _ h => h) ?yu1x7 (by assumption) ?ru1x7
              case yu1x7 => (intro w' hSw; (try dsimp only at hSw); go_simp; try (with_reducible rfl))
              simp only [List.setIfInBounds_toArray, List.set_cons_zero, List.set_cons_succ]
              refine wpAnyH_ready (rs := [8, 9]) (by kernel_rfl) (by simp) (AllReadyH.cons rfl (fun K8 hK8 => ?ku1x8) (AllReadyH.cons rfl (fun K9 hK9 => ?ku1x9) AllReadyH.nil))
              case ku1x8 =>
                refine take_new (t := 47) (cs := #[.int .i64 0, .int .i64 0]) 8 (Op.alloc 47) 0 rfl rfl rfl (by kernel_rfl) ?eu1xb1x8 ?_
                case eu1xb1x8 => (go_simp; try (first | with_reducible rfl | rfl))
                intro g8 w8 b8 gr8 l8 m8
                have z8 := gr8.size
                try simp only [World.size_drew] at z8
                try simp only [World.size_drew, World.size_alloc] at l8
                replace HW := below_grow HW gr8
                have zHW8 := HW.size
                replace bX := Blk.grow0 bX gr8
                refine hK8.out _ _ ?su1xb1x8 (fun hHeld => ?ru1xb1x8)
                case su1xb1x8 => ((try dsimp only); exact ⟨bX.cell_ _ HC0.out, bX.cell_ _ HC1.out, bX.cell_ _ HE0.out, bX.cell_ _ HE1.out⟩)
                try simp only [List.setIfInBounds_toArray, List.set_cons_zero, List.set_cons_succ]
                refine wpAnyH_ready (rs := [9]) (by kernel_rfl) (by simp) (AllReadyH.cons rfl (fun K9 hK9 => ?ku1xb1x9) AllReadyH.nil)
                refine take_new (t := 47) (cs := #[.int .i64 0, .int .i64 0]) 9 (Op.alloc 47) 0 rfl rfl rfl (by kernel_rfl) ?eu1xb1x9 ?_
                case eu1xb1x9 => (go_simp; try (first | with_reducible rfl | rfl))
                intro g9 w9 b9 gr9 l9 m9
                have z9 := gr9.size
                try simp only [World.size_drew] at z9
                try simp only [World.size_drew, World.size_alloc] at l9
                replace HW := below_grow HW gr9
                have zHW9 := HW.size
                replace bX := Blk.grow0 bX gr9
                replace b8 := Blk.grow0 b8 gr9
                refine hK9.out _ _ ?su1xb1x9 (fun hHeld => ?ru1xb1x9)
                case su1xb1x9 => ((try dsimp only); exact ⟨bX.cell_ _ HC0.out, bX.cell_ _ HC1.out, bX.cell_ _ HE0.out, bX.cell_ _ HE1.out⟩)
                try simp only [List.setIfInBounds_toArray, List.set_cons_zero, List.set_cons_succ]
                refine wpAnyH_ready (rs := [10]) (by kernel_rfl) (by simp) (AllReadyH.cons rfl (fun K10 hK10 => ?ku1xb1x10) AllReadyH.nil)
                refine take_store 10 (Op.store 47 (Operand.tmp 7) (Operand.tmp 47)) 0 rfl rfl rfl (by kernel_rfl) (w' := (w9.setCell ⟨g8, 0, none⟩ (.int .i64 a1)).setCell ⟨g8, 1, none⟩ (.int .i64 a2)) (by obtain ⟨k0, k1, f0, f1, _⟩ := blk2 b8; go_simp; try (with_reducible rfl)) ?_
                refine hK10.out _ _ ((fun (bX' : Blk _ gW 47 _) => ⟨bX'.cell_ _ HC0.out, bX'.cell_ _ HC1.out, bX'.cell_ _ HE0.out, bX'.cell_ _ HE1.out⟩) ((bX.far (p := ⟨g8, 0, none⟩) (by dsimp only; omega) (.int .i64 a1)).far (p := ⟨g8, 1, none⟩) (by dsimp only; omega) (.int .i64 a2))) (fun hHeld => ?_)
                replace b8 := blk_eq ((b8.set 0 (.int .i64 a1)).set 1 (.int .i64 a2)) (cs' := #[.int .i64 a1, .int .i64 a2]) (by simp)
                try replace b9 := (b9.far (p := ⟨g8, 0, none⟩) (by dsimp only; omega) (.int .i64 a1)).far (p := ⟨g8, 1, none⟩) (by dsimp only; omega) (.int .i64 a2)
                replace bX := (bX.far (p := ⟨g8, 0, none⟩) (by dsimp only; omega) (.int .i64 a1)).far (p := ⟨g8, 1, none⟩) (by dsimp only; omega) (.int .i64 a2)
                replace HW := (HW.setCell (p := ⟨g8, 0, none⟩) (by dsimp only; omega) (.int .i64 a1)).setCell (p := ⟨g8, 1, none⟩) (by dsimp only; omega) (.int .i64 a2)
                refine wpAnyH_ready (rs := [11]) (by kernel_rfl) (by simp) (AllReadyH.cons rfl (fun K11 hK11 => ?ku1xb1x11) AllReadyH.nil)
                refine take_store 11 (Op.store 47 (Operand.tmp 8) (Operand.tmp 51)) 0 rfl rfl rfl (by kernel_rfl) (w' := (((w9.setCell ⟨g8, 0, none⟩ (.int .i64 a1)).setCell ⟨g8, 1, none⟩ (.int .i64 a2)).setCell ⟨g9, 0, none⟩ (.int .i64 b1)).setCell ⟨g9, 1, none⟩ (.int .i64 b2)) (by obtain ⟨k0, k1, f0, f1, _⟩ := blk2 b9; go_simp; try (with_reducible rfl)) ?_
                refine hK11.out _ _ ((fun (bX' : Blk _ gW 47 _) => ⟨bX'.cell_ _ HC0.out, bX'.cell_ _ HC1.out, bX'.cell_ _ HE0.out, bX'.cell_ _ HE1.out⟩) ((bX.far (p := ⟨g9, 0, none⟩) (by dsimp only; omega) (.int .i64 b1)).far (p := ⟨g9, 1, none⟩) (by dsimp only; omega) (.int .i64 b2))) (fun hHeld => ?_)
                replace b9 := blk_eq ((b9.set 0 (.int .i64 b1)).set 1 (.int .i64 b2)) (cs' := #[.int .i64 b1, .int .i64 b2]) (by simp)
                try replace b8 := (b8.far (p := ⟨g9, 0, none⟩) (by dsimp only; omega) (.int .i64 b1)).far (p := ⟨g9, 1, none⟩) (by dsimp only; omega) (.int .i64 b2)
                replace bX := (bX.far (p := ⟨g9, 0, none⟩) (by dsimp only; omega) (.int .i64 b1)).far (p := ⟨g9, 1, none⟩) (by dsimp only; omega) (.int .i64 b2)
                replace HW := (HW.setCell (p := ⟨g9, 0, none⟩) (by dsimp only; omega) (.int .i64 b1)).setCell (p := ⟨g9, 1, none⟩) (by dsimp only; omega) (.int .i64 b2)
                refine wpAnyH_done (by kernel_rfl) ?_ _
                try go_wp2_with fail
                go_meet
                case rel => exact ⟨g8, g9, rfl, rfl, b8, b9, HW⟩
              case ku1x9 =>
                refine take_new (t := 47) (cs := #[.int .i64 0, .int .i64 0]) 9 (Op.alloc 47) 0 rfl rfl rfl (by kernel_rfl) ?eu1xb5x9 ?_
                case eu1xb5x9 => (go_simp; try (first | with_reducible rfl | rfl))
                intro g9 w9 b9 gr9 l9 m9
                have z9 := gr9.size
                try simp only [World.size_drew] at z9
                try simp only [World.size_drew, World.size_alloc] at l9
                replace HW := below_grow HW gr9
                have zHW9 := HW.size
                replace bX := Blk.grow0 bX gr9
                refine hK9.out _ _ ?su1xb5x9 (fun hHeld => ?ru1xb5x9)
                case su1xb5x9 => ((try dsimp only); exact ⟨bX.cell_ _ HC0.out, bX.cell_ _ HC1.out, bX.cell_ _ HE0.out, bX.cell_ _ HE1.out⟩)
                try simp only [List.setIfInBounds_toArray, List.set_cons_zero, List.set_cons_succ]
                refine wpAnyH_ready (rs := [8]) (by kernel_rfl) (by simp) (AllReadyH.cons rfl (fun K8 hK8 => ?ku1xb5x8) AllReadyH.nil)
                refine take_new (t := 47) (cs := #[.int .i64 0, .int .i64 0]) 8 (Op.alloc 47) 0 rfl rfl rfl (by kernel_rfl) ?eu1xb5x8 ?_
                case eu1xb5x8 => (go_simp; try (first | with_reducible rfl | rfl))
                intro g8 w8 b8 gr8 l8 m8
                have z8 := gr8.size
                try simp only [World.size_drew] at z8
                try simp only [World.size_drew, World.size_alloc] at l8
                replace HW := below_grow HW gr8
                have zHW8 := HW.size
                replace bX := Blk.grow0 bX gr8
                replace b9 := Blk.grow0 b9 gr8
                refine hK8.out _ _ ?su1xb5x8 (fun hHeld => ?ru1xb5x8)
                case su1xb5x8 => ((try dsimp only); exact ⟨bX.cell_ _ HC0.out, bX.cell_ _ HC1.out, bX.cell_ _ HE0.out, bX.cell_ _ HE1.out⟩)
                try simp only [List.setIfInBounds_toArray, List.set_cons_zero, List.set_cons_succ]
                refine wpAnyH_ready (rs := [10]) (by kernel_rfl) (by simp) (AllReadyH.cons rfl (fun K10 hK10 => ?ku1xb5x10) AllReadyH.nil)
                refine take_store 10 (Op.store 47 (Operand.tmp 7) (Operand.tmp 47)) 0 rfl rfl rfl (by kernel_rfl) (w' := (w8.setCell ⟨g8, 0, none⟩ (.int .i64 a1)).setCell ⟨g8, 1, none⟩ (.int .i64 a2)) (by obtain ⟨k0, k1, f0, f1, _⟩ := blk2 b8; go_simp; try (with_reducible rfl)) ?_
                refine hK10.out _ _ ((fun (bX' : Blk _ gW 47 _) => ⟨bX'.cell_ _ HC0.out, bX'.cell_ _ HC1.out, bX'.cell_ _ HE0.out, bX'.cell_ _ HE1.out⟩) ((bX.far (p := ⟨g8, 0, none⟩) (by dsimp only; omega) (.int .i64 a1)).far (p := ⟨g8, 1, none⟩) (by dsimp only; omega) (.int .i64 a2))) (fun hHeld => ?_)
                replace b8 := blk_eq ((b8.set 0 (.int .i64 a1)).set 1 (.int .i64 a2)) (cs' := #[.int .i64 a1, .int .i64 a2]) (by simp)
                try replace b9 := (b9.far (p := ⟨g8, 0, none⟩) (by dsimp only; omega) (.int .i64 a1)).far (p := ⟨g8, 1, none⟩) (by dsimp only; omega) (.int .i64 a2)
                replace bX := (bX.far (p := ⟨g8, 0, none⟩) (by dsimp only; omega) (.int .i64 a1)).far (p := ⟨g8, 1, none⟩) (by dsimp only; omega) (.int .i64 a2)
                replace HW := (HW.setCell (p := ⟨g8, 0, none⟩) (by dsimp only; omega) (.int .i64 a1)).setCell (p := ⟨g8, 1, none⟩) (by dsimp only; omega) (.int .i64 a2)
                refine wpAnyH_ready (rs := [11]) (by kernel_rfl) (by simp) (AllReadyH.cons rfl (fun K11 hK11 => ?ku1xb5x11) AllReadyH.nil)
                refine take_store 11 (Op.store 47 (Operand.tmp 8) (Operand.tmp 51)) 0 rfl rfl rfl (by kernel_rfl) (w' := (((w8.setCell ⟨g8, 0, none⟩ (.int .i64 a1)).setCell ⟨g8, 1, none⟩ (.int .i64 a2)).setCell ⟨g9, 0, none⟩ (.int .i64 b1)).setCell ⟨g9, 1, none⟩ (.int .i64 b2)) (by obtain ⟨k0, k1, f0, f1, _⟩ := blk2 b9; go_simp; try (with_reducible rfl)) ?_
                refine hK11.out _ _ ((fun (bX' : Blk _ gW 47 _) => ⟨bX'.cell_ _ HC0.out, bX'.cell_ _ HC1.out, bX'.cell_ _ HE0.out, bX'.cell_ _ HE1.out⟩) ((bX.far (p := ⟨g9, 0, none⟩) (by dsimp only; omega) (.int .i64 b1)).far (p := ⟨g9, 1, none⟩) (by dsimp only; omega) (.int .i64 b2))) (fun hHeld => ?_)
                replace b9 := blk_eq ((b9.set 0 (.int .i64 b1)).set 1 (.int .i64 b2)) (cs' := #[.int .i64 b1, .int .i64 b2]) (by simp)
                try replace b8 := (b8.far (p := ⟨g9, 0, none⟩) (by dsimp only; omega) (.int .i64 b1)).far (p := ⟨g9, 1, none⟩) (by dsimp only; omega) (.int .i64 b2)
                replace bX := (bX.far (p := ⟨g9, 0, none⟩) (by dsimp only; omega) (.int .i64 b1)).far (p := ⟨g9, 1, none⟩) (by dsimp only; omega) (.int .i64 b2)
                replace HW := (HW.setCell (p := ⟨g9, 0, none⟩) (by dsimp only; omega) (.int .i64 b1)).setCell (p := ⟨g9, 1, none⟩) (by dsimp only; omega) (.int .i64 b2)
                refine wpAnyH_done (by kernel_rfl) ?_ _
                try go_wp2_with fail
                go_meet
                case rel => exact ⟨g8, g9, rfl, rfl, b8, b9, HW⟩
            case rest =>
              obtain ⟨g1, g2, rfl, rfl, bA, bB, HX⟩ := hcut
              obtain ⟨q0, q1, _, _, _⟩ := blk2 bA
              obtain ⟨r0, r1, _, _, _⟩ := blk2 bB
              clear hbw2 bWr HC0 HC1 HE0 HE1
              by_cases hik : i = k
              · have hikI : ((i : Int) == (k : Int)) = true := by simp; omega
                clear hik
                go_wp2_with fail
                go_roundw
                case rel => exact ⟨k + 1, by go_num, by omega, HX⟩
                case measure => simp [intOf]; omega
              · have hikI : ((i : Int) == (k : Int)) = false := by simp; omega
                have hikI2 : decide ((i : Int) = (k : Int)) = false := by simp; omega
                have HAP2 := Lib.hid (HAP.out hik)
                by_cases ha2 : a2 = 0
                · subst ha2
                  clear hik HAP HAP2
                  go_wp2_with fail
                  go_roundw
                  case rel => exact ⟨k + 1, by go_num, by omega, HX⟩
                  case measure => simp [intOf]; omega
                · have ha2I : (a2 == 0) = false := by simp [ha2]
                  have ha2J : decide (a2 = 0) = false := by simp [ha2]
                  by_cases hba : b2 < a2
                  · clear hik HAP HAP2 ha2
                    go_wp2_with fail
                    go_roundw
                    case rel => exact ⟨k + 1, by go_num, by omega, HX⟩
                    case measure => simp [intOf]; omega
                  · obtain ⟨x, p, y, q, e1, e2, hp, hpq, hq, hx, hy, k1, k2, k3⟩ := HAP2.out ha2 (Int.not_lt.1 hba)
                    obtain ⟨rfl, rfl⟩ := Prod.mk.inj e1
                    obtain ⟨rfl, rfl⟩ := Prod.mk.inj e2
                    obtain ⟨z, hz⟩ : ∃ z, y / 2 ^ (q - p) = z := ⟨_, rfl⟩
                    rw [hz] at k2 k3
                    have HZ := Lib.hid (show (y : Int) / 2 ^ (q - p) = (z : Int) by rw [← hz]; push_cast; rfl)
                    have hzy : z ≤ 32768 := by rw [← hz]; exact Nat.le_trans (Nat.div_le_self _ _) hy
                    have z1 : ((z : Int) == (x : Int)) = false := by simp; omega
                    have z2 : decide ((z : Int) = (x : Int)) = false := by simp; omega
                    clear hz HAP HAP2 e1 e2
                    by_cases hqp : q = p
                    · have y1 : ((q : Int) == (p : Int)) = true := by simp; omega
                      have y2 : ¬ (q : Int) > (p : Int) := by omega
                      by_cases hki : i < k
                      · have y3 : (k : Int) > (i : Int) := by omega
                        have y4 : ¬ (y : Int) ≤ (x : Int) := by have := k1 hqp hki; omega
                        clear k1 k2 k3 hik hqp
                        go_upto_region 19 with fail
                        rw [HZ.out]
                        go_wp2_with fail
                        go_roundw
                        case rel => exact ⟨k + 1, by go_num, by omega, HX⟩
                        case measure => simp [intOf]; omega
                      · have y3 : ¬ (k : Int) > (i : Int) := by omega
                        clear k1 k2 k3 hik hqp
                        go_upto_region 19 with fail
                        rw [HZ.out]
                        go_wp2_with fail
                        go_roundw
                        case rel => exact ⟨k + 1, by go_num, by omega, HX⟩
                        case measure => simp [intOf]; omega
                    · have y1 : ((q : Int) == (p : Int)) = false := by simp; omega
                      have y1' : decide ((q : Int) = (p : Int)) = false := by simp; omega
                      have y2 : (q : Int) > (p : Int) := by omega
                      have y3 : ¬ (z : Int) ≤ (x : Int) := by have := k3 (by omega); omega
                      clear k1 k2 k3 hik hqp
                      go_upto_region 19 with fail
                      rw [HZ.out]
                      go_wp2_with fail
                      go_roundw
                      case rel => exact ⟨k + 1, by go_num, by omega, HX⟩
                      case measure => simp [intOf]; omega
          · obtain rfl : k = n := by omega
            go_wp2_with fail
            go_roundw
            case rel => exact ⟨i + 1, by go_num, by omega, hbw2⟩
            case measure => simp [intOf]; omega
      · obtain rfl : i = n := by omega
        go_wp2_with fail
        refine (awake_any _).mono ?_
        rintro e w7 ⟨rfl, hb7⟩
        go_wp2_with fail
        go_ret
        exact ⟨rfl, (HB.trans (hbw.mono HB.size)).trans (hb7.mono (by have := HB.size; have := hbw.size; omega))⟩
  · have C1 := words_no A n c l w h (by omega) _ rfl hv
    generalize hve : chkL l = v at *
    have hvI : (v != 0) = true := by simp [hv]
    clear hve hv h
    go_enter Try.func6, Try.ntmps6
    go_wp2_with fail
    refine C1.mono ?_
    rintro e w1 ⟨rfl, rfl⟩
    go_wp2_with fail
    refine (awake_any _).mono ?_
    rintro e w7 ⟨rfl, hb7⟩
    go_wp2_with fail
    go_ret
    exact ⟨rfl, hb7⟩
end LenW
end Go.Proofs.Ytedoeplhjmkllaa
