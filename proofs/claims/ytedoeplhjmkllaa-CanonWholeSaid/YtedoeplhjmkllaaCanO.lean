/- Walks over the laws of package canon: Back, Whole. -/
import Derived.Test.YtedoeplhjmkllaaCanB
import Derived.Test.YtedoeplhjmkllaaCanL
import Derived.BigQuiet
import Derived.Test.YtedoeplhjmkllaaReg2
namespace Go.Proofs.Ytedoeplhjmkllaa
set_option linter.unusedVariables false
set_option linter.unusedSimpArgs false
set_option linter.unnecessarySimpa false
open Go.RowKit
namespace LenW

set_option maxRecDepth 100000 in
set_option maxHeartbeats 8000000 in
theorem back_law (A : Option Addr) (n c : Nat) (l : List Int) (A2 : Option Addr) (n2 c2 : Nat) (r : List Int) (b : ByteArray) (w : World)
    (h : Rd w w.heap.size 1 A n (ints l)) (hn : n ≤ maxLen) (k : Rd w w.heap.size 1 A2 n2 (ints r)) (hn2 : n2 ≤ maxLen) (h64 : ∀ x ∈ r, I64 x) (hb : b.size ≤ maxLen) :
    Calls Try.prog 7 #[.slice A n c, .slice A2 n2 c2, .string b] w fun e w' => e = .returned (.bool true) ∧ Below w.heap.size w w' := by
  obtain ⟨m, rfl, hm⟩ := str_of b
  rw [← hm] at hb
  clear hm
  unfold maxLen at hn hn2 hb
  have hcase : (n : Int) > 300 ∨ (¬ (n : Int) > 300 ∧ (n2 : Int) > 500) ∨ (¬ (n : Int) > 300 ∧ ¬ (n2 : Int) > 500 ∧ (m.length : Int) > 100) ∨ (¬ (n : Int) > 300 ∧ ¬ (n2 : Int) > 500 ∧ ¬ (m.length : Int) > 100) := by omega
  rcases hcase with h1 | ⟨h1, h2⟩ | ⟨h1, h2, h3⟩ | ⟨h1, h2, h3⟩
  iterate 3
    clear h h64 k
    go_enter Try.func7, Try.ntmps7
    go_wp2_with fail
    refine (awake_any _).mono ?_
    rintro e w7 ⟨rfl, hb7⟩
    go_wp2_with fail
    go_ret
    exact ⟨rfl, hb7⟩
  have hl : l.length = n := rd_len h
  have hrl : r.length = n2 := rd_len k
  have key : (∃ v : Int, v ≠ 0 ∧ Calls Try.prog 15 #[.slice A n c, .slice A2 n2 c2] w fun e w' => e = .returned (.tuple #[str [], .int .i64 v]) ∧ Below w.heap.size w w') ∨ (chkL l = 0 ∧ symsOk l r = true) := by
    by_cases hv : chkL l = 0
    · by_cases ho : symsOk l r = true
      · exact .inr ⟨hv, ho⟩
      · exact .inl ⟨70, by decide, pack_yes A A2 n c n2 c2 l r w h k (by omega) (by omega) h64 hv ([], 70) (by unfold packC; rw [if_pos hv, if_neg ho])⟩
    · exact .inl ⟨chkL l, hv, (pack_no A A2 n c n2 c2 l w h (by omega) _ rfl hv).mono fun e w' q => ⟨q.1, by rw [q.2]; exact Below.refl _ _⟩⟩
  rcases key with ⟨v, hv, C1⟩ | ⟨hv, ho⟩
  · have hvI : (v != 0) = true := by simp [hv]
    clear h h64 k hv
    go_enter Try.func7, Try.ntmps7
    go_wp2_with fail
    refine C1.mono ?_
    clear C1
    rintro e w1 ⟨rfl, HB⟩
    go_wp2_with fail
    refine (awake_any _).mono ?_
    rintro e w7 ⟨rfl, hb7⟩
    go_wp2_with fail
    go_ret
    exact ⟨rfl, HB.trans (hb7.mono HB.size)⟩
  · have C1 := pack_yes A A2 n c n2 c2 l r w h k (by omega) (by omega) h64 hv (textB (symsB l r), 0) (by unfold packC; rw [if_pos hv, if_pos ho])
    have hpb := pack_back hv r m ho
    rw [hrl] at hpb
    have hsl := symsB_len l hv r ho
    have htl := textB_len (symsB l r)
    have C2 := fun w HH => unpack_yes A n c l (textB (symsB l r) ++ m) n2 w HH (by omega) hv (by omega) (by rw [List.length_append]; omega) _ hpb
    have HSY := Lib.hid (fun k hk => @sym_len l r k hk ho)
    have HAL := Lib.hid (show symsB l (r.take n2) = symsB l r by rw [← hrl, List.take_length])
    have hmon : Hid (∀ k, (symsB l (r.take k)).length ≤ 16000) := Lib.hid (fun k => by
      have ho2 : symsOk l (r.take k) = true := by
        unfold symsOk at ho ⊢
        rw [List.all_eq_true] at ho ⊢
        exact fun x hx => ho x (List.mem_of_mem_take hx)
      have := symsB_len l hv (r.take k) ho2
      rw [List.length_take] at this
      omega)
    have hT : (textB (symsB l r)).length ≤ 2001 := by omega
    obtain ⟨B, hB⟩ : ∃ B, (symsB l r).length = B := ⟨_, rfl⟩
    have HBL := Lib.hid hB
    rw [hB] at C2
    generalize textB (symsB l r) = t at *
    have H2 := Lib.hid C2
    clear C2 hpb hsl htl h64 hv ho hB
    go_enter Try.func7, Try.ntmps7
    go_wp2_with fail
    refine C1.mono ?_
    clear C1
    rintro e w1 ⟨rfl, HB⟩
    go_wp2_with fail
    try rw [str_cat]
    refine (H2.out _ ((h.below HB).more HB.size)).mono ?_
    rintro e w2 ⟨A3, n3, c3, rfl, hc3, r3, hb3⟩
    replace HB := HB.trans (hb3.mono HB.size)
    clear hb3 H2
    go_wp2_with fail
    go_loopw [12, 13] (fun sz i wr => ∃ j nq : Nat, i = .int .i64 j ∧ sz = .int .i64 ((symsB l (r.take j)).length : Nat) ∧ j ≤ n2 ∧ wr = w2.drewN nq) (fun _ i _ => n2 - (intOf i).toNat)
    case atStart => exact ⟨0, 0, rfl, by simp [symsB], by omega, rfl⟩
    case round =>
      obtain ⟨j, nq, rfl, rfl, hj, rfl⟩ := hrel
      have hmj := hmon.out j
      by_cases hlt : j < n2
      · obtain ⟨u, hu, hul, x, hx, hs⟩ := HSY.out j (by omega)
        obtain ⟨b2, o2, rfl, hb2, hc2⟩ := rd_ints ((k.below (HB.drewN_ nq))) (by omega)
        have d0 := hc2 j (by omega)
        rw [hu] at d0
        obtain ⟨b1, o1, rfl, hb1, hc1⟩ := rd_ints ((h.below (HB.drewN_ nq))) (by omega)
        have d1 := hc1 u hul
        rw [hx] at d1
        have hm2 := hmon.out (j + 1)
        rw [hs] at hm2
        have HS := Lib.hid hs
        generalize (symsB l (r.take j)).length = z at *
        have hjI : (j : Int) < (n2 : Int) := by omega
        have hj0 : (0 : Int) ≤ (j : Int) := by omega
        have huI : ¬ (u : Int) ≥ (n : Int) := by omega
        have huI2 : (u : Int) < (n : Int) := by omega
        have hu0 : (0 : Int) ≤ (u : Int) := by omega
        have hu1 : ¬ (u : Int) < 0 := by omega
        clear hc1 hc2 hu hx hs
        go_wp2_with fail
        go_roundw
        case rel => exact ⟨j + 1, nq, by go_num, by rw [HS.out]; go_num, by omega, rfl⟩
        case measure => simp [intOf]; omega
      · obtain rfl : j = n2 := by omega
        rw [HAL.out, HBL.out] at *
        have e3 := rd_len r3
        have C5 := same_any A3 A2 n3 c3 j c2 r r (w2.drewN nq) (r3.below ((Below.refl _ w2).drewN_ nq)) ((k.below (HB.drewN_ nq)).more (HB.drewN_ nq).size) (by omega) (by omega)
        rw [decide_eq_true (rfl : r = r)] at C5
        clear e3
        go_wp2_with fail
        refine C5.mono ?_
        clear C5
        rintro e w5 ⟨rfl, hb5⟩
        have HB5 := (HB.drewN_ nq).trans (hb5.mono (HB.drewN_ nq).size)
        go_wp2_with fail
        refine (awake_any _).mono ?_
        rintro e w7 ⟨rfl, hb7⟩
        go_wp2_with fail
        go_ret
        exact ⟨rfl, HB5.trans (hb7.mono HB5.size)⟩

theorem ext_head2 (l : List UInt8) (p : Nat) : ((⟨l.toArray⟩ : ByteArray).extract 0 p).data.toList = l.take p := by
  simp
set_option maxRecDepth 100000 in
set_option maxHeartbeats 8000000 in
theorem whole_law (A : Option Addr) (n c : Nat) (l : List Int) (b : ByteArray) (w : World)
    (h : Rd w w.heap.size 1 A n (ints l)) (hn : n ≤ maxLen) (hb : b.size ≤ maxLen) :
    Calls Try.prog 8 #[.slice A n c, .string b] w fun e w' => e = .returned (.bool true) ∧ Below w.heap.size w w' := by
  obtain ⟨m, rfl, hm⟩ := str_of b
  rw [← hm] at hb
  clear hm
  unfold maxLen at hn hb
  have hcase : (n : Int) > 300 ∨ (¬ (n : Int) > 300 ∧ (m.length : Int) > 100) ∨ (¬ (n : Int) > 300 ∧ ¬ (m.length : Int) > 100) := by omega
  rcases hcase with h1 | ⟨h1, h2⟩ | ⟨h1, h2⟩
  iterate 2
    clear h
    go_enter Try.func8, Try.ntmps8
    go_wp2_with fail
    refine (awake_any _).mono ?_
    rintro e w7 ⟨rfl, hb7⟩
    go_wp2_with fail
    go_ret
    exact ⟨rfl, hb7⟩
  have C1 := refCheck_any A n c l w h (by omega) _ rfl
  by_cases hv : chkL l = 0
  · rw [hv] at C1
    have C2 := refUsed_any A n c l w h (by omega) _ rfl
    by_cases hu : 2 ≤ usedL l
    · obtain ⟨x, hx⟩ : ∃ x, unpG (fun p => getC l ((bitsB m).drop p)) (8 * m.length + 1) 0 = x := ⟨_, rfl⟩
      obtain ⟨x1, x2, x3, x4, x5, x6, x7, x8⟩ := whole_of hv hu m x hx
      have C3 := unpack_yes A n c l m (8 * m.length + 1) w h (by omega) hv (by omega) (by omega) x hx
      obtain ⟨xs, q, er⟩ := x
      dsimp only at x1 x2 x3 x4 x5 x6 x7 x8
      subst x1
      have huI : ¬ ((usedL l : Nat) : Int) < 2 := by omega
      obtain ⟨us, hus⟩ : ∃ us, usedL l = us := ⟨_, rfl⟩
      have H64 : Hid (∀ x ∈ xs, I64 x) := Lib.hid (fun y hy => by
        unfold symsOk at x5
        rw [List.all_eq_true] at x5
        obtain ⟨u, hu2, hV⟩ := sym_nat (by simpa using x5 y hy)
        have := hV.1
        have hl : l.length = n := rd_len h
        unfold I64
        omega)
      have C4 := fun A5 n5 c5 w (HH : Rd w w.heap.size 1 A n (ints l)) (HH2 : Rd w w.heap.size 1 A5 n5 (ints xs)) (h5 : n5 ≤ 30000) => pack_yes A A5 n c n5 c5 l xs w HH HH2 (by omega) h5 H64.out hv (textB (symsB l xs), 0) (by unfold packC; rw [if_pos hv, if_pos x5])
      rw [hus] at huI C2
      generalize textB (symsB l xs) = t at *
      have H4 := Lib.hid C4
      have HT8 := Lib.hid x8
      clear C4 hx hus hv hu x5 x8
      go_enter Try.func8, Try.ntmps8
      go_wp2_with fail
      refine C1.mono ?_
      clear C1
      rintro e w1 ⟨rfl, rfl⟩
      go_wp2_with fail
      refine C2.mono ?_
      clear C2
      rintro e w2 ⟨rfl, rfl⟩
      go_wp2_with fail
      rw [show (8 * (m.length : Int) + 1) = ((8 * m.length + 1 : Nat) : Int) by omega]
      refine C3.mono ?_
      clear C3
      rintro e w3 ⟨A5, n5, c5, rfl, hc5, r5, HB⟩
      have hq1 : ¬ (q : Int) > 8 * (m.length : Int) := by omega
      have hq2 : ¬ (q : Int) ≤ 8 * (m.length : Int) - 15 := by omega
      have e5 : xs.length = n5 := rd_len r5
      have hn5 : n5 ≤ 30000 := by omega
      clear x4 e5
      go_wp2_with fail
      refine (H4.out A5 n5 c5 w3 ((h.below HB).more HB.size) r5 hn5).mono ?_
      rintro e w4 ⟨rfl, hb4⟩
      replace HB := HB.trans (hb4.mono HB.size)
      clear hb4 H4 r5 hc5 hn5
      have hT1 : ¬ (t.length : Int) > (m.length : Int) := by omega
      by_cases hq8 : q < 8
      · have hq8I : (q : Int) < 8 := by omega
        have hq8d : decide ((q : Int) < 8) = true := decide_eq_true hq8I
        clear HT8 x7
        go_wp2_with fail
        refine wp_region_held_drew (S := (fun w' => True)) (by kernel_rfl) ?_ (fun hHeld => ?_)
        · replace HB := Below.drew HB; (try dsimp only); try trivial
        replace HB := Below.drew HB
        have zHB := HB.size
        refine take_move 0 (Operand.tmp 6) rfl rfl (by first | exact .inl rfl | exact .inr rfl) rfl (by kernel_rfl) (by kernel_rfl) (by kernel_rfl) (fun _ _ _ h => h) (by assumption) ?_
        simp only [List.setIfInBounds_toArray, List.set_cons_zero, List.set_cons_succ]
        refine take_op (v := ?vu1x1) 1 (Op.binOp BinOp.lss 3 (Operand.tmp 72) (Operand.const (Value.int IntKind.i64 8)) 3) 4 rfl rfl rfl rfl rfl (by kernel_rfl) (by kernel_rfl) (by kernel_rfl) (fun _ _ _ h => h) ?yu1x1 (by assumption) ?ru1x1
        case yu1x1 => (intro w' hSw; (try dsimp only at hSw); go_simp; try (with_reducible rfl))
        simp only [List.setIfInBounds_toArray, List.set_cons_zero, List.set_cons_succ]
        refine take_move 2 (Operand.tmp 73) rfl rfl (by first | exact .inl rfl | exact .inr rfl) rfl (by kernel_rfl) (by kernel_rfl) (by kernel_rfl) (fun _ _ _ h => h) (by assumption) ?_
        simp only [List.setIfInBounds_toArray, List.set_cons_zero, List.set_cons_succ]
        refine take_skip 3 rfl rfl rfl (by kernel_rfl) (by kernel_rfl) (by kernel_rfl) (fun _ _ _ h => h) (by assumption) ?_
        simp only [List.setIfInBounds_toArray, List.set_cons_zero, List.set_cons_succ]
        refine take_skip 4 rfl rfl rfl (by kernel_rfl) (by kernel_rfl) (by kernel_rfl) (fun _ _ _ h => h) (by assumption) ?_
        simp only [List.setIfInBounds_toArray, List.set_cons_zero, List.set_cons_succ]
        refine take_skip 5 rfl rfl rfl (by kernel_rfl) (by kernel_rfl) (by kernel_rfl) (fun _ _ _ h => h) (by assumption) ?_
        simp only [List.setIfInBounds_toArray, List.set_cons_zero, List.set_cons_succ]
        refine take_skip 6 rfl rfl rfl (by kernel_rfl) (by kernel_rfl) (by kernel_rfl) (fun _ _ _ h => h) (by assumption) ?_
        simp only [List.setIfInBounds_toArray, List.set_cons_zero, List.set_cons_succ]
        refine take_skip 7 rfl rfl rfl (by kernel_rfl) (by kernel_rfl) (by kernel_rfl) (fun _ _ _ h => h) (by assumption) ?_
        simp only [List.setIfInBounds_toArray, List.set_cons_zero, List.set_cons_succ]
        refine take_skip 8 rfl rfl rfl (by kernel_rfl) (by kernel_rfl) (by kernel_rfl) (fun _ _ _ h => h) (by assumption) ?_
        simp only [List.setIfInBounds_toArray, List.set_cons_zero, List.set_cons_succ]
        refine take_skip 9 rfl rfl rfl (by kernel_rfl) (by kernel_rfl) (by kernel_rfl) (fun _ _ _ h => h) (by assumption) ?_
        simp only [List.setIfInBounds_toArray, List.set_cons_zero, List.set_cons_succ]
        refine take_skip 10 rfl rfl rfl (by kernel_rfl) (by kernel_rfl) (by kernel_rfl) (fun _ _ _ h => h) (by assumption) ?_
        simp only [List.setIfInBounds_toArray, List.set_cons_zero, List.set_cons_succ]
        refine take_skip 11 rfl rfl rfl (by kernel_rfl) (by kernel_rfl) (by kernel_rfl) (fun _ _ _ h => h) (by assumption) ?_
        simp only [List.setIfInBounds_toArray, List.set_cons_zero, List.set_cons_succ]
        refine take_op (v := ?vu1x12) 12 (Op.pick (Operand.tmp 74) (Operand.const (Value.bool true)) (Operand.tmp 83)) 4 rfl rfl rfl rfl rfl (by kernel_rfl) (by kernel_rfl) (by kernel_rfl) (fun _ _ _ h => h) ?yu1x12 (by assumption) ?ru1x12
        case yu1x12 => (intro w' hSw; (try dsimp only at hSw); go_simp; try (with_reducible rfl))
        simp only [List.setIfInBounds_toArray, List.set_cons_zero, List.set_cons_succ]
        refine take_move 13 (Operand.tmp 84) rfl rfl (by first | exact .inl rfl | exact .inr rfl) rfl (by kernel_rfl) (by kernel_rfl) (by kernel_rfl) (fun _ _ _ h => h) (by assumption) ?_
        simp only [List.setIfInBounds_toArray, List.set_cons_zero, List.set_cons_succ]
        refine wpAnyH_ready (rs := [14]) (by kernel_rfl) (by simp) (AllReadyH.cons rfl (fun K14 hK14 => ?ku1x14) AllReadyH.nil)
        refine take_calls 14 12 [] #[] rfl rfl (by kernel_rfl) (fun args w => run_enter Try.func12 (by kernel_rfl) rfl args w) ?_
        refine (awake_any _).mono ?_
        rintro e w14 ⟨rfl, hb14⟩
        refine ⟨_, rfl, ?_⟩
        have z14 := hb14.size
        try simp only [World.size_drew] at z14
        replace HB := HB.trans (hb14.mono HB.size)
        have zHB14 := HB.size
        refine hK14.out _ _ ?su1x14 (fun hHeld => ?ru1x14)
        case su1x14 => ((try dsimp only); try trivial)
        try simp only [List.setIfInBounds_toArray, List.set_cons_zero, List.set_cons_succ]
        refine take_op (v := ?vu1x15) 15 (Op.pick (Operand.tmp 85) (Operand.tmp 86) (Operand.const (Value.bool false))) 4 rfl rfl rfl rfl rfl (by kernel_rfl) (by kernel_rfl) (by kernel_rfl) (fun _ _ _ h => h) ?yu1x15 (by assumption) ?ru1x15
        case yu1x15 => (intro w' hSw; (try dsimp only at hSw); go_simp; try (with_reducible rfl))
        simp only [List.setIfInBounds_toArray, List.set_cons_zero, List.set_cons_succ]
        refine take_op (v := ?vu1x16) 16 (Op.assign (Operand.tmp 87)) 4 rfl rfl rfl rfl rfl (by kernel_rfl) (by kernel_rfl) (by kernel_rfl) (fun _ _ _ h => h) ?yu1x16 (by assumption) ?ru1x16
        case yu1x16 => (intro w' hSw; (try dsimp only at hSw); go_simp; try (with_reducible rfl))
        simp only [List.setIfInBounds_toArray, List.set_cons_zero, List.set_cons_succ]
        refine wpAnyH_done (by kernel_rfl) ?_ _
        try go_wp2_with fail
        go_ret
        exact ⟨rfl, HB⟩
      · have hq8I : ¬ (q : Int) < 8 := by omega
        have hq8d : decide ((q : Int) < 8) = false := decide_eq_false hq8I
        have hs0 : (0 : Int) ≤ (q : Int) / 8 := by omega
        have hs1 : (q : Int) / 8 ≤ (t.length : Int) := by omega
        have hs2 : (q : Int) / 8 ≤ (m.length : Int) := by omega
        have hs3 : ((q : Int) / 8).toNat = q / 8 := by omega
        have hwq : IntKind.i64.wrap ((q : Int) / 8) = (q : Int) / 8 := w64k (by omega) (by omega)
        have hTT : ((⟨t.toArray⟩ : ByteArray).extract 0 (q / 8)) = ((⟨m.toArray⟩ : ByteArray).extract 0 (q / 8)) := by
          apply ByteArray.ext
          apply Array.ext'
          have h1 := ext_head2 t (q / 8)
          have h2 := ext_head2 m (q / 8)
          rw [h1, h2, HT8.out]
        clear HT8 x7
        go_wp2_with fail
        refine wp_region_held_drew (S := (fun w' => True)) (by kernel_rfl) ?_ (fun hHeld => ?_)
        · replace HB := Below.drew HB; (try dsimp only); try trivial
        replace HB := Below.drew HB
        have zHB := HB.size
        refine take_move 0 (Operand.tmp 6) rfl rfl (by first | exact .inl rfl | exact .inr rfl) rfl (by kernel_rfl) (by kernel_rfl) (by kernel_rfl) (fun _ _ _ h => h) (by assumption) ?_
        simp only [List.setIfInBounds_toArray, List.set_cons_zero, List.set_cons_succ]
        refine take_op (v := ?vu2x1) 1 (Op.binOp BinOp.lss 3 (Operand.tmp 72) (Operand.const (Value.int IntKind.i64 8)) 3) 4 rfl rfl rfl rfl rfl (by kernel_rfl) (by kernel_rfl) (by kernel_rfl) (fun _ _ _ h => h) ?yu2x1 (by assumption) ?ru2x1
        case yu2x1 => (intro w' hSw; (try dsimp only at hSw); go_simp; try (with_reducible rfl))
        simp only [List.setIfInBounds_toArray, List.set_cons_zero, List.set_cons_succ]
        refine take_move 2 (Operand.tmp 73) rfl rfl (by first | exact .inl rfl | exact .inr rfl) rfl (by kernel_rfl) (by kernel_rfl) (by kernel_rfl) (fun _ _ _ h => h) (by assumption) ?_
        simp only [List.setIfInBounds_toArray, List.set_cons_zero, List.set_cons_succ]
        refine take_move 3 (Operand.tmp 8) rfl rfl (by first | exact .inl rfl | exact .inr rfl) rfl (by kernel_rfl) (by kernel_rfl) (by kernel_rfl) (fun _ _ _ h => h) (by assumption) ?_
        simp only [List.setIfInBounds_toArray, List.set_cons_zero, List.set_cons_succ]
        refine take_move 4 (Operand.tmp 6) rfl rfl (by first | exact .inl rfl | exact .inr rfl) rfl (by kernel_rfl) (by kernel_rfl) (by kernel_rfl) (fun _ _ _ h => h) (by assumption) ?_
        simp only [List.setIfInBounds_toArray, List.set_cons_zero, List.set_cons_succ]
        refine take_op (v := ?vu2x5) 5 (Op.binOp BinOp.quo 3 (Operand.tmp 76) (Operand.const (Value.int IntKind.i64 8)) 3) 3 rfl rfl rfl rfl rfl (by kernel_rfl) (by kernel_rfl) (by kernel_rfl) (fun _ _ _ h => h) ?yu2x5 (by assumption) ?ru2x5
        case yu2x5 => (intro w' hSw; (try dsimp only at hSw); go_simp; try (with_reducible rfl))
        simp only [List.setIfInBounds_toArray, List.set_cons_zero, List.set_cons_succ]
        refine take_op (v := ?vu2x6) 6 (Op.slice 9 (Operand.tmp 75) none (some (Operand.tmp 77)) none) 9 rfl rfl rfl rfl rfl (by kernel_rfl) (by kernel_rfl) (by kernel_rfl) (fun _ _ _ h => h) ?yu2x6 (by assumption) ?ru2x6
        case yu2x6 => (intro w' hSw; (try dsimp only at hSw); go_simp; try (with_reducible rfl))
        simp only [List.setIfInBounds_toArray, List.set_cons_zero, List.set_cons_succ]
        refine take_move 7 (Operand.tmp 1) rfl rfl (by first | exact .inl rfl | exact .inr rfl) rfl (by kernel_rfl) (by kernel_rfl) (by kernel_rfl) (fun _ _ _ h => h) (by assumption) ?_
        simp only [List.setIfInBounds_toArray, List.set_cons_zero, List.set_cons_succ]
        refine take_move 8 (Operand.tmp 6) rfl rfl (by first | exact .inl rfl | exact .inr rfl) rfl (by kernel_rfl) (by kernel_rfl) (by kernel_rfl) (fun _ _ _ h => h) (by assumption) ?_
        simp only [List.setIfInBounds_toArray, List.set_cons_zero, List.set_cons_succ]
        refine take_op (v := ?vu2x9) 9 (Op.binOp BinOp.quo 3 (Operand.tmp 80) (Operand.const (Value.int IntKind.i64 8)) 3) 3 rfl rfl rfl rfl rfl (by kernel_rfl) (by kernel_rfl) (by kernel_rfl) (fun _ _ _ h => h) ?yu2x9 (by assumption) ?ru2x9
        case yu2x9 => (intro w' hSw; (try dsimp only at hSw); go_simp; try (with_reducible rfl))
        simp only [List.setIfInBounds_toArray, List.set_cons_zero, List.set_cons_succ]
        refine take_op (v := ?vu2x10) 10 (Op.slice 9 (Operand.tmp 79) none (some (Operand.tmp 81)) none) 9 rfl rfl rfl rfl rfl (by kernel_rfl) (by kernel_rfl) (by kernel_rfl) (fun _ _ _ h => h) ?yu2x10 (by assumption) ?ru2x10
        case yu2x10 => (intro w' hSw; (try dsimp only at hSw); go_simp; try (with_reducible rfl))
        simp only [List.setIfInBounds_toArray, List.set_cons_zero, List.set_cons_succ]
        refine take_op (v := ?vu2x11) 11 (Op.binOp BinOp.eql 9 (Operand.tmp 78) (Operand.tmp 82) 9) 4 rfl rfl rfl rfl rfl (by kernel_rfl) (by kernel_rfl) (by kernel_rfl) (fun _ _ _ h => h) ?yu2x11 (by assumption) ?ru2x11
        case yu2x11 => (intro w' hSw; (try dsimp only at hSw); go_simp; try (with_reducible rfl))
        simp only [List.setIfInBounds_toArray, List.set_cons_zero, List.set_cons_succ]
        refine take_op (v := ?vu2x12) 12 (Op.pick (Operand.tmp 74) (Operand.const (Value.bool true)) (Operand.tmp 83)) 4 rfl rfl rfl rfl rfl (by kernel_rfl) (by kernel_rfl) (by kernel_rfl) (fun _ _ _ h => h) ?yu2x12 (by assumption) ?ru2x12
        case yu2x12 => (intro w' hSw; (try dsimp only at hSw); go_simp; try (with_reducible rfl))
        simp only [List.setIfInBounds_toArray, List.set_cons_zero, List.set_cons_succ]
        refine take_move 13 (Operand.tmp 84) rfl rfl (by first | exact .inl rfl | exact .inr rfl) rfl (by kernel_rfl) (by kernel_rfl) (by kernel_rfl) (fun _ _ _ h => h) (by assumption) ?_
        simp only [List.setIfInBounds_toArray, List.set_cons_zero, List.set_cons_succ]
        refine wpAnyH_ready (rs := [14]) (by kernel_rfl) (by simp) (AllReadyH.cons rfl (fun K14 hK14 => ?ku2x14) AllReadyH.nil)
        refine take_calls 14 12 [] #[] rfl rfl (by kernel_rfl) (fun args w => run_enter Try.func12 (by kernel_rfl) rfl args w) ?_
        refine (awake_any _).mono ?_
        rintro e w14 ⟨rfl, hb14⟩
        refine ⟨_, rfl, ?_⟩
        have z14 := hb14.size
        try simp only [World.size_drew] at z14
        replace HB := HB.trans (hb14.mono HB.size)
        have zHB14 := HB.size
        refine hK14.out _ _ ?su2x14 (fun hHeld => ?ru2x14)
        case su2x14 => ((try dsimp only); try trivial)
        try simp only [List.setIfInBounds_toArray, List.set_cons_zero, List.set_cons_succ]
        refine take_op (v := ?vu2x15) 15 (Op.pick (Operand.tmp 85) (Operand.tmp 86) (Operand.const (Value.bool false))) 4 rfl rfl rfl rfl rfl (by kernel_rfl) (by kernel_rfl) (by kernel_rfl) (fun _ _ _ h => h) ?yu2x15 (by assumption) ?ru2x15
        case yu2x15 => (intro w' hSw; (try dsimp only at hSw); go_simp; try (with_reducible rfl))
        simp only [List.setIfInBounds_toArray, List.set_cons_zero, List.set_cons_succ]
        refine take_op (v := ?vu2x16) 16 (Op.assign (Operand.tmp 87)) 4 rfl rfl rfl rfl rfl (by kernel_rfl) (by kernel_rfl) (by kernel_rfl) (fun _ _ _ h => h) ?yu2x16 (by assumption) ?ru2x16
        case yu2x16 => (intro w' hSw; (try dsimp only at hSw); go_simp; try (with_reducible rfl))
        simp only [List.setIfInBounds_toArray, List.set_cons_zero, List.set_cons_succ]
        refine wpAnyH_done (by kernel_rfl) ?_ _

        try go_wp2_with fail
        go_ret
        exact ⟨rfl, HB⟩
    · have huI : ((usedL l : Nat) : Int) < 2 := by omega
      generalize usedL l = us at *
      clear h hv hu
      go_enter Try.func8, Try.ntmps8
      go_wp2_with fail
      refine C1.mono ?_
      clear C1
      rintro e w1 ⟨rfl, rfl⟩
      go_wp2_with fail
      refine C2.mono ?_
      clear C2
      rintro e w2 ⟨rfl, rfl⟩
      go_wp2_with fail
      refine (awake_any _).mono ?_
      rintro e w7 ⟨rfl, hb7⟩
      go_wp2_with fail
      go_ret
      exact ⟨rfl, hb7⟩
  · obtain ⟨v, hve⟩ : ∃ v, chkL l = v := ⟨_, rfl⟩
    rw [hve] at hv C1
    have hvI : (v != 0) = true := by simp [hv]
    clear h hv hve
    go_enter Try.func8, Try.ntmps8
    go_wp2_with fail
    refine C1.mono ?_
    clear C1
    rintro e w1 ⟨rfl, rfl⟩
    go_wp2_with fail
    refine (awake_any _).mono ?_
    rintro e w7 ⟨rfl, hb7⟩
    go_wp2_with fail
    go_ret
    exact ⟨rfl, hb7⟩
end LenW
end Go.Proofs.Ytedoeplhjmkllaa
