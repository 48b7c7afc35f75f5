/- Walks over the laws of package tab: Back, Forms. -/
import Derived.Test.YtedoeplhjmkllaaTabS
import Derived.Test.YtedoeplhjmkllaaOpenI
import Derived.Test.YtedoeplhjmkllaaReg2
namespace Go.Proofs.Ytedoeplhjmkllaa
set_option linter.unusedVariables false
set_option linter.unusedSimpArgs false
set_option linter.unnecessarySimpa false
open Go.RowKit
namespace TabW
open LenW (okL okL_at chkL chk0 check_any refCheck_any w64k)
open BitW (rdr RLeft left_any)

theorem text_take (s : List UInt8) (a : Nat) (h : a ≤ 8 * s.length) : (textB ((bitsB s).take a)).take (a / 8) = s.take (a / 8) := by
  have e : (bitsB s).take a = bitsB (s.take (a / 8)) ++ ((bitsB (s.drop (a / 8))).take (a - 8 * (a / 8))) := by
    have h1 : bitsB s = bitsB (s.take (a / 8)) ++ bitsB (s.drop (a / 8)) := by rw [← bitsB_app, List.take_append_drop]
    have h2 : (bitsB (s.take (a / 8))).length = 8 * (a / 8) := by rw [bitsB_len, List.length_take]; omega
    rw [h1, List.take_append, h2, List.take_of_length_le (by omega)]
  rw [e, textB_bits, List.take_left' (by rw [List.length_take]; omega)]
theorem ext_head2 (l : List UInt8) (p : Nat) : ((⟨l.toArray⟩ : ByteArray).extract 0 p).data.toList = l.take p := by
  simp
set_option maxRecDepth 100000 in
set_option maxHeartbeats 8000000 in
theorem tab_back_law (A : Option Addr) (n c : Nat) (l : List Int) (b : ByteArray) (w : World)
    (h : Rd w w.heap.size 1 A n (ints l)) (hn : n ≤ maxLen) (hb : b.size ≤ maxLen) :
    Calls Try.prog 10 #[.slice A n c, .string b] w fun e w' => e = .returned (.bool true) ∧ Below w.heap.size w w' := by
  obtain ⟨m, rfl, hm⟩ := str_of b
  rw [← hm] at hb
  clear hm
  unfold maxLen at hn hb
  have hcase : (n : Int) > 300 ∨ (¬ (n : Int) > 300 ∧ (m.length : Int) > 100) ∨ (¬ (n : Int) > 300 ∧ ¬ (m.length : Int) > 100) := by omega
  rcases hcase with h1 | ⟨h1, h2⟩ | ⟨h1, h2⟩
  iterate 2
    clear h
    go_enter Try.func10, Try.ntmps10
    go_wp2_with fail
    refine (tawake_any _).mono ?_
    rintro e w7 ⟨rfl, hb7⟩
    go_wp2_with fail
    go_ret
    exact ⟨rfl, hb7⟩
  have hl : l.length = n := rd_len h
  by_cases hk : chkL l = 0
  · have hsz : sizeT l = (tabB l).length := by unfold sizeT; rw [if_pos hk]
    have C1 := tpack_yes A n c l w h (by omega) hk _ rfl
    have C2 := fun w HH => tsize_any A n c l w HH (by omega) _ hsz
    have hbk := tab_back l hk m
    rw [hl] at hbk
    have htl := textB_len (tabB l)
    have hbl := tabB_len hk
    have h257 := (chk0 hk).1
    have C3 := fun w => tunpack_any (textB (tabB l) ++ m) n w (by omega) (by rw [List.length_append]; omega) _ hbk (tabB l).length (if_pos rfl) (by rw [List.length_append]; omega)
    obtain ⟨B, hB⟩ : ∃ B, (tabB l).length = B := ⟨_, rfl⟩
    rw [hB] at C2 C3 htl hbl
    have hT : (textB (tabB l)).length ≤ 2600 := by omega
    have hTI : (((textB (tabB l)).length : Int) == ((B : Int) + 7) / 8) = true := by simp; omega
    generalize textB (tabB l) = t at *
    have H2 := Lib.hid C2
    have H3 := Lib.hid C3
    clear C2 C3 hbk htl hB hk hsz
    go_enter Try.func10, Try.ntmps10
    go_wp2_with fail
    refine C1.mono ?_
    clear C1
    rintro e w1 ⟨rfl, HB⟩
    go_wp2_with fail
    try rw [str_cat]
    refine (H3.out _).mono ?_
    clear H3
    rintro e w2 ⟨A3, n3, c3, rfl, hc3, r3, hb3⟩
    replace HB := HB.trans (hb3.mono HB.size)
    clear hb3
    have e3 := rd_len r3
    have C5 := same_any A3 A n3 c3 n c l l w2 r3 ((h.below HB).more HB.size) (by omega) (by omega)
    rw [decide_eq_true (rfl : l = l)] at C5
    clear e3
    go_wp2_with fail
    refine C5.mono ?_
    clear C5
    rintro e w5 ⟨rfl, hb5⟩
    have HB5 := HB.trans (hb5.mono HB.size)
    clear hb5 r3 HB
    go_wp2_with fail
    refine (H2.out _ ((h.below HB5).more HB5.size)).mono ?_
    clear H2
    rintro e w6 ⟨rfl, hb6⟩
    have HB6 := HB5.trans (hb6.mono HB5.size)
    clear HB5 hb6
    go_wp2_with fail
    refine (tawake_any _).mono ?_
    rintro e w7 ⟨rfl, hb7⟩
    go_wp2_with fail
    go_ret
    exact ⟨rfl, HB6.trans (hb7.mono HB6.size)⟩
  · have hsz : sizeT l = 0 := by unfold sizeT; rw [if_neg hk]
    have C1 := tpack_no A n c l w h (by omega) _ rfl hk
    have C2 := fun w HH => tsize_any A n c l w HH (by omega) _ hsz
    have H2 := Lib.hid C2
    obtain ⟨v, hve⟩ : ∃ v, chkL l = v := ⟨_, rfl⟩
    rw [hve] at hk C1
    have hvI : (v != 0) = true := by simp [hk]
    clear C2 hve hsz
    go_enter Try.func10, Try.ntmps10
    go_wp2_with fail
    refine C1.mono ?_
    clear C1
    rintro e w1 ⟨rfl, HB⟩
    go_wp2_with fail
    refine (H2.out _ ((h.below HB).more HB.size)).mono ?_
    rintro e w6 ⟨rfl, hb6⟩
    have HB6 := HB.trans (hb6.mono HB.size)
    go_wp2_with fail
    refine (tawake_any _).mono ?_
    rintro e w7 ⟨rfl, hb7⟩
    go_wp2_with fail
    go_ret
    exact ⟨rfl, HB6.trans (hb7.mono HB6.size)⟩
set_option maxRecDepth 100000 in
set_option maxHeartbeats 8000000 in
theorem tab_forms_law (b : ByteArray) (N : Int) (w : World) (hb : b.size ≤ maxLen) (hN64 : I64 N) :
    Calls Try.prog 11 #[.string b, .int .i64 N] w fun e w' => e = .returned (.bool true) ∧ Below w.heap.size w w' := by
  obtain ⟨m, rfl, hm⟩ := str_of b
  rw [← hm] at hb
  clear hm
  unfold maxLen at hb
  by_cases h1 : (m.length : Int) > 1000
  · go_enter Try.func11, Try.ntmps11
    go_wp2_with fail
    refine (tawake_any _).mono ?_
    rintro e w7 ⟨rfl, hb7⟩
    go_wp2_with fail
    go_ret
    exact ⟨rfl, hb7⟩
  have bR := Blk.new w 86 (rdr m 0)
  have HB1 : Below w.heap.size w (w.alloc (.cells (rdr m 0) 86)) := (Below.refl _ _).alloc (Nat.le_refl _) _
  have key : (∃ (er : Int), er ≠ 0 ∧ Calls Try.prog 36 #[.pointer (some ⟨w.heap.size, 0, none⟩), .int .i64 N] (w.alloc (.cells (rdr m 0) 86)) fun e w' => ∃ A2 c2, e = .returned (.tuple #[.slice A2 0 c2, .int .i64 er]) ∧ Blk w' w.heap.size 86 (rdr m 0) ∧ Below w.heap.size w w') ∨
      (∃ (K : Nat) (xs : List Int) (q : Nat), N = (K : Int) ∧ xs.length = K ∧ K ≤ 257 ∧ chkL xs = 0 ∧ q ≤ 8 * m.length ∧ tabB xs = (bitsB m).take q ∧ Calls Try.prog 36 #[.pointer (some ⟨w.heap.size, 0, none⟩), .int .i64 N] (w.alloc (.cells (rdr m 0) 86)) fun e w' => ∃ A2 n2 c2, e = .returned (.tuple #[.slice A2 n2 c2, .int .i64 0]) ∧ Rd w' w'.heap.size 1 A2 n2 (ints xs) ∧ Blk w' w.heap.size 86 (rdr m q) ∧ Below w.heap.size w w') := by
    by_cases hN : N < 0 ∨ 257 < N
    · refine .inl ⟨2, by decide, (tget_arg w.heap.size N _ hN).mono ?_⟩
      rintro e w' ⟨rfl, rfl⟩
      exact ⟨none, 0, rfl, bR, HB1⟩
    · obtain ⟨K, rfl⟩ := Int.eq_ofNat_of_zero_le (show 0 ≤ N by omega)
      obtain ⟨x, hx⟩ : ∃ x, tabG m K = x := ⟨_, rfl⟩
      have C := tget_any w.heap.size m K _ bR (by omega) (by omega) x hx
      have hbe : ∀ w' p, RLeft (w.alloc (.cells (rdr m 0) 86)) w' w.heap.size m p → Below w.heap.size w w' := fun w' p hR => HB1.trans ⟨hR.2.os, hR.2.tape, hR.2.output, hR.2.size, fun b hb => hR.2.block b (by simp; omega) (by simp; omega)⟩
      by_cases he : x.2.2 = 0
      · obtain ⟨q1, q2, q3, q4⟩ := tab_forms m K x hx he
        refine .inr ⟨K, x.1, x.2.1, rfl, q1, by omega, q2, q3, q4, C.mono ?_⟩
        rintro e w' ⟨A2, n2, c2, rfl, _, r2, hR⟩
        rw [if_pos he] at hR
        exact ⟨A2, n2, c2, by rw [he], r2, hR.1, hbe w' _ hR⟩
      · have hnil := getT_err m K (K + 1) 0 [] (-1) (by show (tabG m K).2.2 ≠ 0; rw [hx]; exact he)
        have hnil2 : x.1 = [] := by rw [← hx]; exact hnil
        refine .inl ⟨x.2.2, he, C.mono ?_⟩
        rintro e w' ⟨A2, n2, c2, rfl, _, r2, hR⟩
        rw [if_neg he] at hR
        rw [hnil2] at r2
        obtain rfl : 0 = n2 := rd_len r2
        exact ⟨A2, c2, rfl, hR.1, hbe w' _ hR⟩
  rcases key with ⟨er, her, C1⟩ | ⟨K, xs, q, rfl, hxl, hK, hk, hq, htb, C1⟩
  · have herI : (er != 0) = true := by simp [her]
    clear her
    go_enter Try.func11, Try.ntmps11
    go_wp2_with fail
    refine (BitW.new_any m w).mono ?_
    rintro e w1 ⟨rfl, rfl⟩
    go_wp2_with fail
    refine C1.mono ?_
    clear C1
    rintro e w2 ⟨A2, c2, rfl, bR2, hb2⟩
    have C := left_any w.heap.size m 0 w2 bR2 (by omega) (by omega)
    go_wp2_with fail
    refine C.mono ?_
    clear C
    rintro e w3 ⟨rfl, nq, rfl⟩
    have hb3 : Below w.heap.size w (w2.drewN nq) := hb2.drewN_ nq
    go_wp2_with fail
    refine (tawake_any _).mono ?_
    rintro e w7 ⟨rfl, hb7⟩
    go_wp2_with fail
    go_ret
    exact ⟨rfl, hb3.trans (hb7.mono hb3.size)⟩
  · have hsz : sizeT xs = q := by unfold sizeT; rw [if_pos hk, htb, List.length_take, bitsB_len]; omega
    have C2 := fun A5 n5 c5 w (HH : Rd w w.heap.size 1 A5 n5 (ints xs)) (h5 : n5 ≤ 1000000) => tpack_yes A5 n5 c5 xs w HH h5 hk _ rfl
    have C3 := fun A5 n5 c5 w (HH : Rd w w.heap.size 1 A5 n5 (ints xs)) (h5 : n5 ≤ 1000000) => tsize_any A5 n5 c5 xs w HH h5 q hsz
    have htl := textB_len (tabB xs)
    rw [htb, List.length_take, bitsB_len, Nat.min_eq_left hq] at htl
    have htk := text_take m q hq
    rw [htb] at C2
    generalize textB ((bitsB m).take q) = t at *
    have H2 := Lib.hid C2
    have H3 := Lib.hid C3
    have HTK := Lib.hid htk
    have ht1 : ((t.length : Int) != ((q : Int) + 7) / 8) = false := by simp; omega
    have ht2 : ¬ (t.length : Int) > (m.length : Int) := by omega
    have hKI : ((K : Int) != (K : Int)) = false := by simp
    have hqq : ((q : Int) != (q : Int)) = false := by simp
    have hs0 : (0 : Int) ≤ (q : Int) / 8 := by omega
    have hs1 : (q : Int) / 8 ≤ (t.length : Int) := by omega
    have hs2 : (q : Int) / 8 ≤ (m.length : Int) := by omega
    have hs3 : ((q : Int) / 8).toNat = q / 8 := by omega
    have hwq : IntKind.i64.wrap ((q : Int) / 8) = (q : Int) / 8 := w64k (by omega) (by omega)
    have hTT : ((⟨t.toArray⟩ : ByteArray).extract 0 (q / 8)) = ((⟨m.toArray⟩ : ByteArray).extract 0 (q / 8)) := by
      apply ByteArray.ext
      apply Array.ext'
      rw [ext_head2 t (q / 8), ext_head2 m (q / 8), HTK.out]
    have HLE := Lib.hid (show (8 : Int) * (m.length : Int) - ((8 * m.length - q : Nat) : Int) = (q : Int) by omega)
    have HTT := Lib.hid hTT
    have HWQ := Lib.hid hwq
    clear C2 C3 htl htk hk htb hsz hTT hwq
    go_enter Try.func11, Try.ntmps11
    go_wp2_with fail
    refine (BitW.new_any m w).mono ?_
    rintro e w1 ⟨rfl, rfl⟩
    go_wp2_with fail
    refine C1.mono ?_
    clear C1
    rintro e w2 ⟨A2, n2, c2, rfl, r2, bR2, hb2⟩
    obtain rfl : n2 = K := by have := rd_len r2; omega
    have C := left_any w.heap.size m q w2 bR2 hq (by omega)
    go_wp2_with fail
    refine C.mono ?_
    clear C
    rintro e w3 ⟨rfl, nq, rfl⟩
    have hb3 : Below w.heap.size w (w2.drewN nq) := hb2.drewN_ nq
    have r3 := r2.below ((Below.refl w2.heap.size w2).drewN_ nq)
    generalize hw3 : w2.drewN nq = w3 at *
    have hz3 : w2.heap.size = w3.heap.size := by rw [← hw3]; rfl
    have r3' : Rd w3 w3.heap.size 1 A2 n2 (ints xs) := r3.more (by omega)
    clear hw3 r3 r2 bR2 hb2 bR HB1
    go_wp2_with fail
    try rw [HLE.out]
    refine (H2.out A2 n2 c2 w3 r3' (by omega)).mono ?_
    rintro e w4 ⟨rfl, hb4⟩
    have hb4' := hb3.trans (hb4.mono hb3.size)
    have r4 := (r3'.below hb4).more hb4.size
    clear H2 hb4 r3' hb3 hz3
    go_wp2_with fail
    refine (H3.out A2 n2 c2 w4 r4 (by omega)).mono ?_
    rintro e w5 ⟨rfl, hb5⟩
    have HB := hb4'.trans (hb5.mono hb4'.size)
    clear H3 hb5 hb4' r4
    have hTT := HTT.out
    have hwq := HWQ.out
    go_wp2_with fail
    refine wp_region_held_drew (S := (fun w' => True)) (by kernel_rfl) ?_ (fun hHeld => ?_)
    · replace HB := Below.drew HB; (try dsimp only); try trivial
    replace HB := Below.drew HB
    have zHB := HB.size
    refine take_move 0 (Operand.tmp 9) rfl rfl (by first | exact .inl rfl | exact .inr rfl) rfl (by kernel_rfl) (by kernel_rfl) (by kernel_rfl) (fun _ _ _ h => h) (by assumption) ?_
    simp only [List.setIfInBounds_toArray, List.set_cons_zero, List.set_cons_succ]
    refine take_move 1 (Operand.tmp 8) rfl rfl (by first | exact .inl rfl | exact .inr rfl) rfl (by kernel_rfl) (by kernel_rfl) (by kernel_rfl) (fun _ _ _ h => h) (by assumption) ?_
    simp only [List.setIfInBounds_toArray, List.set_cons_zero, List.set_cons_succ]
    refine take_op (v := ?vu1x2) 2 (Op.binOp BinOp.quo 3 (Operand.tmp 82) (Operand.const (Value.int IntKind.i64 8)) 3) 3 rfl rfl rfl rfl rfl (by kernel_rfl) (by kernel_rfl) (by kernel_rfl) (fun _ _ _ h => h) ?yu1x2 (by assumption) ?ru1x2
    case yu1x2 => (intro w' hSw; (try dsimp only at hSw); go_simp; try (with_reducible rfl))
    simp only [List.setIfInBounds_toArray, List.set_cons_zero, List.set_cons_succ]
    refine take_op (v := ?vu1x3) 3 (Op.slice 9 (Operand.tmp 81) none (some (Operand.tmp 83)) none) 9 rfl rfl rfl rfl rfl (by kernel_rfl) (by kernel_rfl) (by kernel_rfl) (fun _ _ _ h => h) ?yu1x3 (by assumption) ?ru1x3
    case yu1x3 => (intro w' hSw; (try dsimp only at hSw); go_simp; try (with_reducible rfl))
    simp only [List.setIfInBounds_toArray, List.set_cons_zero, List.set_cons_succ]
    refine take_move 4 (Operand.tmp 0) rfl rfl (by first | exact .inl rfl | exact .inr rfl) rfl (by kernel_rfl) (by kernel_rfl) (by kernel_rfl) (fun _ _ _ h => h) (by assumption) ?_
    simp only [List.setIfInBounds_toArray, List.set_cons_zero, List.set_cons_succ]
    refine take_move 5 (Operand.tmp 8) rfl rfl (by first | exact .inl rfl | exact .inr rfl) rfl (by kernel_rfl) (by kernel_rfl) (by kernel_rfl) (fun _ _ _ h => h) (by assumption) ?_
    simp only [List.setIfInBounds_toArray, List.set_cons_zero, List.set_cons_succ]
    refine take_op (v := ?vu1x6) 6 (Op.binOp BinOp.quo 3 (Operand.tmp 86) (Operand.const (Value.int IntKind.i64 8)) 3) 3 rfl rfl rfl rfl rfl (by kernel_rfl) (by kernel_rfl) (by kernel_rfl) (fun _ _ _ h => h) ?yu1x6 (by assumption) ?ru1x6
    case yu1x6 => (intro w' hSw; (try dsimp only at hSw); go_simp; try (with_reducible rfl))
    simp only [List.setIfInBounds_toArray, List.set_cons_zero, List.set_cons_succ]
    refine take_op (v := ?vu1x7) 7 (Op.slice 9 (Operand.tmp 85) none (some (Operand.tmp 87)) none) 9 rfl rfl rfl rfl rfl (by kernel_rfl) (by kernel_rfl) (by kernel_rfl) (fun _ _ _ h => h) ?yu1x7 (by assumption) ?ru1x7
    case yu1x7 => (intro w' hSw; (try dsimp only at hSw); go_simp; try (with_reducible rfl))
    simp only [List.setIfInBounds_toArray, List.set_cons_zero, List.set_cons_succ]
    refine take_op (v := ?vu1x8) 8 (Op.binOp BinOp.eql 9 (Operand.tmp 84) (Operand.tmp 88) 9) 4 rfl rfl rfl rfl rfl (by kernel_rfl) (by kernel_rfl) (by kernel_rfl) (fun _ _ _ h => h) ?yu1x8 (by assumption) ?ru1x8
    case yu1x8 => (intro w' hSw; (try dsimp only at hSw); go_simp; try (with_reducible rfl))
    simp only [List.setIfInBounds_toArray, List.set_cons_zero, List.set_cons_succ]
    refine take_move 9 (Operand.tmp 89) rfl rfl (by first | exact .inl rfl | exact .inr rfl) rfl (by kernel_rfl) (by kernel_rfl) (by kernel_rfl) (fun _ _ _ h => h) (by assumption) ?_
    simp only [List.setIfInBounds_toArray, List.set_cons_zero, List.set_cons_succ]
    refine wpAnyH_ready (rs := [10]) (by kernel_rfl) (by simp) (AllReadyH.cons rfl (fun K10 hK10 => ?ku1x10) AllReadyH.nil)
    refine take_calls 10 27 [] #[] rfl rfl (by kernel_rfl) (fun args w => run_enter Try.func27 (by kernel_rfl) rfl args w) ?_
    refine (tawake_any _).mono ?_
    rintro e w10 ⟨rfl, hb10⟩
    refine ⟨_, rfl, ?_⟩
    have z10 := hb10.size
    try simp only [World.size_drew] at z10
    replace HB := HB.trans (hb10.mono HB.size)
    have zHB10 := HB.size
    refine hK10.out _ _ ?su1x10 (fun hHeld => ?ru1x10)
    case su1x10 => ((try dsimp only); try trivial)
    try simp only [List.setIfInBounds_toArray, List.set_cons_zero, List.set_cons_succ]
    refine take_op (v := ?vu1x11) 11 (Op.pick (Operand.tmp 90) (Operand.tmp 91) (Operand.const (Value.bool false))) 4 rfl rfl rfl rfl rfl (by kernel_rfl) (by kernel_rfl) (by kernel_rfl) (fun _ _ _ h => h) ?yu1x11 (by assumption) ?ru1x11
    case yu1x11 => (intro w' hSw; (try dsimp only at hSw); go_simp; try (with_reducible rfl))
    simp only [List.setIfInBounds_toArray, List.set_cons_zero, List.set_cons_succ]
    refine take_op (v := ?vu1x12) 12 (Op.assign (Operand.tmp 92)) 4 rfl rfl rfl rfl rfl (by kernel_rfl) (by kernel_rfl) (by kernel_rfl) (fun _ _ _ h => h) ?yu1x12 (by assumption) ?ru1x12
    case yu1x12 => (intro w' hSw; (try dsimp only at hSw); go_simp; try (with_reducible rfl))
    simp only [List.setIfInBounds_toArray, List.set_cons_zero, List.set_cons_succ]
    refine wpAnyH_done (by kernel_rfl) ?_ _
    try go_wp2_with fail
    go_ret
    exact ⟨rfl, HB⟩
end TabW
end Go.Proofs.Ytedoeplhjmkllaa
