/- The walks of the law of package skip: its fixed answers. -/
import Derived.Test.YtnghmcadhjneeaaSkpP
import Derived.Test.YtnghmcadhjneeaaSkpU
namespace Go.Proofs.Ytnghmcadhjneeaa
set_option linter.unusedVariables false
set_option linter.unusedSimpArgs false
set_option linter.unnecessarySimpa false
open Go.RowKit
namespace SkpW
open SpanW (R rv)

abbrev Q0 : Qy := ⟨1, 9, 0, 99, [97], 1, 2⟩
abbrev L3 : List Rc := [(1, 2, [97]), (2, 3, [98, 97]), (3, 3, [99, 97, 98])]
set_option maxRecDepth 100000 in
theorem all_any (w : World) : Calls Try.prog 67 #[] w fun e w' => e = .returned (qv Q0) ∧ Below w.heap.size w w' := by
  go_enter Try.func67, Try.ntmps67
  go_wp2_with fail
  refine bodyPost_ret (results_row1 rfl _ _ w.heap.size 67 (qc Q0) (0, 0) _ rfl (Blk.new _ _ _) Try.underlying67 rfl (by kernel_rfl)) rfl ?_
  exact ⟨rfl, (Below.refl _ w).alloc (Nat.le_refl _) _⟩
set_option maxRecDepth 100000 in
theorem three_any (w : World) : Calls Try.prog 68 #[] w fun e w' => ∃ b, e = .returned (.slice (some ⟨b, 0, none⟩) 3 3) ∧ Rd w' w'.heap.size 3 (some ⟨b, 0, none⟩) 3 (rcells L3) ∧ Below w.heap.size w w' := by
  have hr : Rd (w.alloc (.cells (rcells L3).toArray 26)) (w.heap.size + 1) 3 (some ⟨w.heap.size, 0, none⟩) 3 (rcells L3) := rd_new (W0 := w) (t := 26) (cs := rcells L3) (size := 3) (m := 3) rfl rfl
  go_enter Try.func68, Try.ntmps68
  go_wp2_with fail
  go_ret
  exact ⟨w.heap.size, rfl, by rw [World.size_alloc]; exact hr, (Below.refl _ w).alloc (Nat.le_refl _) _⟩
theorem hits3 : L3.filter (hitA (ofQ Q0)) = [(2, 3, [98, 97]), (3, 3, [99, 97, 98])] := by decide +kernel
theorem rd_at3 {w : World} {B b : Nat} (h : Rd w B 3 (some ⟨b, 0, none⟩) 3 (rcells L3)) :
    (w.cell? ⟨b, 0, none⟩ = some (.int .i64 1) ∧ w.cell? ⟨b, 1, none⟩ = some (.int .i64 2) ∧ w.cell? ⟨b, 2, none⟩ = some (str [97])) ∧ (w.cell? ⟨b, 6, none⟩ = some (.int .i64 3) ∧ w.cell? ⟨b, 7, none⟩ = some (.int .i64 3) ∧ w.cell? ⟨b, 8, none⟩ = some (str [99, 97, 98])) := by
  have a := rd_cell3 h 0 (by decide) 1 2 [97] rfl
  have c := rd_cell3 h 2 (by decide) 3 3 [99, 97, 98] rfl
  exact ⟨a, c⟩
set_option maxRecDepth 100000 in
set_option maxHeartbeats 8000000 in
theorem awake_any (w : World) : Calls Try.prog 32 #[] w fun e w' => e = .returned (.bool true) ∧ Below w.heap.size w w' := by
  have CP := Lib.hid (fun A w h => page_any Q0 A 3 3 L3 w h (by omega) (by decide) (by decide) ([(2, 3, [98, 97])], 3) (by rw [hits3]; decide +kernel))
  have CF := Lib.hid (fun A w h => filter_any Q0 A 3 3 L3 w h (by omega) (by decide) (by decide))
  rw [hits3] at CF
  have CH1 := Lib.hid (fun w => Hit_any Q0 (3, 3, [99, 97, 98]) w (by decide) (by decide))
  have CH2 := Lib.hid (fun w => Hit_any Q0 (1, 2, [97]) w (by decide) (by decide))
  rw [show hitA (ofQ Q0) (3, 3, [99, 97, 98]) = true from by decide +kernel] at CH1
  rw [show hitA (ofQ Q0) (1, 2, [97]) = false from by decide +kernel] at CH2
  have CS := Lib.hid (fun w => seqs_any Q0 w)
  rw [show (ofQ Q0).2 = (2, 9) from by decide +kernel] at CS
  have CC1 := Lib.hid (fun w => check_any Q0 0 (by decide) w)
  have CC2 := Lib.hid (fun w => check_any ⟨0, 0, 0, 0, [], 0, 0⟩ 320 (by decide) w)
  have CB1 := Lib.hid (fun w => block_any Q0 ⟨0, 0, 0, 2, 1, 0, 5⟩ true (by decide +kernel) w (by unfold I64; decide) (by unfold I64; decide))
  have CB2 := Lib.hid (fun w => block_any Q0 ⟨0, 0, 0, 1, 1, 0, 5⟩ false (by decide +kernel) w (by unfold I64; decide) (by unfold I64; decide))
  have CG := Lib.hid (fun w => segment_any Q0 ⟨1, 1, 9, false, 0, 0, 0, 0, 0⟩ true (by decide +kernel) w)
  have HB := Below.refl w.heap.size w
  go_enter Try.func32, Try.ntmps32
  go_wp2_with fail
  refine (all_any _).mono ?_
  rintro e w1 ⟨rfl, hb⟩
  replace HB := HB.trans (hb.mono HB.size)
  clear hb
  go_wp2_with fail
  refine (three_any _).mono ?_
  rintro e w2 ⟨b1, rfl, r1, hb⟩
  replace HB := HB.trans (hb.mono HB.size)
  clear hb
  go_wp2_with fail
  refine (CP.out _ _ r1).mono ?_
  rintro e w3 ⟨A, m, c, rfl, rp, _, hb⟩
  replace HB := HB.trans (hb.mono HB.size)
  obtain rfl : m = 1 := (rd_rlen rp).symm
  obtain ⟨b, o, rfl, hbb, hc⟩ := rd_recs rp (by omega)
  have d0 := (hc 0 (by decide)).1
  have bP := Blk.new w3 70 #[.slice (some ⟨b, o, none⟩) 1 c, .int .i64 3]
  have HBP := (Below.refl _ w3).alloc (Nat.le_refl _) (.cells #[.slice (some ⟨b, o, none⟩) 1 c, .int .i64 3] 70)
  have d1 := (HBP.cell (p := ⟨b, o + 0 * 3, none⟩) hbb).trans d0
  have hbb' : b < (w3.alloc (.cells #[.slice (some ⟨b, o, none⟩) 1 c, .int .i64 3] 70)).heap.size := by rw [World.size_alloc]; omega
  replace HB := HB.alloc HB.size (.cells #[.slice (some ⟨b, o, none⟩) 1 c, .int .i64 3] 70)
  clear hc d0 rp r1 HBP
  clear hb
  go_wp2_with fail
  refine (all_any _).mono ?_
  rintro e w4 ⟨rfl, hb⟩
  replace HB := HB.trans (hb.mono HB.size)
  replace d1 := (hb.cell (p := ⟨b, o + 0 * 3, none⟩) hbb').trans d1
  replace bP := bP.below hb bP.lt
  replace hbb' := Nat.lt_of_lt_of_le hbb' hb.size
  clear hb
  go_wp2_with fail
  refine (three_any _).mono ?_
  rintro e w5 ⟨b1, rfl, r1, hb⟩
  replace HB := HB.trans (hb.mono HB.size)
  replace d1 := (hb.cell (p := ⟨b, o + 0 * 3, none⟩) hbb').trans d1
  replace bP := bP.below hb bP.lt
  replace hbb' := Nat.lt_of_lt_of_le hbb' hb.size
  clear hb
  go_wp2_with fail
  refine (CF.out _ _ r1).mono ?_
  rintro e w6 ⟨A2, m2, c2, rfl, o2, hb⟩
  replace HB := HB.trans (hb.mono HB.size)
  replace d1 := (hb.cell (p := ⟨b, o + 0 * 3, none⟩) hbb').trans d1
  replace bP := bP.below hb bP.lt
  replace hbb' := Nat.lt_of_lt_of_le hbb' hb.size
  obtain rfl : m2 = 2 := (rd_rlen o2.rd).symm
  obtain ⟨p0, p1, _, _, _⟩ := blk2 bP
  rw [Nat.zero_mul, Nat.add_zero] at d1
  clear o2 r1 bP
  clear hb
  go_wp2_with fail
  refine (all_any _).mono ?_
  rintro e w7 ⟨rfl, hb⟩
  replace HB := HB.trans (hb.mono HB.size)
  clear hb
  go_wp2_with fail
  refine (three_any _).mono ?_
  rintro e w8 ⟨b2, rfl, r2, hb⟩
  replace HB := HB.trans (hb.mono HB.size)
  obtain ⟨⟨x0, x1, x2⟩, y0, y1, y2⟩ := rd_at3 r2
  clear hb
  go_wp2_with fail
  refine (CH1.out _).mono ?_
  rintro e w9 ⟨rfl, hb⟩
  replace HB := HB.trans (hb.mono HB.size)
  clear hb
  go_wp2_with fail
  refine (all_any _).mono ?_
  rintro e w10 ⟨rfl, hb⟩
  replace HB := HB.trans (hb.mono HB.size)
  clear x0 x1 x2 y0 y1 y2 r2
  clear hb
  go_wp2_with fail
  refine (three_any _).mono ?_
  rintro e w11 ⟨b3, rfl, r2, hb⟩
  replace HB := HB.trans (hb.mono HB.size)
  obtain ⟨⟨x0, x1, x2⟩, y0, y1, y2⟩ := rd_at3 r2
  clear hb
  go_wp2_with fail
  refine (CH2.out _).mono ?_
  rintro e w12 ⟨rfl, hb⟩
  replace HB := HB.trans (hb.mono HB.size)
  clear hb
  go_wp2_with fail
  refine (all_any _).mono ?_
  rintro e w13 ⟨rfl, hb⟩
  replace HB := HB.trans (hb.mono HB.size)
  clear hb
  go_wp2_with fail
  refine (CS.out _).mono ?_
  rintro e w14 ⟨rfl, hb⟩
  replace HB := HB.trans (hb.mono HB.size)
  clear hb
  go_wp2_with fail
  refine (all_any _).mono ?_
  rintro e w15 ⟨rfl, hb⟩
  replace HB := HB.trans (hb.mono HB.size)
  clear hb
  go_wp2_with fail
  refine (CC1.out _).mono ?_
  rintro e w16 ⟨rfl, hb⟩
  replace HB := HB.trans (hb.mono HB.size)
  clear hb
  go_wp2_with fail
  refine (CC2.out _).mono ?_
  rintro e w17 ⟨rfl, hb⟩
  replace HB := HB.trans (hb.mono HB.size)
  clear hb
  go_wp2_with fail
  refine (all_any _).mono ?_
  rintro e w18 ⟨rfl, hb⟩
  replace HB := HB.trans (hb.mono HB.size)
  clear hb
  go_wp2_with fail
  refine (CB1.out _).mono ?_
  rintro e w19 ⟨rfl, hb⟩
  replace HB := HB.trans (hb.mono HB.size)
  clear hb
  go_wp2_with fail
  refine (all_any _).mono ?_
  rintro e w20 ⟨rfl, hb⟩
  replace HB := HB.trans (hb.mono HB.size)
  clear hb
  go_wp2_with fail
  refine (CB2.out _).mono ?_
  rintro e w21 ⟨rfl, hb⟩
  replace HB := HB.trans (hb.mono HB.size)
  clear hb
  go_wp2_with fail
  refine (all_any _).mono ?_
  rintro e w22 ⟨rfl, hb⟩
  replace HB := HB.trans (hb.mono HB.size)
  clear hb
  go_wp2_with fail
  refine (CG.out _).mono ?_
  rintro e w23 ⟨rfl, hb⟩
  replace HB := HB.trans (hb.mono HB.size)
  clear hb
  go_wp2_with fail
  go_ret
  exact ⟨rfl, HB⟩
end SkpW
end Go.Proofs.Ytnghmcadhjneeaa
