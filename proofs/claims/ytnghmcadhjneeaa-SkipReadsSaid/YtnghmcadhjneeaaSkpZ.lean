/- The law of package skip on what need be read: its walk. -/
import Derived.Test.YtnghmcadhjneeaaSkpX
import Derived.Test.YtnghmcadhjneeaaSkpY
namespace Go.Proofs.Ytnghmcadhjneeaa
set_option linter.unusedVariables false
set_option linter.unusedSimpArgs false
set_option linter.unnecessarySimpa false
open Go.RowKit
namespace SkpW

set_option maxRecDepth 100000 in
set_option maxHeartbeats 8000000 in
theorem reads_law (q : Qy) (m : Me) (e1 : En) (w : World) (h2 : q.s2 ≤ 9223372036854775807) (hc : I64 m.count) (hf : I64 m.first) (he : I64 e1.frst) :
    Calls Try.prog 9 #[qv q, .agg (mc m), .agg (ec e1)] w fun e w' => e = .returned (.bool true) ∧ Below w.heap.size w w' := by
  have C1 := Lib.hid (fun w => block_any q m _ rfl w hc hf)
  have C2 := Lib.hid (fun w => refBlock_any q m _ rfl w h2 hc hf)
  have C3 := Lib.hid (fun w => segment_any q e1 _ rfl w)
  have C4 := Lib.hid (fun w => refSegment_any q e1 _ rfl w h2 he.2)
  generalize blockB q m = x at *
  generalize segB q e1 = y at *
  obtain ⟨m0, m1, m2, m3, m4, m5, m6⟩ := m
  obtain ⟨i, g, f, s, co, bl, ea, la, bs⟩ := e1
  have b0 := ((Blk.new w 67 (qc q)).alloc (.cells (mc ⟨m0, m1, m2, m3, m4, m5, m6⟩) 78)).alloc (.cells (ec ⟨i, g, f, s, co, bl, ea, la, bs⟩) 82)
  have b1 := (Blk.new (w.alloc (.cells (qc q) 67)) 78 (mc ⟨m0, m1, m2, m3, m4, m5, m6⟩)).alloc (.cells (ec ⟨i, g, f, s, co, bl, ea, la, bs⟩) 82)
  have b2 := Blk.new ((w.alloc (.cells (qc q) 67)).alloc (.cells (mc ⟨m0, m1, m2, m3, m4, m5, m6⟩) 78)) 82 (ec ⟨i, g, f, s, co, bl, ea, la, bs⟩)
  simp only [World.size_alloc] at b1 b2
  have HB : Below w.heap.size w (((w.alloc (.cells (qc q) 67)).alloc (.cells (mc ⟨m0, m1, m2, m3, m4, m5, m6⟩) 78)).alloc (.cells (ec ⟨i, g, f, s, co, bl, ea, la, bs⟩) 82)) :=
    (((Below.refl _ w).alloc (Nat.le_refl _) _).alloc (by simp) _).alloc (by simp only [World.size_alloc]; omega) _
  have b0' := b0
  obtain ⟨q0, q1, q2, q3, q4, q5, q6⟩ := blk7 b0'
  clear b0'
  clear h2 hc hf he
  by_cases hl : (1000 : Int) < (q.find.length : Int)
  · go_enter Try.func9, Try.ntmps9
    go_wp2_with fail
    refine (awake_any _).mono ?_
    rintro e w9 ⟨rfl, hb9⟩
    go_wp2_with fail
    go_ret
    exact ⟨rfl, HB.trans (hb9.mono HB.size)⟩
  · have hbl := b2.lt
    go_enter Try.func9, Try.ntmps9
    go_wp2_with fail
    clear q0 q1 q2 q3 q4 q5 q6
    refine wp_region_held_drew (S := (fun w' => (w'.cell? ⟨w.heap.size, 0, none⟩ = some (.int .i64 q.s1) ∧ w'.cell? ⟨w.heap.size, 1, none⟩ = some (.int .i64 q.s2) ∧ w'.cell? ⟨w.heap.size, 2, none⟩ = some (.int .i64 q.t1) ∧ w'.cell? ⟨w.heap.size, 3, none⟩ = some (.int .i64 q.t2) ∧ w'.cell? ⟨w.heap.size, 4, none⟩ = some (str q.find) ∧ w'.cell? ⟨w.heap.size, 5, none⟩ = some (.int .i64 q.limit) ∧ w'.cell? ⟨w.heap.size, 6, none⟩ = some (.int .i64 q.frm)) ∧ (w'.cell? ⟨w.heap.size + 1, 0, none⟩ = some (.int .i64 m0) ∧ w'.cell? ⟨w.heap.size + 1, 1, none⟩ = some (.int .i64 m1) ∧ w'.cell? ⟨w.heap.size + 1, 2, none⟩ = some (.int .i64 m2) ∧ w'.cell? ⟨w.heap.size + 1, 3, none⟩ = some (.int .i64 m3) ∧ w'.cell? ⟨w.heap.size + 1, 4, none⟩ = some (.int .i64 m4) ∧ w'.cell? ⟨w.heap.size + 1, 5, none⟩ = some (.int .i64 m5) ∧ w'.cell? ⟨w.heap.size + 1, 6, none⟩ = some (.int .i64 m6)) ∧ (w'.cell? ⟨w.heap.size + 1 + 1, 0, none⟩ = some (.int .i64 i) ∧ w'.cell? ⟨w.heap.size + 1 + 1, 1, none⟩ = some (.int .i64 g) ∧ w'.cell? ⟨w.heap.size + 1 + 1, 2, none⟩ = some (.int .i64 f) ∧ w'.cell? ⟨w.heap.size + 1 + 1, 3, none⟩ = some (.bool s) ∧ w'.cell? ⟨w.heap.size + 1 + 1, 4, none⟩ = some (.int .i64 co) ∧ w'.cell? ⟨w.heap.size + 1 + 1, 5, none⟩ = some (.int .i64 bl) ∧ w'.cell? ⟨w.heap.size + 1 + 1, 6, none⟩ = some (.int .i64 ea) ∧ w'.cell? ⟨w.heap.size + 1 + 1, 7, none⟩ = some (.int .i64 la) ∧ w'.cell? ⟨w.heap.size + 1 + 1, 8, none⟩ = some (.int .i64 bs)))) (by kernel_rfl) ?_ (fun hHeld => ?_)
    · replace HB := Below.drew HB; replace b0 := Blk.drew b0; replace b1 := Blk.drew b1; replace b2 := Blk.drew b2; (try dsimp only); exact ⟨blk7 b0, blk7 b1, blk9c b2⟩
    replace HB := Below.drew HB
    replace b0 := Blk.drew b0
    replace b1 := Blk.drew b1
    replace b2 := Blk.drew b2
    have zHB := HB.size
    refine take_op (v := ?vu1x0) 0 (Op.load 67 (Operand.tmp 3)) 67 rfl rfl rfl rfl rfl (by kernel_rfl) (by kernel_rfl) (by kernel_rfl) (fun _ _ _ h => h) ?yu1x0 (by assumption) ?ru1x0
    case yu1x0 => (intro w' hSw; (try dsimp only at hSw); go_simp; try (with_reducible rfl))
    simp only [List.setIfInBounds_toArray, List.set_cons_zero, List.set_cons_succ]
    refine take_op (v := ?vu1x1) 1 (Op.load 78 (Operand.tmp 4)) 78 rfl rfl rfl rfl rfl (by kernel_rfl) (by kernel_rfl) (by kernel_rfl) (fun _ _ _ h => h) ?yu1x1 (by assumption) ?ru1x1
    case yu1x1 => (intro w' hSw; (try dsimp only at hSw); go_simp; try (with_reducible rfl))
    simp only [List.setIfInBounds_toArray, List.set_cons_zero, List.set_cons_succ]
    refine take_op (v := ?vu1x3) 3 (Op.load 67 (Operand.tmp 3)) 67 rfl rfl rfl rfl rfl (by kernel_rfl) (by kernel_rfl) (by kernel_rfl) (fun _ _ _ h => h) ?yu1x3 (by assumption) ?ru1x3
    case yu1x3 => (intro w' hSw; (try dsimp only at hSw); go_simp; try (with_reducible rfl))
    simp only [List.setIfInBounds_toArray, List.set_cons_zero, List.set_cons_succ]
    refine take_op (v := ?vu1x4) 4 (Op.load 78 (Operand.tmp 4)) 78 rfl rfl rfl rfl rfl (by kernel_rfl) (by kernel_rfl) (by kernel_rfl) (fun _ _ _ h => h) ?yu1x4 (by assumption) ?ru1x4
    case yu1x4 => (intro w' hSw; (try dsimp only at hSw); go_simp; try (with_reducible rfl))
    simp only [List.setIfInBounds_toArray, List.set_cons_zero, List.set_cons_succ]
    refine wpAnyH_ready (rs := [2]) (by kernel_rfl) (by simp) (AllReadyH.cons rfl (fun K2 hK2 => ?ku1x2) AllReadyH.nil)
    refine take_calls 2 44 [Operand.tmp 12, Operand.tmp 13] #[67, 78] rfl rfl (by kernel_rfl) (fun args w => run_enter Try.func44 (by kernel_rfl) rfl args w) ?_
    refine (C1.out _).mono ?_
    rintro e w2 ⟨rfl, hb2⟩
    refine ⟨_, rfl, ?_⟩
    have z2 := hb2.size
    try simp only [World.size_drew] at z2
    replace HB := HB.trans (hb2.mono HB.size)
    have zHB2 := HB.size
    replace b0 := Blk.below b0 hb2 (by first | exact Nat.le_refl _ | (simp only [World.size_alloc, World.size_setCell, World.size_drew] at *; omega) | omega)
    replace b1 := Blk.below b1 hb2 (by first | exact Nat.le_refl _ | (simp only [World.size_alloc, World.size_setCell, World.size_drew] at *; omega) | omega)
    replace b2 := Blk.below b2 hb2 (by first | exact Nat.le_refl _ | (simp only [World.size_alloc, World.size_setCell, World.size_drew] at *; omega) | omega)
    refine hK2.out _ _ ?su1x2 (fun hHeld => ?ru1x2)
    case su1x2 => ((try dsimp only); exact ⟨blk7 b0, blk7 b1, blk9c b2⟩)
    try simp only [List.setIfInBounds_toArray, List.set_cons_zero, List.set_cons_succ]
    refine wpAnyH_ready (rs := [5]) (by kernel_rfl) (by simp) (AllReadyH.cons rfl (fun K5 hK5 => ?ku1x5) AllReadyH.nil)
    refine take_calls 5 45 [Operand.tmp 15, Operand.tmp 16] #[67, 78] rfl rfl (by kernel_rfl) (fun args w => run_enter Try.func45 (by kernel_rfl) rfl args w) ?_
    refine (C2.out _).mono ?_
    rintro e w5 ⟨rfl, hb5⟩
    refine ⟨_, rfl, ?_⟩
    have z5 := hb5.size
    try simp only [World.size_drew] at z5
    replace HB := HB.trans (hb5.mono HB.size)
    have zHB5 := HB.size
    replace b0 := Blk.below b0 hb5 (by first | exact Nat.le_refl _ | (simp only [World.size_alloc, World.size_setCell, World.size_drew] at *; omega) | omega)
    replace b1 := Blk.below b1 hb5 (by first | exact Nat.le_refl _ | (simp only [World.size_alloc, World.size_setCell, World.size_drew] at *; omega) | omega)
    replace b2 := Blk.below b2 hb5 (by first | exact Nat.le_refl _ | (simp only [World.size_alloc, World.size_setCell, World.size_drew] at *; omega) | omega)
    refine hK5.out _ _ ?su1x5 (fun hHeld => ?ru1x5)
    case su1x5 => ((try dsimp only); exact ⟨blk7 b0, blk7 b1, blk9c b2⟩)
    try simp only [List.setIfInBounds_toArray, List.set_cons_zero, List.set_cons_succ]
    refine take_op (v := ?vu1x6) 6 (Op.binOp BinOp.eql 4 (Operand.tmp 14) (Operand.tmp 17) 4) 4 rfl rfl rfl rfl rfl (by kernel_rfl) (by kernel_rfl) (by kernel_rfl) (fun _ _ _ h => h) ?yu1x6 (by assumption) ?ru1x6
    case yu1x6 => (intro w' hSw; (try dsimp only at hSw); go_simp; try (with_reducible rfl))
    simp only [List.setIfInBounds_toArray, List.set_cons_zero, List.set_cons_succ]
    refine take_move 7 (Operand.tmp 18) rfl rfl (by first | exact .inl rfl | exact .inr rfl) rfl (by kernel_rfl) (by kernel_rfl) (by kernel_rfl) (fun _ _ _ h => h) (by assumption) ?_
    simp only [List.setIfInBounds_toArray, List.set_cons_zero, List.set_cons_succ]
    refine take_op (v := ?vu1x8) 8 (Op.load 67 (Operand.tmp 3)) 67 rfl rfl rfl rfl rfl (by kernel_rfl) (by kernel_rfl) (by kernel_rfl) (fun _ _ _ h => h) ?yu1x8 (by assumption) ?ru1x8
    case yu1x8 => (intro w' hSw; (try dsimp only at hSw); go_simp; try (with_reducible rfl))
    simp only [List.setIfInBounds_toArray, List.set_cons_zero, List.set_cons_succ]
    refine take_op (v := ?vu1x9) 9 (Op.load 82 (Operand.tmp 5)) 82 rfl rfl rfl rfl rfl (by kernel_rfl) (by kernel_rfl) (by kernel_rfl) (fun _ _ _ h => h) ?yu1x9 (by assumption) ?ru1x9
    case yu1x9 => (intro w' hSw; (try dsimp only at hSw); go_simp; try (with_reducible rfl))
    simp only [List.setIfInBounds_toArray, List.set_cons_zero, List.set_cons_succ]
    refine take_op (v := ?vu1x11) 11 (Op.load 67 (Operand.tmp 3)) 67 rfl rfl rfl rfl rfl (by kernel_rfl) (by kernel_rfl) (by kernel_rfl) (fun _ _ _ h => h) ?yu1x11 (by assumption) ?ru1x11
    case yu1x11 => (intro w' hSw; (try dsimp only at hSw); go_simp; try (with_reducible rfl))
    simp only [List.setIfInBounds_toArray, List.set_cons_zero, List.set_cons_succ]
    refine take_op (v := ?vu1x12) 12 (Op.load 82 (Operand.tmp 5)) 82 rfl rfl rfl rfl rfl (by kernel_rfl) (by kernel_rfl) (by kernel_rfl) (fun _ _ _ h => h) ?yu1x12 (by assumption) ?ru1x12
    case yu1x12 => (intro w' hSw; (try dsimp only at hSw); go_simp; try (with_reducible rfl))
    simp only [List.setIfInBounds_toArray, List.set_cons_zero, List.set_cons_succ]
    refine wpAnyH_ready (rs := [10]) (by kernel_rfl) (by simp) (AllReadyH.cons rfl (fun K10 hK10 => ?ku1x10) AllReadyH.nil)
    refine take_calls 10 46 [Operand.tmp 20, Operand.tmp 21] #[67, 82] rfl rfl (by kernel_rfl) (fun args w => run_enter Try.func46 (by kernel_rfl) rfl args w) ?_
    refine (C3.out _).mono ?_
    rintro e w10 ⟨rfl, hb10⟩
    refine ⟨_, rfl, ?_⟩
    have z10 := hb10.size
    try simp only [World.size_drew] at z10
    replace HB := HB.trans (hb10.mono HB.size)
    have zHB10 := HB.size
    replace b0 := Blk.below b0 hb10 (by first | exact Nat.le_refl _ | (simp only [World.size_alloc, World.size_setCell, World.size_drew] at *; omega) | omega)
    replace b1 := Blk.below b1 hb10 (by first | exact Nat.le_refl _ | (simp only [World.size_alloc, World.size_setCell, World.size_drew] at *; omega) | omega)
    replace b2 := Blk.below b2 hb10 (by first | exact Nat.le_refl _ | (simp only [World.size_alloc, World.size_setCell, World.size_drew] at *; omega) | omega)
    refine hK10.out _ _ ?su1x10 (fun hHeld => ?ru1x10)
    case su1x10 => ((try dsimp only); exact ⟨blk7 b0, blk7 b1, blk9c b2⟩)
    try simp only [List.setIfInBounds_toArray, List.set_cons_zero, List.set_cons_succ]
    refine wpAnyH_ready (rs := [13]) (by kernel_rfl) (by simp) (AllReadyH.cons rfl (fun K13 hK13 => ?ku1x13) AllReadyH.nil)
    refine take_calls 13 47 [Operand.tmp 23, Operand.tmp 24] #[67, 82] rfl rfl (by kernel_rfl) (fun args w => run_enter Try.func47 (by kernel_rfl) rfl args w) ?_
    refine (C4.out _).mono ?_
    rintro e w13 ⟨rfl, hb13⟩
    refine ⟨_, rfl, ?_⟩
    have z13 := hb13.size
    try simp only [World.size_drew] at z13
    replace HB := HB.trans (hb13.mono HB.size)
    have zHB13 := HB.size
    replace b0 := Blk.below b0 hb13 (by first | exact Nat.le_refl _ | (simp only [World.size_alloc, World.size_setCell, World.size_drew] at *; omega) | omega)
    replace b1 := Blk.below b1 hb13 (by first | exact Nat.le_refl _ | (simp only [World.size_alloc, World.size_setCell, World.size_drew] at *; omega) | omega)
    replace b2 := Blk.below b2 hb13 (by first | exact Nat.le_refl _ | (simp only [World.size_alloc, World.size_setCell, World.size_drew] at *; omega) | omega)
    refine hK13.out _ _ ?su1x13 (fun hHeld => ?ru1x13)
    case su1x13 => ((try dsimp only); exact ⟨blk7 b0, blk7 b1, blk9c b2⟩)
    try simp only [List.setIfInBounds_toArray, List.set_cons_zero, List.set_cons_succ]
    refine take_op (v := ?vu1x14) 14 (Op.binOp BinOp.eql 4 (Operand.tmp 22) (Operand.tmp 25) 4) 4 rfl rfl rfl rfl rfl (by kernel_rfl) (by kernel_rfl) (by kernel_rfl) (fun _ _ _ h => h) ?yu1x14 (by assumption) ?ru1x14
    case yu1x14 => (intro w' hSw; (try dsimp only at hSw); go_simp; try (with_reducible rfl))
    simp only [List.setIfInBounds_toArray, List.set_cons_zero, List.set_cons_succ]
    refine take_op (v := ?vu1x15) 15 (Op.pick (Operand.tmp 19) (Operand.tmp 26) (Operand.const (Value.bool false))) 4 rfl rfl rfl rfl rfl (by kernel_rfl) (by kernel_rfl) (by kernel_rfl) (fun _ _ _ h => h) ?yu1x15 (by assumption) ?ru1x15
    case yu1x15 => (intro w' hSw; (try dsimp only at hSw); go_simp; try (with_reducible rfl))
    simp only [List.setIfInBounds_toArray, List.set_cons_zero, List.set_cons_succ]
    refine take_move 16 (Operand.tmp 27) rfl rfl (by first | exact .inl rfl | exact .inr rfl) rfl (by kernel_rfl) (by kernel_rfl) (by kernel_rfl) (fun _ _ _ h => h) (by assumption) ?_
    simp only [List.setIfInBounds_toArray, List.set_cons_zero, List.set_cons_succ]
    refine wpAnyH_ready (rs := [17]) (by kernel_rfl) (by simp) (AllReadyH.cons rfl (fun K17 hK17 => ?ku1x17) AllReadyH.nil)
    refine take_calls 17 32 [] #[] rfl rfl (by kernel_rfl) (fun args w => run_enter Try.func32 (by kernel_rfl) rfl args w) ?_
    refine (awake_any _).mono ?_
    rintro e w17 ⟨rfl, hb17⟩
    refine ⟨_, rfl, ?_⟩
    have z17 := hb17.size
    try simp only [World.size_drew] at z17
    replace HB := HB.trans (hb17.mono HB.size)
    have zHB17 := HB.size
    replace b0 := Blk.below b0 hb17 (by first | exact Nat.le_refl _ | (simp only [World.size_alloc, World.size_setCell, World.size_drew] at *; omega) | omega)
    replace b1 := Blk.below b1 hb17 (by first | exact Nat.le_refl _ | (simp only [World.size_alloc, World.size_setCell, World.size_drew] at *; omega) | omega)
    replace b2 := Blk.below b2 hb17 (by first | exact Nat.le_refl _ | (simp only [World.size_alloc, World.size_setCell, World.size_drew] at *; omega) | omega)
    refine hK17.out _ _ ?su1x17 (fun hHeld => ?ru1x17)
    case su1x17 => ((try dsimp only); exact ⟨blk7 b0, blk7 b1, blk9c b2⟩)
    try simp only [List.setIfInBounds_toArray, List.set_cons_zero, List.set_cons_succ]
    refine take_op (v := ?vu1x18) 18 (Op.pick (Operand.tmp 28) (Operand.tmp 29) (Operand.const (Value.bool false))) 4 rfl rfl rfl rfl rfl (by kernel_rfl) (by kernel_rfl) (by kernel_rfl) (fun _ _ _ h => h) ?yu1x18 (by assumption) ?ru1x18
    case yu1x18 => (intro w' hSw; (try dsimp only at hSw); go_simp; try (with_reducible rfl))
    simp only [List.setIfInBounds_toArray, List.set_cons_zero, List.set_cons_succ]
    refine take_op (v := ?vu1x19) 19 (Op.assign (Operand.tmp 30)) 4 rfl rfl rfl rfl rfl (by kernel_rfl) (by kernel_rfl) (by kernel_rfl) (fun _ _ _ h => h) ?yu1x19 (by assumption) ?ru1x19
    case yu1x19 => (intro w' hSw; (try dsimp only at hSw); go_simp; try (with_reducible rfl))
    simp only [List.setIfInBounds_toArray, List.set_cons_zero, List.set_cons_succ]
    refine wpAnyH_done (by kernel_rfl) ?_ _
    go_wp2_with fail
    go_ret
    exact ⟨rfl, HB⟩
end SkpW
end Go.Proofs.Ytnghmcadhjneeaa
