/- The law on a sentence that no call made. -/
import Derived.Test.YtdeiehgghhiijaaDoorSieJ
namespace Go.Proofs.YtdeiehgghhiijaaDoor
set_option linter.unusedVariables false
set_option linter.unusedSimpArgs false
set_option linter.unnecessarySimpa false
open Go.RowKit
namespace SieW
open SkpW (Me mc sM tM)

set_option maxRecDepth 100000 in
set_option maxHeartbeats 8000000 in
theorem nobody_law (q t : Int) (d : List UInt8) (m : Me) (w : World) (hW : WanW.Wo w) :
    Calls Tryd.prog 4 #[rcv q t d, .agg (mc m)] w fun e w' => e = .returned (.bool true) ∧ Below w.heap.size w w' := by
  have HB1 := (Below.refl w.heap.size w).alloc (Nat.le_refl _) (.cells #[.int .i64 q, .int .i64 t, str d] 37)
  have HB2 := HB1.alloc HB1.size (.cells (mc m) 39)
  have b1 := (Blk.new w 37 #[.int .i64 q, .int .i64 t, str d]).alloc (.cells (mc m) 39)
  have b2 : Blk ((w.alloc (.cells #[.int .i64 q, .int .i64 t, str d] 37)).alloc (.cells (mc m) 39)) (w.heap.size + 1) 39 (mc m) := by
    have := Blk.new (w.alloc (.cells #[.int .i64 q, .int .i64 t, str d] 37)) 39 (mc m)
    simpa using this
  obtain ⟨c0, c1, c2, _⟩ := blk3 b1
  by_cases hl : 1000 < d.length
  · have hlI : (1000 : Int) < (d.length : Int) := by omega
    have AW := sawake_any _ (hW.below HB2)
    clear hl
    go_enter Tryd.func4, Tryd.ntmps4
    go_wp2_with fail
    refine AW.mono ?_
    clear AW
    rintro e w1 ⟨rfl, hb1⟩
    go_wp2_with fail
    go_ret
    exact ⟨rfl, HB2.trans (hb1.mono HB2.size)⟩
  · have hlI : ¬ (1000 : Int) < (d.length : Int) := by omega
    clear hl
    go_enter Tryd.func4, Tryd.ntmps4
    go_wp2_with fail
    have HB4 := (HB2.alloc HB2.size (.cells #[.nilIface, .int .i64 0] 43)).alloc (by simp; omega) (.cells #[.pointer none, .pointer (some ⟨w.heap.size + 1 + 1, 0, none⟩)] 23)
    have d1 := (b1.alloc (.cells #[.nilIface, .int .i64 0] 43)).alloc (.cells #[.pointer none, .pointer (some ⟨w.heap.size + 1 + 1, 0, none⟩)] 23)
    have d2 := (b2.alloc (.cells #[.nilIface, .int .i64 0] 43)).alloc (.cells #[.pointer none, .pointer (some ⟨w.heap.size + 1 + 1, 0, none⟩)] 23)
    have d3 : Blk ((((w.alloc (.cells #[.int .i64 q, .int .i64 t, str d] 37)).alloc (.cells (mc m) 39)).alloc (.cells #[.nilIface, .int .i64 0] 43)).alloc (.cells #[.pointer none, .pointer (some ⟨w.heap.size + 1 + 1, 0, none⟩)] 23)) (w.heap.size + 1 + 1) 43 #[.nilIface, .int .i64 0] := by
      have := (Blk.new ((w.alloc (.cells #[.int .i64 q, .int .i64 t, str d] 37)).alloc (.cells (mc m) 39)) 43 #[.nilIface, .int .i64 0]).alloc (.cells #[.pointer none, .pointer (some ⟨w.heap.size + 1 + 1, 0, none⟩)] 23)
      simpa using this
    have d4 : Blk ((((w.alloc (.cells #[.int .i64 q, .int .i64 t, str d] 37)).alloc (.cells (mc m) 39)).alloc (.cells #[.nilIface, .int .i64 0] 43)).alloc (.cells #[.pointer none, .pointer (some ⟨w.heap.size + 1 + 1, 0, none⟩)] 23)) (w.heap.size + 1 + 1 + 1) 23 #[.pointer none, .pointer (some ⟨w.heap.size + 1 + 1, 0, none⟩)] := by
      have := Blk.new (((w.alloc (.cells #[.int .i64 q, .int .i64 t, str d] 37)).alloc (.cells (mc m) 39)).alloc (.cells #[.nilIface, .int .i64 0] 43)) 23 #[.pointer none, .pointer (some ⟨w.heap.size + 1 + 1, 0, none⟩)]
      simpa using this
    clear c0 c1 c2 b1 b2 HB1 HB2
    go_loopw [7] (fun i wr => ∃ k : Nat, k ≤ 2 ∧ i = .int .i64 k ∧ Below w.heap.size w wr ∧ Blk wr w.heap.size 37 #[.int .i64 q, .int .i64 t, str d] ∧ Blk wr (w.heap.size + 1) 39 (mc m) ∧ Blk wr (w.heap.size + 1 + 1) 43 #[.nilIface, .int .i64 0] ∧ Blk wr (w.heap.size + 1 + 1 + 1) 23 #[.pointer none, .pointer (some ⟨w.heap.size + 1 + 1, 0, none⟩)]) (fun i _ => 2 - (intOf i).toNat)
    case atStart => exact ⟨0, by omega, rfl, HB4, d1, d2, d3, d4⟩
    case round =>
      obtain ⟨k, hk, rfl, hbw, e1, e2, e3, e4⟩ := hrel
      clear HB4 d1 d2 d3 d4
      have k3 : k = 0 ∨ k = 1 ∨ k = 2 := by omega
      rcases k3 with rfl | rfl | rfl
      · have MD : ∀ w2, Below wr.heap.size wr w2 → Calls Tryd.prog 23 #[(.pointer none)] w2 fun e w' => e = .returned (.bool false) ∧ Below w2.heap.size w2 w' := fun w2 hb => (made_nil w2)
        have HMD := Lib.hid MD
        have N := Not_no wr (.pointer none) (MD wr (Below.refl _ _))
        obtain ⟨f0, f1, _⟩ := blk2 e4
        have i0 : (0 : Int) ≤ 0 := by omega
        have i1 : (0 : Int) < 2 := by omega
        have hzr := hbw.size
        clear MD
        go_wp2_with fail
        refine N.mono ?_
        clear N
        rintro e w1 ⟨rfl, hb1⟩
        have HB5 : Below wr.heap.size wr w1 := hb1
        have e1' := e1.below hb1 e1.lt
        have e2' := e2.below hb1 e2.lt
        have e3' := e3.below hb1 e3.lt
        have e4' := e4.below hb1 e4.lt
        clear f0 f1 e1 e2 e3 e4 hb1
        go_wp2_with fail
        refine wp_region_held_drew (S := (fun w' => w'.cell? ⟨w.heap.size + 1 + 1 + 1, 0, none⟩ = some (.pointer none) ∧ w'.cell? ⟨w.heap.size + 1 + 1 + 1, 1, none⟩ = some (.pointer (some ⟨w.heap.size + 1 + 1, 0, none⟩)) ∧ w'.cell? ⟨w.heap.size, 0, none⟩ = some (.int .i64 q) ∧ w'.cell? ⟨w.heap.size, 1, none⟩ = some (.int .i64 t) ∧ w'.cell? ⟨w.heap.size, 2, none⟩ = some (str d) ∧ w'.cell? ⟨w.heap.size + 1, 0, none⟩ = some (.int .i64 m.at_) ∧ w'.cell? ⟨w.heap.size + 1, 1, none⟩ = some (.int .i64 m.size) ∧ w'.cell? ⟨w.heap.size + 1, 2, none⟩ = some (.int .i64 m.raw) ∧ w'.cell? ⟨w.heap.size + 1, 3, none⟩ = some (.int .i64 m.count) ∧ w'.cell? ⟨w.heap.size + 1, 4, none⟩ = some (.int .i64 m.first) ∧ w'.cell? ⟨w.heap.size + 1, 5, none⟩ = some (.int .i64 m.early) ∧ w'.cell? ⟨w.heap.size + 1, 6, none⟩ = some (.int .i64 m.late))) (by kernel_rfl) ?_ (fun hHeld => ?_)
        · replace e1' := Blk.drew e1'; replace e2' := Blk.drew e2'; replace e3' := Blk.drew e3'; replace e4' := Blk.drew e4'; replace HB5 := Below.drew HB5; (try dsimp only); exact ⟨e4'.cell_ 0 rfl, e4'.cell_ 1 rfl, e1'.cell_ 0 rfl, e1'.cell_ 1 rfl, e1'.cell_ 2 rfl, SkpW.blk7 e2'⟩
        replace e1' := Blk.drew e1'
        replace e2' := Blk.drew e2'
        replace e3' := Blk.drew e3'
        replace e4' := Blk.drew e4'
        replace HB5 := Below.drew HB5
        have zHB5 := HB5.size
        refine take_movev (v := ?vu1x0) 0 (Operand.tmp 8) rfl rfl (by first | exact .inl rfl | exact .inr rfl) rfl (by kernel_rfl) (by kernel_rfl) (by kernel_rfl) (fun _ _ _ h => h) (by assumption) ?yu1x0 ?ru1x0
        case yu1x0 => (go_simp; try (with_reducible rfl))
        simp only [List.setIfInBounds_toArray, List.set_cons_zero, List.set_cons_succ]
        refine take_op (v := ?vu1x1) 1 (Op.binOp BinOp.neq 23 (Operand.tmp 33) (Operand.const (Value.pointer none)) 23) 4 rfl rfl rfl rfl rfl (by kernel_rfl) (by kernel_rfl) (by kernel_rfl) (fun _ _ _ h => h) ?yu1x1 (by assumption) ?ru1x1
        case yu1x1 => (intro w' hSw; (try dsimp only at hSw); go_simp; try (with_reducible rfl))
        simp only [List.setIfInBounds_toArray, List.set_cons_zero, List.set_cons_succ]
        refine take_movev (v := ?vu1x2) 2 (Operand.tmp 34) rfl rfl (by first | exact .inl rfl | exact .inr rfl) rfl (by kernel_rfl) (by kernel_rfl) (by kernel_rfl) (fun _ _ _ h => h) (by assumption) ?yu1x2 ?ru1x2
        case yu1x2 => (go_simp; try (with_reducible rfl))
        simp only [List.setIfInBounds_toArray, List.set_cons_zero, List.set_cons_succ]
        refine take_movev (v := ?vu1x3) 3 (Operand.tmp 9) rfl rfl (by first | exact .inl rfl | exact .inr rfl) rfl (by kernel_rfl) (by kernel_rfl) (by kernel_rfl) (fun _ _ _ h => h) (by assumption) ?yu1x3 ?ru1x3
        case yu1x3 => (go_simp; try (with_reducible rfl))
        simp only [List.setIfInBounds_toArray, List.set_cons_zero, List.set_cons_succ]
        refine take_op (v := ?vu1x4) 4 (Op.binOp BinOp.neq 24 (Operand.tmp 36) (Operand.const (Value.int IntKind.i64 1)) 24) 4 rfl rfl rfl rfl rfl (by kernel_rfl) (by kernel_rfl) (by kernel_rfl) (fun _ _ _ h => h) ?yu1x4 (by assumption) ?ru1x4
        case yu1x4 => (intro w' hSw; (try dsimp only at hSw); go_simp; try (with_reducible rfl))
        simp only [List.setIfInBounds_toArray, List.set_cons_zero, List.set_cons_succ]
        refine take_op (v := ?vu1x5) 5 (Op.pick (Operand.tmp 35) (Operand.const (Value.bool true)) (Operand.tmp 37)) 4 rfl rfl rfl rfl rfl (by kernel_rfl) (by kernel_rfl) (by kernel_rfl) (fun _ _ _ h => h) ?yu1x5 (by assumption) ?ru1x5
        case yu1x5 => (intro w' hSw; (try dsimp only at hSw); go_simp; try (with_reducible rfl))
        simp only [List.setIfInBounds_toArray, List.set_cons_zero, List.set_cons_succ]
        refine take_movev (v := ?vu1x6) 6 (Operand.tmp 38) rfl rfl (by first | exact .inl rfl | exact .inr rfl) rfl (by kernel_rfl) (by kernel_rfl) (by kernel_rfl) (fun _ _ _ h => h) (by assumption) ?yu1x6 ?ru1x6
        case yu1x6 => (go_simp; try (with_reducible rfl))
        simp only [List.setIfInBounds_toArray, List.set_cons_zero, List.set_cons_succ]
        refine take_movev (v := ?vu1x7) 7 (Operand.tmp 6) rfl rfl (by first | exact .inl rfl | exact .inr rfl) rfl (by kernel_rfl) (by kernel_rfl) (by kernel_rfl) (fun _ _ _ h => h) (by assumption) ?yu1x7 ?ru1x7
        case yu1x7 => (go_simp; try (with_reducible rfl))
        simp only [List.setIfInBounds_toArray, List.set_cons_zero, List.set_cons_succ]
        refine take_movev (v := ?vu1x8) 8 (Operand.tmp 7) rfl rfl (by first | exact .inl rfl | exact .inr rfl) rfl (by kernel_rfl) (by kernel_rfl) (by kernel_rfl) (fun _ _ _ h => h) (by assumption) ?yu1x8 ?ru1x8
        case yu1x8 => (go_simp; try (with_reducible rfl))
        simp only [List.setIfInBounds_toArray, List.set_cons_zero, List.set_cons_succ]
        refine take_op (v := ?vu1x9) 9 (Op.indexAddr 44 (Operand.tmp 40) (Operand.tmp 41)) 0 rfl rfl rfl rfl rfl (by kernel_rfl) (by kernel_rfl) (by kernel_rfl) (fun _ _ _ h => h) ?yu1x9 (by assumption) ?ru1x9
        case yu1x9 => (intro w' hSw; (try dsimp only at hSw); go_simp; try (with_reducible rfl))
        simp only [List.setIfInBounds_toArray, List.set_cons_zero, List.set_cons_succ]
        refine take_op (v := ?vu1x10) 10 (Op.load 23 (Operand.tmp 42)) 23 rfl rfl rfl rfl rfl (by kernel_rfl) (by kernel_rfl) (by kernel_rfl) (fun _ _ _ h => h) ?yu1x10 (by assumption) ?ru1x10
        case yu1x10 => (intro w' hSw; (try dsimp only at hSw); go_simp; try (with_reducible rfl))
        simp only [List.setIfInBounds_toArray, List.set_cons_zero, List.set_cons_succ]
        refine wpAnyH_ready (rs := [11]) (by kernel_rfl) (by simp) (AllReadyH.cons rfl (fun K11 hK11 => ?ku1x11) AllReadyH.nil)
        refine take_calls 11 10 [Operand.tmp 43] #[23] rfl rfl (by kernel_rfl) (fun args w => run_enter Tryd.func10 (by kernel_rfl) rfl args w) ?_
        refine (show_no _ (.pointer none) (HMD.out _ HB5)).mono ?_
        rintro e w11 ⟨rfl, hb11⟩
        refine ⟨_, rfl, ?_⟩
        have z11 := hb11.size
        try simp only [World.size_drew] at z11
        replace e1' := Blk.below e1' hb11 (by first | exact Nat.le_refl _ | (simp only [World.size_alloc, World.size_setCell, World.size_drew] at *; omega) | omega)
        replace e2' := Blk.below e2' hb11 (by first | exact Nat.le_refl _ | (simp only [World.size_alloc, World.size_setCell, World.size_drew] at *; omega) | omega)
        replace e3' := Blk.below e3' hb11 (by first | exact Nat.le_refl _ | (simp only [World.size_alloc, World.size_setCell, World.size_drew] at *; omega) | omega)
        replace e4' := Blk.below e4' hb11 (by first | exact Nat.le_refl _ | (simp only [World.size_alloc, World.size_setCell, World.size_drew] at *; omega) | omega)
        replace HB5 := HB5.trans (hb11.mono (by first | exact HB5.size | omega))
        have zHB511 := HB5.size
        refine hK11.out _ _ ?su1x11 (fun hHeld => ?ru1x11)
        case su1x11 => ((try dsimp only); exact ⟨e4'.cell_ 0 rfl, e4'.cell_ 1 rfl, e1'.cell_ 0 rfl, e1'.cell_ 1 rfl, e1'.cell_ 2 rfl, SkpW.blk7 e2'⟩)
        try simp only [List.setIfInBounds_toArray, List.set_cons_zero, List.set_cons_succ]
        refine take_op (v := ?vu1x12) 12 (Op.binOp BinOp.neq 9 (Operand.tmp 44) (Operand.const (Value.string { data := #[] })) 9) 4 rfl rfl rfl rfl rfl (by kernel_rfl) (by kernel_rfl) (by kernel_rfl) (fun _ _ _ h => h) ?yu1x12 (by assumption) ?ru1x12
        case yu1x12 => (intro w' hSw; (try dsimp only at hSw); go_simp; try (with_reducible rfl))
        simp only [List.setIfInBounds_toArray, List.set_cons_zero, List.set_cons_succ]
        refine take_op (v := ?vu1x13) 13 (Op.pick (Operand.tmp 39) (Operand.const (Value.bool true)) (Operand.tmp 45)) 4 rfl rfl rfl rfl rfl (by kernel_rfl) (by kernel_rfl) (by kernel_rfl) (fun _ _ _ h => h) ?yu1x13 (by assumption) ?ru1x13
        case yu1x13 => (intro w' hSw; (try dsimp only at hSw); go_simp; try (with_reducible rfl))
        simp only [List.setIfInBounds_toArray, List.set_cons_zero, List.set_cons_succ]
        refine take_movev (v := ?vu1x14) 14 (Operand.tmp 46) rfl rfl (by first | exact .inl rfl | exact .inr rfl) rfl (by kernel_rfl) (by kernel_rfl) (by kernel_rfl) (fun _ _ _ h => h) (by assumption) ?yu1x14 ?ru1x14
        case yu1x14 => (go_simp; try (with_reducible rfl))
        simp only [List.setIfInBounds_toArray, List.set_cons_zero, List.set_cons_succ]
        refine take_movev (v := ?vu1x15) 15 (Operand.tmp 6) rfl rfl (by first | exact .inl rfl | exact .inr rfl) rfl (by kernel_rfl) (by kernel_rfl) (by kernel_rfl) (fun _ _ _ h => h) (by assumption) ?yu1x15 ?ru1x15
        case yu1x15 => (go_simp; try (with_reducible rfl))
        simp only [List.setIfInBounds_toArray, List.set_cons_zero, List.set_cons_succ]
        refine take_movev (v := ?vu1x16) 16 (Operand.tmp 7) rfl rfl (by first | exact .inl rfl | exact .inr rfl) rfl (by kernel_rfl) (by kernel_rfl) (by kernel_rfl) (fun _ _ _ h => h) (by assumption) ?yu1x16 ?ru1x16
        case yu1x16 => (go_simp; try (with_reducible rfl))
        simp only [List.setIfInBounds_toArray, List.set_cons_zero, List.set_cons_succ]
        refine take_op (v := ?vu1x17) 17 (Op.indexAddr 44 (Operand.tmp 48) (Operand.tmp 49)) 0 rfl rfl rfl rfl rfl (by kernel_rfl) (by kernel_rfl) (by kernel_rfl) (fun _ _ _ h => h) ?yu1x17 (by assumption) ?ru1x17
        case yu1x17 => (intro w' hSw; (try dsimp only at hSw); go_simp; try (with_reducible rfl))
        simp only [List.setIfInBounds_toArray, List.set_cons_zero, List.set_cons_succ]
        refine take_op (v := ?vu1x18) 18 (Op.load 23 (Operand.tmp 50)) 23 rfl rfl rfl rfl rfl (by kernel_rfl) (by kernel_rfl) (by kernel_rfl) (fun _ _ _ h => h) ?yu1x18 (by assumption) ?ru1x18
        case yu1x18 => (intro w' hSw; (try dsimp only at hSw); go_simp; try (with_reducible rfl))
        simp only [List.setIfInBounds_toArray, List.set_cons_zero, List.set_cons_succ]
        refine wpAnyH_ready (rs := [19]) (by kernel_rfl) (by simp) (AllReadyH.cons rfl (fun K19 hK19 => ?ku1x19) AllReadyH.nil)
        refine take_calls 19 12 [Operand.tmp 51] #[23] rfl rfl (by kernel_rfl) (fun args w => run_enter Tryd.func12 (by kernel_rfl) rfl args w) ?_
        refine (size_no _ (.pointer none) (HMD.out _ HB5)).mono ?_
        rintro e w19 ⟨rfl, hb19⟩
        refine ⟨_, rfl, ?_⟩
        have z19 := hb19.size
        try simp only [World.size_drew] at z19
        replace e1' := Blk.below e1' hb19 (by first | exact Nat.le_refl _ | (simp only [World.size_alloc, World.size_setCell, World.size_drew] at *; omega) | omega)
        replace e2' := Blk.below e2' hb19 (by first | exact Nat.le_refl _ | (simp only [World.size_alloc, World.size_setCell, World.size_drew] at *; omega) | omega)
        replace e3' := Blk.below e3' hb19 (by first | exact Nat.le_refl _ | (simp only [World.size_alloc, World.size_setCell, World.size_drew] at *; omega) | omega)
        replace e4' := Blk.below e4' hb19 (by first | exact Nat.le_refl _ | (simp only [World.size_alloc, World.size_setCell, World.size_drew] at *; omega) | omega)
        replace HB5 := HB5.trans (hb19.mono (by first | exact HB5.size | omega))
        have zHB519 := HB5.size
        refine hK19.out _ _ ?su1x19 (fun hHeld => ?ru1x19)
        case su1x19 => ((try dsimp only); exact ⟨e4'.cell_ 0 rfl, e4'.cell_ 1 rfl, e1'.cell_ 0 rfl, e1'.cell_ 1 rfl, e1'.cell_ 2 rfl, SkpW.blk7 e2'⟩)
        try simp only [List.setIfInBounds_toArray, List.set_cons_zero, List.set_cons_succ]
        refine take_op (v := ?vu1x20) 20 (Op.binOp BinOp.neq 3 (Operand.tmp 52) (Operand.const (Value.int IntKind.i64 0)) 3) 4 rfl rfl rfl rfl rfl (by kernel_rfl) (by kernel_rfl) (by kernel_rfl) (fun _ _ _ h => h) ?yu1x20 (by assumption) ?ru1x20
        case yu1x20 => (intro w' hSw; (try dsimp only at hSw); go_simp; try (with_reducible rfl))
        simp only [List.setIfInBounds_toArray, List.set_cons_zero, List.set_cons_succ]
        refine take_op (v := ?vu1x21) 21 (Op.pick (Operand.tmp 47) (Operand.const (Value.bool true)) (Operand.tmp 53)) 4 rfl rfl rfl rfl rfl (by kernel_rfl) (by kernel_rfl) (by kernel_rfl) (fun _ _ _ h => h) ?yu1x21 (by assumption) ?ru1x21
        case yu1x21 => (intro w' hSw; (try dsimp only at hSw); go_simp; try (with_reducible rfl))
        simp only [List.setIfInBounds_toArray, List.set_cons_zero, List.set_cons_succ]
        refine take_movev (v := ?vu1x22) 22 (Operand.tmp 54) rfl rfl (by first | exact .inl rfl | exact .inr rfl) rfl (by kernel_rfl) (by kernel_rfl) (by kernel_rfl) (fun _ _ _ h => h) (by assumption) ?yu1x22 ?ru1x22
        case yu1x22 => (go_simp; try (with_reducible rfl))
        simp only [List.setIfInBounds_toArray, List.set_cons_zero, List.set_cons_succ]
        refine take_movev (v := ?vu1x23) 23 (Operand.tmp 6) rfl rfl (by first | exact .inl rfl | exact .inr rfl) rfl (by kernel_rfl) (by kernel_rfl) (by kernel_rfl) (fun _ _ _ h => h) (by assumption) ?yu1x23 ?ru1x23
        case yu1x23 => (go_simp; try (with_reducible rfl))
        simp only [List.setIfInBounds_toArray, List.set_cons_zero, List.set_cons_succ]
        refine take_movev (v := ?vu1x24) 24 (Operand.tmp 7) rfl rfl (by first | exact .inl rfl | exact .inr rfl) rfl (by kernel_rfl) (by kernel_rfl) (by kernel_rfl) (fun _ _ _ h => h) (by assumption) ?yu1x24 ?ru1x24
        case yu1x24 => (go_simp; try (with_reducible rfl))
        simp only [List.setIfInBounds_toArray, List.set_cons_zero, List.set_cons_succ]
        refine take_op (v := ?vu1x25) 25 (Op.indexAddr 44 (Operand.tmp 56) (Operand.tmp 57)) 0 rfl rfl rfl rfl rfl (by kernel_rfl) (by kernel_rfl) (by kernel_rfl) (fun _ _ _ h => h) ?yu1x25 (by assumption) ?ru1x25
        case yu1x25 => (intro w' hSw; (try dsimp only at hSw); go_simp; try (with_reducible rfl))
        simp only [List.setIfInBounds_toArray, List.set_cons_zero, List.set_cons_succ]
        refine take_op (v := ?vu1x26) 26 (Op.load 23 (Operand.tmp 58)) 23 rfl rfl rfl rfl rfl (by kernel_rfl) (by kernel_rfl) (by kernel_rfl) (fun _ _ _ h => h) ?yu1x26 (by assumption) ?ru1x26
        case yu1x26 => (intro w' hSw; (try dsimp only at hSw); go_simp; try (with_reducible rfl))
        simp only [List.setIfInBounds_toArray, List.set_cons_zero, List.set_cons_succ]
        refine take_op (v := ?vu1x27) 27 (Op.load 37 (Operand.tmp 2)) 37 rfl rfl rfl rfl rfl (by kernel_rfl) (by kernel_rfl) (by kernel_rfl) (fun _ _ _ h => h) ?yu1x27 (by assumption) ?ru1x27
        case yu1x27 => (intro w' hSw; (try dsimp only at hSw); go_simp; try (with_reducible rfl))
        simp only [List.setIfInBounds_toArray, List.set_cons_zero, List.set_cons_succ]
        refine wpAnyH_ready (rs := [28]) (by kernel_rfl) (by simp) (AllReadyH.cons rfl (fun K28 hK28 => ?ku1x28) AllReadyH.nil)
        refine take_calls 28 14 [Operand.tmp 59, Operand.tmp 60] #[23, 37] rfl rfl (by kernel_rfl) (fun args w => run_enter Tryd.func14 (by kernel_rfl) rfl args w) ?_
        refine (Meets_no _ (.pointer none) q t d (fun w2 hb => HMD.out w2 (HB5.trans (hb.mono HB5.size)))).mono ?_
        rintro e w28 ⟨rfl, hb28⟩
        refine ⟨_, rfl, ?_⟩
        have z28 := hb28.size
        try simp only [World.size_drew] at z28
        replace e1' := Blk.below e1' hb28 (by first | exact Nat.le_refl _ | (simp only [World.size_alloc, World.size_setCell, World.size_drew] at *; omega) | omega)
        replace e2' := Blk.below e2' hb28 (by first | exact Nat.le_refl _ | (simp only [World.size_alloc, World.size_setCell, World.size_drew] at *; omega) | omega)
        replace e3' := Blk.below e3' hb28 (by first | exact Nat.le_refl _ | (simp only [World.size_alloc, World.size_setCell, World.size_drew] at *; omega) | omega)
        replace e4' := Blk.below e4' hb28 (by first | exact Nat.le_refl _ | (simp only [World.size_alloc, World.size_setCell, World.size_drew] at *; omega) | omega)
        replace HB5 := HB5.trans (hb28.mono (by first | exact HB5.size | omega))
        have zHB528 := HB5.size
        refine hK28.out _ _ ?su1x28 (fun hHeld => ?ru1x28)
        case su1x28 => ((try dsimp only); exact ⟨e4'.cell_ 0 rfl, e4'.cell_ 1 rfl, e1'.cell_ 0 rfl, e1'.cell_ 1 rfl, e1'.cell_ 2 rfl, SkpW.blk7 e2'⟩)
        try simp only [List.setIfInBounds_toArray, List.set_cons_zero, List.set_cons_succ]
        refine take_op (v := ?vu1x29) 29 (Op.pick (Operand.tmp 55) (Operand.const (Value.bool true)) (Operand.tmp 61)) 4 rfl rfl rfl rfl rfl (by kernel_rfl) (by kernel_rfl) (by kernel_rfl) (fun _ _ _ h => h) ?yu1x29 (by assumption) ?ru1x29
        case yu1x29 => (intro w' hSw; (try dsimp only at hSw); go_simp; try (with_reducible rfl))
        simp only [List.setIfInBounds_toArray, List.set_cons_zero, List.set_cons_succ]
        refine take_movev (v := ?vu1x30) 30 (Operand.tmp 62) rfl rfl (by first | exact .inl rfl | exact .inr rfl) rfl (by kernel_rfl) (by kernel_rfl) (by kernel_rfl) (fun _ _ _ h => h) (by assumption) ?yu1x30 ?ru1x30
        case yu1x30 => (go_simp; try (with_reducible rfl))
        simp only [List.setIfInBounds_toArray, List.set_cons_zero, List.set_cons_succ]
        refine take_movev (v := ?vu1x31) 31 (Operand.tmp 6) rfl rfl (by first | exact .inl rfl | exact .inr rfl) rfl (by kernel_rfl) (by kernel_rfl) (by kernel_rfl) (fun _ _ _ h => h) (by assumption) ?yu1x31 ?ru1x31
        case yu1x31 => (go_simp; try (with_reducible rfl))
        simp only [List.setIfInBounds_toArray, List.set_cons_zero, List.set_cons_succ]
        refine take_movev (v := ?vu1x32) 32 (Operand.tmp 7) rfl rfl (by first | exact .inl rfl | exact .inr rfl) rfl (by kernel_rfl) (by kernel_rfl) (by kernel_rfl) (fun _ _ _ h => h) (by assumption) ?yu1x32 ?ru1x32
        case yu1x32 => (go_simp; try (with_reducible rfl))
        simp only [List.setIfInBounds_toArray, List.set_cons_zero, List.set_cons_succ]
        refine take_op (v := ?vu1x33) 33 (Op.indexAddr 44 (Operand.tmp 64) (Operand.tmp 65)) 0 rfl rfl rfl rfl rfl (by kernel_rfl) (by kernel_rfl) (by kernel_rfl) (fun _ _ _ h => h) ?yu1x33 (by assumption) ?ru1x33
        case yu1x33 => (intro w' hSw; (try dsimp only at hSw); go_simp; try (with_reducible rfl))
        simp only [List.setIfInBounds_toArray, List.set_cons_zero, List.set_cons_succ]
        refine take_op (v := ?vu1x34) 34 (Op.load 23 (Operand.tmp 66)) 23 rfl rfl rfl rfl rfl (by kernel_rfl) (by kernel_rfl) (by kernel_rfl) (fun _ _ _ h => h) ?yu1x34 (by assumption) ?ru1x34
        case yu1x34 => (intro w' hSw; (try dsimp only at hSw); go_simp; try (with_reducible rfl))
        simp only [List.setIfInBounds_toArray, List.set_cons_zero, List.set_cons_succ]
        refine take_op (v := ?vu1x35) 35 (Op.load 39 (Operand.tmp 3)) 39 rfl rfl rfl rfl rfl (by kernel_rfl) (by kernel_rfl) (by kernel_rfl) (fun _ _ _ h => h) ?yu1x35 (by assumption) ?ru1x35
        case yu1x35 => (intro w' hSw; (try dsimp only at hSw); go_simp; try (with_reducible rfl))
        simp only [List.setIfInBounds_toArray, List.set_cons_zero, List.set_cons_succ]
        refine wpAnyH_ready (rs := [36]) (by kernel_rfl) (by simp) (AllReadyH.cons rfl (fun K36 hK36 => ?ku1x36) AllReadyH.nil)
        refine take_calls 36 15 [Operand.tmp 67, Operand.tmp 68] #[23, 39] rfl rfl (by kernel_rfl) (fun args w => run_enter Tryd.func15 (by kernel_rfl) rfl args w) ?_
        refine (Block_no _ (.pointer none) m (fun w2 hb => HMD.out w2 (HB5.trans (hb.mono HB5.size)))).mono ?_
        rintro e w36 ⟨rfl, hb36⟩
        refine ⟨_, rfl, ?_⟩
        have z36 := hb36.size
        try simp only [World.size_drew] at z36
        replace e1' := Blk.below e1' hb36 (by first | exact Nat.le_refl _ | (simp only [World.size_alloc, World.size_setCell, World.size_drew] at *; omega) | omega)
        replace e2' := Blk.below e2' hb36 (by first | exact Nat.le_refl _ | (simp only [World.size_alloc, World.size_setCell, World.size_drew] at *; omega) | omega)
        replace e3' := Blk.below e3' hb36 (by first | exact Nat.le_refl _ | (simp only [World.size_alloc, World.size_setCell, World.size_drew] at *; omega) | omega)
        replace e4' := Blk.below e4' hb36 (by first | exact Nat.le_refl _ | (simp only [World.size_alloc, World.size_setCell, World.size_drew] at *; omega) | omega)
        replace HB5 := HB5.trans (hb36.mono (by first | exact HB5.size | omega))
        have zHB536 := HB5.size
        refine hK36.out _ _ ?su1x36 (fun hHeld => ?ru1x36)
        case su1x36 => ((try dsimp only); exact ⟨e4'.cell_ 0 rfl, e4'.cell_ 1 rfl, e1'.cell_ 0 rfl, e1'.cell_ 1 rfl, e1'.cell_ 2 rfl, SkpW.blk7 e2'⟩)
        try simp only [List.setIfInBounds_toArray, List.set_cons_zero, List.set_cons_succ]
        refine take_op (v := ?vu1x37) 37 (Op.pick (Operand.tmp 63) (Operand.const (Value.bool true)) (Operand.tmp 69)) 4 rfl rfl rfl rfl rfl (by kernel_rfl) (by kernel_rfl) (by kernel_rfl) (fun _ _ _ h => h) ?yu1x37 (by assumption) ?ru1x37
        case yu1x37 => (intro w' hSw; (try dsimp only at hSw); go_simp; try (with_reducible rfl))
        simp only [List.setIfInBounds_toArray, List.set_cons_zero, List.set_cons_succ]
        refine wpAnyH_done (by kernel_rfl) ?_ _
        go_wp2_with fail
        go_roundw
        case rel => exact ⟨0 + 1, by omega, by go_num, hbw.trans (HB5.mono hzr), e1', e2', e3', e4'⟩
        case measure => simp [intOf]
      · have MD : ∀ w2, Below wr.heap.size wr w2 → Calls Tryd.prog 23 #[(.pointer (some ⟨w.heap.size + 1 + 1, 0, none⟩))] w2 fun e w' => e = .returned (.bool false) ∧ Below w2.heap.size w2 w' := fun w2 hb => (made_zero w2 _ _ (e3.below hb e3.lt))
        have HMD := Lib.hid MD
        have N := Not_no wr (.pointer (some ⟨w.heap.size + 1 + 1, 0, none⟩)) (MD wr (Below.refl _ _))
        obtain ⟨f0, f1, _⟩ := blk2 e4
        have i0 : (0 : Int) ≤ 1 := by omega
        have i1 : (1 : Int) < 2 := by omega
        have hzr := hbw.size
        clear MD
        go_wp2_with fail
        refine N.mono ?_
        clear N
        rintro e w1 ⟨rfl, hb1⟩
        have HB5 : Below wr.heap.size wr w1 := hb1
        have e1' := e1.below hb1 e1.lt
        have e2' := e2.below hb1 e2.lt
        have e3' := e3.below hb1 e3.lt
        have e4' := e4.below hb1 e4.lt
        clear f0 f1 e1 e2 e3 e4 hb1
        go_wp2_with fail
        refine wp_region_held_drew (S := (fun w' => w'.cell? ⟨w.heap.size + 1 + 1 + 1, 0, none⟩ = some (.pointer none) ∧ w'.cell? ⟨w.heap.size + 1 + 1 + 1, 1, none⟩ = some (.pointer (some ⟨w.heap.size + 1 + 1, 0, none⟩)) ∧ w'.cell? ⟨w.heap.size, 0, none⟩ = some (.int .i64 q) ∧ w'.cell? ⟨w.heap.size, 1, none⟩ = some (.int .i64 t) ∧ w'.cell? ⟨w.heap.size, 2, none⟩ = some (str d) ∧ w'.cell? ⟨w.heap.size + 1, 0, none⟩ = some (.int .i64 m.at_) ∧ w'.cell? ⟨w.heap.size + 1, 1, none⟩ = some (.int .i64 m.size) ∧ w'.cell? ⟨w.heap.size + 1, 2, none⟩ = some (.int .i64 m.raw) ∧ w'.cell? ⟨w.heap.size + 1, 3, none⟩ = some (.int .i64 m.count) ∧ w'.cell? ⟨w.heap.size + 1, 4, none⟩ = some (.int .i64 m.first) ∧ w'.cell? ⟨w.heap.size + 1, 5, none⟩ = some (.int .i64 m.early) ∧ w'.cell? ⟨w.heap.size + 1, 6, none⟩ = some (.int .i64 m.late))) (by kernel_rfl) ?_ (fun hHeld => ?_)
        · replace e1' := Blk.drew e1'; replace e2' := Blk.drew e2'; replace e3' := Blk.drew e3'; replace e4' := Blk.drew e4'; replace HB5 := Below.drew HB5; (try dsimp only); exact ⟨e4'.cell_ 0 rfl, e4'.cell_ 1 rfl, e1'.cell_ 0 rfl, e1'.cell_ 1 rfl, e1'.cell_ 2 rfl, SkpW.blk7 e2'⟩
        replace e1' := Blk.drew e1'
        replace e2' := Blk.drew e2'
        replace e3' := Blk.drew e3'
        replace e4' := Blk.drew e4'
        replace HB5 := Below.drew HB5
        have zHB5 := HB5.size
        refine take_movev (v := ?vu2x0) 0 (Operand.tmp 8) rfl rfl (by first | exact .inl rfl | exact .inr rfl) rfl (by kernel_rfl) (by kernel_rfl) (by kernel_rfl) (fun _ _ _ h => h) (by assumption) ?yu2x0 ?ru2x0
        case yu2x0 => (go_simp; try (with_reducible rfl))
        simp only [List.setIfInBounds_toArray, List.set_cons_zero, List.set_cons_succ]
        refine take_op (v := ?vu2x1) 1 (Op.binOp BinOp.neq 23 (Operand.tmp 33) (Operand.const (Value.pointer none)) 23) 4 rfl rfl rfl rfl rfl (by kernel_rfl) (by kernel_rfl) (by kernel_rfl) (fun _ _ _ h => h) ?yu2x1 (by assumption) ?ru2x1
        case yu2x1 => (intro w' hSw; (try dsimp only at hSw); go_simp; try (with_reducible rfl))
        simp only [List.setIfInBounds_toArray, List.set_cons_zero, List.set_cons_succ]
        refine take_movev (v := ?vu2x2) 2 (Operand.tmp 34) rfl rfl (by first | exact .inl rfl | exact .inr rfl) rfl (by kernel_rfl) (by kernel_rfl) (by kernel_rfl) (fun _ _ _ h => h) (by assumption) ?yu2x2 ?ru2x2
        case yu2x2 => (go_simp; try (with_reducible rfl))
        simp only [List.setIfInBounds_toArray, List.set_cons_zero, List.set_cons_succ]
        refine take_movev (v := ?vu2x3) 3 (Operand.tmp 9) rfl rfl (by first | exact .inl rfl | exact .inr rfl) rfl (by kernel_rfl) (by kernel_rfl) (by kernel_rfl) (fun _ _ _ h => h) (by assumption) ?yu2x3 ?ru2x3
        case yu2x3 => (go_simp; try (with_reducible rfl))
        simp only [List.setIfInBounds_toArray, List.set_cons_zero, List.set_cons_succ]
        refine take_op (v := ?vu2x4) 4 (Op.binOp BinOp.neq 24 (Operand.tmp 36) (Operand.const (Value.int IntKind.i64 1)) 24) 4 rfl rfl rfl rfl rfl (by kernel_rfl) (by kernel_rfl) (by kernel_rfl) (fun _ _ _ h => h) ?yu2x4 (by assumption) ?ru2x4
        case yu2x4 => (intro w' hSw; (try dsimp only at hSw); go_simp; try (with_reducible rfl))
        simp only [List.setIfInBounds_toArray, List.set_cons_zero, List.set_cons_succ]
        refine take_op (v := ?vu2x5) 5 (Op.pick (Operand.tmp 35) (Operand.const (Value.bool true)) (Operand.tmp 37)) 4 rfl rfl rfl rfl rfl (by kernel_rfl) (by kernel_rfl) (by kernel_rfl) (fun _ _ _ h => h) ?yu2x5 (by assumption) ?ru2x5
        case yu2x5 => (intro w' hSw; (try dsimp only at hSw); go_simp; try (with_reducible rfl))
        simp only [List.setIfInBounds_toArray, List.set_cons_zero, List.set_cons_succ]
        refine take_movev (v := ?vu2x6) 6 (Operand.tmp 38) rfl rfl (by first | exact .inl rfl | exact .inr rfl) rfl (by kernel_rfl) (by kernel_rfl) (by kernel_rfl) (fun _ _ _ h => h) (by assumption) ?yu2x6 ?ru2x6
        case yu2x6 => (go_simp; try (with_reducible rfl))
        simp only [List.setIfInBounds_toArray, List.set_cons_zero, List.set_cons_succ]
        refine take_movev (v := ?vu2x7) 7 (Operand.tmp 6) rfl rfl (by first | exact .inl rfl | exact .inr rfl) rfl (by kernel_rfl) (by kernel_rfl) (by kernel_rfl) (fun _ _ _ h => h) (by assumption) ?yu2x7 ?ru2x7
        case yu2x7 => (go_simp; try (with_reducible rfl))
        simp only [List.setIfInBounds_toArray, List.set_cons_zero, List.set_cons_succ]
        refine take_movev (v := ?vu2x8) 8 (Operand.tmp 7) rfl rfl (by first | exact .inl rfl | exact .inr rfl) rfl (by kernel_rfl) (by kernel_rfl) (by kernel_rfl) (fun _ _ _ h => h) (by assumption) ?yu2x8 ?ru2x8
        case yu2x8 => (go_simp; try (with_reducible rfl))
        simp only [List.setIfInBounds_toArray, List.set_cons_zero, List.set_cons_succ]
        refine take_op (v := ?vu2x9) 9 (Op.indexAddr 44 (Operand.tmp 40) (Operand.tmp 41)) 0 rfl rfl rfl rfl rfl (by kernel_rfl) (by kernel_rfl) (by kernel_rfl) (fun _ _ _ h => h) ?yu2x9 (by assumption) ?ru2x9
        case yu2x9 => (intro w' hSw; (try dsimp only at hSw); go_simp; try (with_reducible rfl))
        simp only [List.setIfInBounds_toArray, List.set_cons_zero, List.set_cons_succ]
        refine take_op (v := ?vu2x10) 10 (Op.load 23 (Operand.tmp 42)) 23 rfl rfl rfl rfl rfl (by kernel_rfl) (by kernel_rfl) (by kernel_rfl) (fun _ _ _ h => h) ?yu2x10 (by assumption) ?ru2x10
        case yu2x10 => (intro w' hSw; (try dsimp only at hSw); go_simp; try (with_reducible rfl))
        simp only [List.setIfInBounds_toArray, List.set_cons_zero, List.set_cons_succ]
        refine wpAnyH_ready (rs := [11]) (by kernel_rfl) (by simp) (AllReadyH.cons rfl (fun K11 hK11 => ?ku2x11) AllReadyH.nil)
        refine take_calls 11 10 [Operand.tmp 43] #[23] rfl rfl (by kernel_rfl) (fun args w => run_enter Tryd.func10 (by kernel_rfl) rfl args w) ?_
        refine (show_no _ (.pointer (some ⟨w.heap.size + 1 + 1, 0, none⟩)) (HMD.out _ HB5)).mono ?_
        rintro e w11 ⟨rfl, hb11⟩
        refine ⟨_, rfl, ?_⟩
        have z11 := hb11.size
        try simp only [World.size_drew] at z11
        replace e1' := Blk.below e1' hb11 (by first | exact Nat.le_refl _ | (simp only [World.size_alloc, World.size_setCell, World.size_drew] at *; omega) | omega)
        replace e2' := Blk.below e2' hb11 (by first | exact Nat.le_refl _ | (simp only [World.size_alloc, World.size_setCell, World.size_drew] at *; omega) | omega)
        replace e3' := Blk.below e3' hb11 (by first | exact Nat.le_refl _ | (simp only [World.size_alloc, World.size_setCell, World.size_drew] at *; omega) | omega)
        replace e4' := Blk.below e4' hb11 (by first | exact Nat.le_refl _ | (simp only [World.size_alloc, World.size_setCell, World.size_drew] at *; omega) | omega)
        replace HB5 := HB5.trans (hb11.mono (by first | exact HB5.size | omega))
        have zHB511 := HB5.size
        refine hK11.out _ _ ?su2x11 (fun hHeld => ?ru2x11)
        case su2x11 => ((try dsimp only); exact ⟨e4'.cell_ 0 rfl, e4'.cell_ 1 rfl, e1'.cell_ 0 rfl, e1'.cell_ 1 rfl, e1'.cell_ 2 rfl, SkpW.blk7 e2'⟩)
        try simp only [List.setIfInBounds_toArray, List.set_cons_zero, List.set_cons_succ]
        refine take_op (v := ?vu2x12) 12 (Op.binOp BinOp.neq 9 (Operand.tmp 44) (Operand.const (Value.string { data := #[] })) 9) 4 rfl rfl rfl rfl rfl (by kernel_rfl) (by kernel_rfl) (by kernel_rfl) (fun _ _ _ h => h) ?yu2x12 (by assumption) ?ru2x12
        case yu2x12 => (intro w' hSw; (try dsimp only at hSw); go_simp; try (with_reducible rfl))
        simp only [List.setIfInBounds_toArray, List.set_cons_zero, List.set_cons_succ]
        refine take_op (v := ?vu2x13) 13 (Op.pick (Operand.tmp 39) (Operand.const (Value.bool true)) (Operand.tmp 45)) 4 rfl rfl rfl rfl rfl (by kernel_rfl) (by kernel_rfl) (by kernel_rfl) (fun _ _ _ h => h) ?yu2x13 (by assumption) ?ru2x13
        case yu2x13 => (intro w' hSw; (try dsimp only at hSw); go_simp; try (with_reducible rfl))
        simp only [List.setIfInBounds_toArray, List.set_cons_zero, List.set_cons_succ]
        refine take_movev (v := ?vu2x14) 14 (Operand.tmp 46) rfl rfl (by first | exact .inl rfl | exact .inr rfl) rfl (by kernel_rfl) (by kernel_rfl) (by kernel_rfl) (fun _ _ _ h => h) (by assumption) ?yu2x14 ?ru2x14
        case yu2x14 => (go_simp; try (with_reducible rfl))
        simp only [List.setIfInBounds_toArray, List.set_cons_zero, List.set_cons_succ]
        refine take_movev (v := ?vu2x15) 15 (Operand.tmp 6) rfl rfl (by first | exact .inl rfl | exact .inr rfl) rfl (by kernel_rfl) (by kernel_rfl) (by kernel_rfl) (fun _ _ _ h => h) (by assumption) ?yu2x15 ?ru2x15
        case yu2x15 => (go_simp; try (with_reducible rfl))
        simp only [List.setIfInBounds_toArray, List.set_cons_zero, List.set_cons_succ]
        refine take_movev (v := ?vu2x16) 16 (Operand.tmp 7) rfl rfl (by first | exact .inl rfl | exact .inr rfl) rfl (by kernel_rfl) (by kernel_rfl) (by kernel_rfl) (fun _ _ _ h => h) (by assumption) ?yu2x16 ?ru2x16
        case yu2x16 => (go_simp; try (with_reducible rfl))
        simp only [List.setIfInBounds_toArray, List.set_cons_zero, List.set_cons_succ]
        refine take_op (v := ?vu2x17) 17 (Op.indexAddr 44 (Operand.tmp 48) (Operand.tmp 49)) 0 rfl rfl rfl rfl rfl (by kernel_rfl) (by kernel_rfl) (by kernel_rfl) (fun _ _ _ h => h) ?yu2x17 (by assumption) ?ru2x17
        case yu2x17 => (intro w' hSw; (try dsimp only at hSw); go_simp; try (with_reducible rfl))
        simp only [List.setIfInBounds_toArray, List.set_cons_zero, List.set_cons_succ]
        refine take_op (v := ?vu2x18) 18 (Op.load 23 (Operand.tmp 50)) 23 rfl rfl rfl rfl rfl (by kernel_rfl) (by kernel_rfl) (by kernel_rfl) (fun _ _ _ h => h) ?yu2x18 (by assumption) ?ru2x18
        case yu2x18 => (intro w' hSw; (try dsimp only at hSw); go_simp; try (with_reducible rfl))
        simp only [List.setIfInBounds_toArray, List.set_cons_zero, List.set_cons_succ]
        refine wpAnyH_ready (rs := [19]) (by kernel_rfl) (by simp) (AllReadyH.cons rfl (fun K19 hK19 => ?ku2x19) AllReadyH.nil)
        refine take_calls 19 12 [Operand.tmp 51] #[23] rfl rfl (by kernel_rfl) (fun args w => run_enter Tryd.func12 (by kernel_rfl) rfl args w) ?_
        refine (size_no _ (.pointer (some ⟨w.heap.size + 1 + 1, 0, none⟩)) (HMD.out _ HB5)).mono ?_
        rintro e w19 ⟨rfl, hb19⟩
        refine ⟨_, rfl, ?_⟩
        have z19 := hb19.size
        try simp only [World.size_drew] at z19
        replace e1' := Blk.below e1' hb19 (by first | exact Nat.le_refl _ | (simp only [World.size_alloc, World.size_setCell, World.size_drew] at *; omega) | omega)
        replace e2' := Blk.below e2' hb19 (by first | exact Nat.le_refl _ | (simp only [World.size_alloc, World.size_setCell, World.size_drew] at *; omega) | omega)
        replace e3' := Blk.below e3' hb19 (by first | exact Nat.le_refl _ | (simp only [World.size_alloc, World.size_setCell, World.size_drew] at *; omega) | omega)
        replace e4' := Blk.below e4' hb19 (by first | exact Nat.le_refl _ | (simp only [World.size_alloc, World.size_setCell, World.size_drew] at *; omega) | omega)
        replace HB5 := HB5.trans (hb19.mono (by first | exact HB5.size | omega))
        have zHB519 := HB5.size
        refine hK19.out _ _ ?su2x19 (fun hHeld => ?ru2x19)
        case su2x19 => ((try dsimp only); exact ⟨e4'.cell_ 0 rfl, e4'.cell_ 1 rfl, e1'.cell_ 0 rfl, e1'.cell_ 1 rfl, e1'.cell_ 2 rfl, SkpW.blk7 e2'⟩)
        try simp only [List.setIfInBounds_toArray, List.set_cons_zero, List.set_cons_succ]
        refine take_op (v := ?vu2x20) 20 (Op.binOp BinOp.neq 3 (Operand.tmp 52) (Operand.const (Value.int IntKind.i64 0)) 3) 4 rfl rfl rfl rfl rfl (by kernel_rfl) (by kernel_rfl) (by kernel_rfl) (fun _ _ _ h => h) ?yu2x20 (by assumption) ?ru2x20
        case yu2x20 => (intro w' hSw; (try dsimp only at hSw); go_simp; try (with_reducible rfl))
        simp only [List.setIfInBounds_toArray, List.set_cons_zero, List.set_cons_succ]
        refine take_op (v := ?vu2x21) 21 (Op.pick (Operand.tmp 47) (Operand.const (Value.bool true)) (Operand.tmp 53)) 4 rfl rfl rfl rfl rfl (by kernel_rfl) (by kernel_rfl) (by kernel_rfl) (fun _ _ _ h => h) ?yu2x21 (by assumption) ?ru2x21
        case yu2x21 => (intro w' hSw; (try dsimp only at hSw); go_simp; try (with_reducible rfl))
        simp only [List.setIfInBounds_toArray, List.set_cons_zero, List.set_cons_succ]
        refine take_movev (v := ?vu2x22) 22 (Operand.tmp 54) rfl rfl (by first | exact .inl rfl | exact .inr rfl) rfl (by kernel_rfl) (by kernel_rfl) (by kernel_rfl) (fun _ _ _ h => h) (by assumption) ?yu2x22 ?ru2x22
        case yu2x22 => (go_simp; try (with_reducible rfl))
        simp only [List.setIfInBounds_toArray, List.set_cons_zero, List.set_cons_succ]
        refine take_movev (v := ?vu2x23) 23 (Operand.tmp 6) rfl rfl (by first | exact .inl rfl | exact .inr rfl) rfl (by kernel_rfl) (by kernel_rfl) (by kernel_rfl) (fun _ _ _ h => h) (by assumption) ?yu2x23 ?ru2x23
        case yu2x23 => (go_simp; try (with_reducible rfl))
        simp only [List.setIfInBounds_toArray, List.set_cons_zero, List.set_cons_succ]
        refine take_movev (v := ?vu2x24) 24 (Operand.tmp 7) rfl rfl (by first | exact .inl rfl | exact .inr rfl) rfl (by kernel_rfl) (by kernel_rfl) (by kernel_rfl) (fun _ _ _ h => h) (by assumption) ?yu2x24 ?ru2x24
        case yu2x24 => (go_simp; try (with_reducible rfl))
        simp only [List.setIfInBounds_toArray, List.set_cons_zero, List.set_cons_succ]
        refine take_op (v := ?vu2x25) 25 (Op.indexAddr 44 (Operand.tmp 56) (Operand.tmp 57)) 0 rfl rfl rfl rfl rfl (by kernel_rfl) (by kernel_rfl) (by kernel_rfl) (fun _ _ _ h => h) ?yu2x25 (by assumption) ?ru2x25
        case yu2x25 => (intro w' hSw; (try dsimp only at hSw); go_simp; try (with_reducible rfl))
        simp only [List.setIfInBounds_toArray, List.set_cons_zero, List.set_cons_succ]
        refine take_op (v := ?vu2x26) 26 (Op.load 23 (Operand.tmp 58)) 23 rfl rfl rfl rfl rfl (by kernel_rfl) (by kernel_rfl) (by kernel_rfl) (fun _ _ _ h => h) ?yu2x26 (by assumption) ?ru2x26
        case yu2x26 => (intro w' hSw; (try dsimp only at hSw); go_simp; try (with_reducible rfl))
        simp only [List.setIfInBounds_toArray, List.set_cons_zero, List.set_cons_succ]
        refine take_op (v := ?vu2x27) 27 (Op.load 37 (Operand.tmp 2)) 37 rfl rfl rfl rfl rfl (by kernel_rfl) (by kernel_rfl) (by kernel_rfl) (fun _ _ _ h => h) ?yu2x27 (by assumption) ?ru2x27
        case yu2x27 => (intro w' hSw; (try dsimp only at hSw); go_simp; try (with_reducible rfl))
        simp only [List.setIfInBounds_toArray, List.set_cons_zero, List.set_cons_succ]
        refine wpAnyH_ready (rs := [28]) (by kernel_rfl) (by simp) (AllReadyH.cons rfl (fun K28 hK28 => ?ku2x28) AllReadyH.nil)
        refine take_calls 28 14 [Operand.tmp 59, Operand.tmp 60] #[23, 37] rfl rfl (by kernel_rfl) (fun args w => run_enter Tryd.func14 (by kernel_rfl) rfl args w) ?_
        refine (Meets_no _ (.pointer (some ⟨w.heap.size + 1 + 1, 0, none⟩)) q t d (fun w2 hb => HMD.out w2 (HB5.trans (hb.mono HB5.size)))).mono ?_
        rintro e w28 ⟨rfl, hb28⟩
        refine ⟨_, rfl, ?_⟩
        have z28 := hb28.size
        try simp only [World.size_drew] at z28
        replace e1' := Blk.below e1' hb28 (by first | exact Nat.le_refl _ | (simp only [World.size_alloc, World.size_setCell, World.size_drew] at *; omega) | omega)
        replace e2' := Blk.below e2' hb28 (by first | exact Nat.le_refl _ | (simp only [World.size_alloc, World.size_setCell, World.size_drew] at *; omega) | omega)
        replace e3' := Blk.below e3' hb28 (by first | exact Nat.le_refl _ | (simp only [World.size_alloc, World.size_setCell, World.size_drew] at *; omega) | omega)
        replace e4' := Blk.below e4' hb28 (by first | exact Nat.le_refl _ | (simp only [World.size_alloc, World.size_setCell, World.size_drew] at *; omega) | omega)
        replace HB5 := HB5.trans (hb28.mono (by first | exact HB5.size | omega))
        have zHB528 := HB5.size
        refine hK28.out _ _ ?su2x28 (fun hHeld => ?ru2x28)
        case su2x28 => ((try dsimp only); exact ⟨e4'.cell_ 0 rfl, e4'.cell_ 1 rfl, e1'.cell_ 0 rfl, e1'.cell_ 1 rfl, e1'.cell_ 2 rfl, SkpW.blk7 e2'⟩)
        try simp only [List.setIfInBounds_toArray, List.set_cons_zero, List.set_cons_succ]
        refine take_op (v := ?vu2x29) 29 (Op.pick (Operand.tmp 55) (Operand.const (Value.bool true)) (Operand.tmp 61)) 4 rfl rfl rfl rfl rfl (by kernel_rfl) (by kernel_rfl) (by kernel_rfl) (fun _ _ _ h => h) ?yu2x29 (by assumption) ?ru2x29
        case yu2x29 => (intro w' hSw; (try dsimp only at hSw); go_simp; try (with_reducible rfl))
        simp only [List.setIfInBounds_toArray, List.set_cons_zero, List.set_cons_succ]
        refine take_movev (v := ?vu2x30) 30 (Operand.tmp 62) rfl rfl (by first | exact .inl rfl | exact .inr rfl) rfl (by kernel_rfl) (by kernel_rfl) (by kernel_rfl) (fun _ _ _ h => h) (by assumption) ?yu2x30 ?ru2x30
        case yu2x30 => (go_simp; try (with_reducible rfl))
        simp only [List.setIfInBounds_toArray, List.set_cons_zero, List.set_cons_succ]
        refine take_movev (v := ?vu2x31) 31 (Operand.tmp 6) rfl rfl (by first | exact .inl rfl | exact .inr rfl) rfl (by kernel_rfl) (by kernel_rfl) (by kernel_rfl) (fun _ _ _ h => h) (by assumption) ?yu2x31 ?ru2x31
        case yu2x31 => (go_simp; try (with_reducible rfl))
        simp only [List.setIfInBounds_toArray, List.set_cons_zero, List.set_cons_succ]
        refine take_movev (v := ?vu2x32) 32 (Operand.tmp 7) rfl rfl (by first | exact .inl rfl | exact .inr rfl) rfl (by kernel_rfl) (by kernel_rfl) (by kernel_rfl) (fun _ _ _ h => h) (by assumption) ?yu2x32 ?ru2x32
        case yu2x32 => (go_simp; try (with_reducible rfl))
        simp only [List.setIfInBounds_toArray, List.set_cons_zero, List.set_cons_succ]
        refine take_op (v := ?vu2x33) 33 (Op.indexAddr 44 (Operand.tmp 64) (Operand.tmp 65)) 0 rfl rfl rfl rfl rfl (by kernel_rfl) (by kernel_rfl) (by kernel_rfl) (fun _ _ _ h => h) ?yu2x33 (by assumption) ?ru2x33
        case yu2x33 => (intro w' hSw; (try dsimp only at hSw); go_simp; try (with_reducible rfl))
        simp only [List.setIfInBounds_toArray, List.set_cons_zero, List.set_cons_succ]
        refine take_op (v := ?vu2x34) 34 (Op.load 23 (Operand.tmp 66)) 23 rfl rfl rfl rfl rfl (by kernel_rfl) (by kernel_rfl) (by kernel_rfl) (fun _ _ _ h => h) ?yu2x34 (by assumption) ?ru2x34
        case yu2x34 => (intro w' hSw; (try dsimp only at hSw); go_simp; try (with_reducible rfl))
        simp only [List.setIfInBounds_toArray, List.set_cons_zero, List.set_cons_succ]
        refine take_op (v := ?vu2x35) 35 (Op.load 39 (Operand.tmp 3)) 39 rfl rfl rfl rfl rfl (by kernel_rfl) (by kernel_rfl) (by kernel_rfl) (fun _ _ _ h => h) ?yu2x35 (by assumption) ?ru2x35
        case yu2x35 => (intro w' hSw; (try dsimp only at hSw); go_simp; try (with_reducible rfl))
        simp only [List.setIfInBounds_toArray, List.set_cons_zero, List.set_cons_succ]
        refine wpAnyH_ready (rs := [36]) (by kernel_rfl) (by simp) (AllReadyH.cons rfl (fun K36 hK36 => ?ku2x36) AllReadyH.nil)
        refine take_calls 36 15 [Operand.tmp 67, Operand.tmp 68] #[23, 39] rfl rfl (by kernel_rfl) (fun args w => run_enter Tryd.func15 (by kernel_rfl) rfl args w) ?_
        refine (Block_no _ (.pointer (some ⟨w.heap.size + 1 + 1, 0, none⟩)) m (fun w2 hb => HMD.out w2 (HB5.trans (hb.mono HB5.size)))).mono ?_
        rintro e w36 ⟨rfl, hb36⟩
        refine ⟨_, rfl, ?_⟩
        have z36 := hb36.size
        try simp only [World.size_drew] at z36
        replace e1' := Blk.below e1' hb36 (by first | exact Nat.le_refl _ | (simp only [World.size_alloc, World.size_setCell, World.size_drew] at *; omega) | omega)
        replace e2' := Blk.below e2' hb36 (by first | exact Nat.le_refl _ | (simp only [World.size_alloc, World.size_setCell, World.size_drew] at *; omega) | omega)
        replace e3' := Blk.below e3' hb36 (by first | exact Nat.le_refl _ | (simp only [World.size_alloc, World.size_setCell, World.size_drew] at *; omega) | omega)
        replace e4' := Blk.below e4' hb36 (by first | exact Nat.le_refl _ | (simp only [World.size_alloc, World.size_setCell, World.size_drew] at *; omega) | omega)
        replace HB5 := HB5.trans (hb36.mono (by first | exact HB5.size | omega))
        have zHB536 := HB5.size
        refine hK36.out _ _ ?su2x36 (fun hHeld => ?ru2x36)
        case su2x36 => ((try dsimp only); exact ⟨e4'.cell_ 0 rfl, e4'.cell_ 1 rfl, e1'.cell_ 0 rfl, e1'.cell_ 1 rfl, e1'.cell_ 2 rfl, SkpW.blk7 e2'⟩)
        try simp only [List.setIfInBounds_toArray, List.set_cons_zero, List.set_cons_succ]
        refine take_op (v := ?vu2x37) 37 (Op.pick (Operand.tmp 63) (Operand.const (Value.bool true)) (Operand.tmp 69)) 4 rfl rfl rfl rfl rfl (by kernel_rfl) (by kernel_rfl) (by kernel_rfl) (fun _ _ _ h => h) ?yu2x37 (by assumption) ?ru2x37
        case yu2x37 => (intro w' hSw; (try dsimp only at hSw); go_simp; try (with_reducible rfl))
        simp only [List.setIfInBounds_toArray, List.set_cons_zero, List.set_cons_succ]
        refine wpAnyH_done (by kernel_rfl) ?_ _
        go_wp2_with fail
        go_roundw
        case rel => exact ⟨1 + 1, by omega, by go_num, hbw.trans (HB5.mono hzr), e1', e2', e3', e4'⟩
        case measure => simp [intOf]
      · have AW := sawake_any _ (hW.below hbw)
        go_wp2_with fail
        refine AW.mono ?_
        clear AW
        rintro e w1 ⟨rfl, hb1⟩
        go_wp2_with fail
        go_ret
        exact ⟨rfl, hbw.trans (hb1.mono hbw.size)⟩
end SieW
end Go.Proofs.YtdeiehgghhiijaaDoor
