/- The walks of package want: how two numbers are written. -/
import Derived.Test.YtjcbaaabbdcdnaaDoorWanK
namespace Go.Proofs.YtjcbaaabbdcdnaaDoor
set_option linter.unusedVariables false
set_option linter.unusedSimpArgs false
set_option linter.unnecessarySimpa false
open Go.RowKit
namespace WanW

/-- How two numbers are written. -/
def rngL (a b : Int) : List UInt8 := decL a.toNat ++ (45 :: decL b.toNat)
theorem decL_10 (a : Int) (h : a ≤ 1000000001) : (decL a.toNat).length ≤ 10 := decL_len _ 9 (by omega)
theorem itoaS (a : Int) (h0 : 0 ≤ a) (h1 : a ≤ 1000000001) (x : List UInt8) (hx : decL a.toNat = x) (w : World) (h : Wo w) :
    Calls Tryd.prog 29 #[.int .i64 a] w fun e w' => e = .returned (str x) ∧ Below w.heap.size w w' := hx ▸ itoa_any a h0 h1 w h
set_option maxRecDepth 100000 in
set_option maxHeartbeats 4000000 in
theorem shown_any (a b : Int) (a0 : 0 ≤ a) (a1 : a ≤ 1000000001) (b0 : 0 ≤ b) (b1 : b ≤ 1000000001) (w : World) (h : Wo w) :
    Calls Tryd.prog 28 #[.agg #[.int .i64 a, .int .i64 b]] w fun e w' => e = .returned (str (rngL a b)) ∧ Below w.heap.size w w' := by
  have lx := decL_10 a a1
  have ly := decL_10 b b1
  have HR := Lib.hid (show rngL a b = decL a.toNat ++ (45 :: decL b.toNat) from rfl)
  obtain ⟨x, hx⟩ : ∃ x, decL a.toNat = x := ⟨_, rfl⟩
  obtain ⟨y, hy⟩ : ∃ y, decL b.toNat = y := ⟨_, rfl⟩
  rw [hx] at lx HR
  rw [hy] at ly HR
  have hs1 : ¬ 9223372036854775807 < x.length + 1 := by omega
  have hs2 : ¬ 9223372036854775807 < x.length + 1 + y.length := by omega
  have HX := Lib.hid hx
  have HY := Lib.hid hy
  clear hx hy
  have HB := (Below.refl w.heap.size w).alloc (Nat.le_refl _) (.cells #[.int .i64 a, .int .i64 b] 24)
  have bR := Blk.new w 24 #[.int .i64 a, .int .i64 b]
  have W0 := Lib.hid h
  clear h
  go_enter Tryd.func28, Tryd.ntmps28
  go_wp2_with fail
  refine wp_region_held_drew (S := (fun w' => w'.cell? ⟨w.heap.size, 0, none⟩ = some (.int .i64 a) ∧ w'.cell? ⟨w.heap.size, 1, none⟩ = some (.int .i64 b))) (by kernel_rfl) ?_ (fun hHeld => ?_)
  · replace HB := Below.drew HB; replace bR := Blk.drew bR; (try dsimp only); exact ⟨bR.cell_ 0 rfl, bR.cell_ 1 rfl⟩
  replace HB := Below.drew HB
  replace bR := Blk.drew bR
  have zHB := HB.size
  refine take_op (v := ?vu1x0) 0 (Op.fieldAddr 24 (Operand.tmp 1) 0) 0 rfl rfl rfl rfl rfl (by kernel_rfl) (by kernel_rfl) (by kernel_rfl) (fun _ _ _ h => h) ?yu1x0 (by assumption) ?ru1x0
  case yu1x0 => (intro w' hSw; (try dsimp only at hSw); go_simp; try (with_reducible rfl))
  simp only [List.setIfInBounds_toArray, List.set_cons_zero, List.set_cons_succ]
  refine take_op (v := ?vu1x1) 1 (Op.load 3 (Operand.tmp 3)) 3 rfl rfl rfl rfl rfl (by kernel_rfl) (by kernel_rfl) (by kernel_rfl) (fun _ _ _ h => h) ?yu1x1 (by assumption) ?ru1x1
  case yu1x1 => (intro w' hSw; (try dsimp only at hSw); go_simp; try (with_reducible rfl))
  simp only [List.setIfInBounds_toArray, List.set_cons_zero, List.set_cons_succ]
  refine take_op (v := ?vu1x4) 4 (Op.fieldAddr 24 (Operand.tmp 1) 1) 0 rfl rfl rfl rfl rfl (by kernel_rfl) (by kernel_rfl) (by kernel_rfl) (fun _ _ _ h => h) ?yu1x4 (by assumption) ?ru1x4
  case yu1x4 => (intro w' hSw; (try dsimp only at hSw); go_simp; try (with_reducible rfl))
  simp only [List.setIfInBounds_toArray, List.set_cons_zero, List.set_cons_succ]
  refine take_op (v := ?vu1x5) 5 (Op.load 3 (Operand.tmp 7)) 3 rfl rfl rfl rfl rfl (by kernel_rfl) (by kernel_rfl) (by kernel_rfl) (fun _ _ _ h => h) ?yu1x5 (by assumption) ?ru1x5
  case yu1x5 => (intro w' hSw; (try dsimp only at hSw); go_simp; try (with_reducible rfl))
  simp only [List.setIfInBounds_toArray, List.set_cons_zero, List.set_cons_succ]
  refine wpAnyH_ready (rs := [2]) (by kernel_rfl) (by simp) (AllReadyH.cons rfl (fun K2 hK2 => ?ku1x2) AllReadyH.nil)
  refine take_calls 2 29 [Operand.tmp 4] #[3] rfl rfl (by kernel_rfl) (fun args w => run_enter Tryd.func29 (by kernel_rfl) rfl args w) ?_
  refine (itoaS a a0 a1 x HX.out _ (W0.out.below HB)).mono ?_
  rintro e w2 ⟨rfl, hb2⟩
  refine ⟨_, rfl, ?_⟩
  have z2 := hb2.size
  try simp only [World.size_drew] at z2
  replace HB := HB.trans (hb2.mono (by first | exact HB.size | omega))
  have zHB2 := HB.size
  replace bR := Blk.below bR hb2 (by first | exact Nat.le_refl _ | (simp only [World.size_alloc, World.size_setCell, World.size_drew] at *; omega) | omega)
  refine hK2.out _ _ ?su1x2 (fun hHeld => ?ru1x2)
  case su1x2 => ((try dsimp only); exact ⟨bR.cell_ 0 rfl, bR.cell_ 1 rfl⟩)
  try simp only [List.setIfInBounds_toArray, List.set_cons_zero, List.set_cons_succ]
  refine take_op (v := ?vu1x3) 3 (Op.binOp BinOp.add 9 (Operand.tmp 5) (Operand.const (Value.string { data := #[45] })) 9) 9 rfl rfl rfl rfl rfl (by kernel_rfl) (by kernel_rfl) (by kernel_rfl) (fun _ _ _ h => h) ?yu1x3 (by assumption) ?ru1x3
  case yu1x3 => (intro w' hSw; (try dsimp only at hSw); go_simp; try (with_reducible rfl))
  simp only [List.setIfInBounds_toArray, List.set_cons_zero, List.set_cons_succ]
  refine wpAnyH_ready (rs := [6]) (by kernel_rfl) (by simp) (AllReadyH.cons rfl (fun K6 hK6 => ?ku1x6) AllReadyH.nil)
  refine take_calls 6 29 [Operand.tmp 8] #[3] rfl rfl (by kernel_rfl) (fun args w => run_enter Tryd.func29 (by kernel_rfl) rfl args w) ?_
  refine (itoaS b b0 b1 y HY.out _ (W0.out.below HB)).mono ?_
  rintro e w6 ⟨rfl, hb6⟩
  refine ⟨_, rfl, ?_⟩
  have z6 := hb6.size
  try simp only [World.size_drew] at z6
  replace HB := HB.trans (hb6.mono (by first | exact HB.size | omega))
  have zHB6 := HB.size
  replace bR := Blk.below bR hb6 (by first | exact Nat.le_refl _ | (simp only [World.size_alloc, World.size_setCell, World.size_drew] at *; omega) | omega)
  refine hK6.out _ _ ?su1x6 (fun hHeld => ?ru1x6)
  case su1x6 => ((try dsimp only); exact ⟨bR.cell_ 0 rfl, bR.cell_ 1 rfl⟩)
  try simp only [List.setIfInBounds_toArray, List.set_cons_zero, List.set_cons_succ]
  refine take_op (v := ?vu1x7) 7 (Op.binOp BinOp.add 9 (Operand.tmp 6) (Operand.tmp 9) 9) 9 rfl rfl rfl rfl rfl (by kernel_rfl) (by kernel_rfl) (by kernel_rfl) (fun _ _ _ h => h) ?yu1x7 (by assumption) ?ru1x7
  case yu1x7 => (intro w' hSw; (try dsimp only at hSw); go_simp; try (with_reducible rfl))
  simp only [List.setIfInBounds_toArray, List.set_cons_zero, List.set_cons_succ]
  refine take_op (v := ?vu1x8) 8 (Op.assign (Operand.tmp 10)) 9 rfl rfl rfl rfl rfl (by kernel_rfl) (by kernel_rfl) (by kernel_rfl) (fun _ _ _ h => h) ?yu1x8 (by assumption) ?ru1x8
  case yu1x8 => (intro w' hSw; (try dsimp only at hSw); go_simp; try (with_reducible rfl))
  simp only [List.setIfInBounds_toArray, List.set_cons_zero, List.set_cons_succ]
  refine wpAnyH_done (by kernel_rfl) ?_ _
  clear hHeld
  go_wp2_with fail
  go_ret
  exact ⟨by rw [HR.out]; simp [str_cat], HB⟩
end WanW
end Go.Proofs.YtjcbaaabbdcdnaaDoor
