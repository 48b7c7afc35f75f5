/- Walks over the laws of package buff: some fixed answers. -/
import Derived.Test.YtehlgpfkpagaeaaBufS
namespace Go.Proofs.Ytehlgpfkpagaeaa
set_option linter.unusedVariables false
set_option linter.unusedSimpArgs false
set_option linter.unnecessarySimpa false
open Go.RowKit
namespace RecW

def threeL : List Rc := [(1, 2, [97, 98]), (2, 3, [99, 100]), (3, 3, [101, 102, 103, 104, 105, 106])]
theorem three_any (w : World) :
    Calls Try.prog 66 #[] w fun e w' => e = .returned (.slice (some ⟨w.heap.size, 0, none⟩) 3 3) ∧ Own w' w.heap.size 50 3 (some ⟨w.heap.size, 0, none⟩) 3 3 (rcells threeL) ∧ Below w.heap.size w w' := by
  go_enter Try.func66, Try.ntmps66
  go_wp2_with fail
  go_ret
  exact ⟨rfl, own_new (cs := rcells threeL) rfl rfl (Nat.le_refl _) (by decide), (by first | exact Below.refl _ _ | (repeat (first | exact Below.refl _ _ | assumption | refine Below.drew ?_ | refine Below.drewN_ ?_ _ | refine Below.alloc ?_ (by first | exact Nat.le_refl _ | (simp; done) | (simp; omega) | omega) _ | refine Below.setCell ?_ (by first | exact Nat.le_refl _ | (simp; done) | (simp; omega) | omega) _ | (refine Below.trans ?_ (Below.mono (by assumption) (by first | exact Nat.le_refl _ | (simp; done) | (simp; omega) | omega))))))⟩

set_option maxRecDepth 100000 in
set_option maxHeartbeats 4000000 in
theorem awake_any (w : World) :
    Calls Try.prog 41 #[] w fun e w' => e = .returned (.bool true) ∧ Below w.heap.size w w' := by
  go_enter Try.func41, Try.ntmps41
  go_wp2_with fail
  refine (three_any _).mono ?_
  rintro e w1 ⟨rfl, o1, HB⟩
  go_wp2_with fail
  refine (chunks_any _ 3 3 threeL 8 w1 (o1.rd) (by omega) (by omega) (by omega)).mono ?_
  rintro e w2 ⟨A2, n2, c2, rfl, hn2, hc2, hr2, hb2⟩
  replace HB := HB.trans (hb2.mono HB.size)
  rw [show chunksV 8 threeL = ([[(1, 2, [97, 98]), (2, 3, [99, 100])], [(3, 3, [101, 102, 103, 104, 105, 106])]], 0) by decide +kernel] at hr2 ⊢
  clear o1 hb2
  go_wp2_with fail
  have zHB := HB.size
  refine wp_region_held_drew (S := (fun _ => True)) (by kernel_rfl) ?_ (fun hHeld => ?_)
  · replace hr2 := RdRows.drew_ hr2; replace HB := Below.drew HB; (try dsimp only); all_goals trivial
  replace hr2 := RdRows.drew_ hr2
  replace HB := Below.drew HB
  have zHB := HB.size
  refine wpAnyH_ready (rs := [0]) (by kernel_rfl) (by simp) (AllReadyH.cons rfl (fun K0 hK0 => ?ku1x0) AllReadyH.nil)
  refine take_calls 0 66 [] #[] rfl rfl (by kernel_rfl) (fun args w => run_enter Try.func66 (by kernel_rfl) rfl args w) ?_
  refine (three_any _).mono ?_
  rintro e w0 ⟨rfl, o0, hb0⟩
  refine ⟨_, rfl, ?_⟩
  have z0 := hb0.size
  try simp only [World.size_drew] at z0
  replace hr2 := RdRows.below hr2 (hb0.mono (by first | exact Nat.le_refl _ | (simp only [World.size_alloc, World.size_setCell, World.size_drew] at *; omega) | omega))
  replace HB := HB.trans (hb0.mono HB.size)
  have zHB0 := HB.size
  refine hK0.out _ _ ?su1x0 (fun hHeld => ?ru1x0)
  case su1x0 => ((try dsimp only); all_goals trivial)
  try simp only [List.setIfInBounds_toArray, List.set_cons_zero, List.set_cons_succ]
  refine take_op (v := ?vu1x1) 1 (Op.slice 48 (Operand.tmp 15) none (some (Operand.const (Value.int IntKind.i64 2))) none) 48 rfl rfl rfl rfl rfl (by kernel_rfl) (by kernel_rfl) (by kernel_rfl) (fun _ _ _ h => h) ?yu1x1 (by assumption) ?ru1x1
  case yu1x1 => (intro w' hSw; (try dsimp only at hSw); go_simp; try (with_reducible rfl))
  simp only [List.setIfInBounds_toArray, List.set_cons_zero, List.set_cons_succ]
  refine wpAnyH_ready (rs := [2]) (by kernel_rfl) (by simp) (AllReadyH.cons rfl (fun K2 hK2 => ?ku1x2) AllReadyH.nil)
  refine take_calls 2 66 [] #[] rfl rfl (by kernel_rfl) (fun args w => run_enter Try.func66 (by kernel_rfl) rfl args w) ?_
  refine (three_any _).mono ?_
  rintro e w2 ⟨rfl, o2, hb2⟩
  refine ⟨_, rfl, ?_⟩
  have z2 := hb2.size
  try simp only [World.size_drew] at z2
  replace hr2 := RdRows.below hr2 (hb2.mono (by first | exact Nat.le_refl _ | (simp only [World.size_alloc, World.size_setCell, World.size_drew] at *; omega) | omega))
  replace HB := HB.trans (hb2.mono HB.size)
  have zHB2 := HB.size
  replace o0 := Own.below o0 hb2
  refine hK2.out _ _ ?su1x2 (fun hHeld => ?ru1x2)
  case su1x2 => ((try dsimp only); all_goals trivial)
  try simp only [List.setIfInBounds_toArray, List.set_cons_zero, List.set_cons_succ]
  refine take_op (v := ?vu1x3) 3 (Op.indexAddr 48 (Operand.tmp 17) (Operand.const (Value.int IntKind.i64 2))) 0 rfl rfl rfl rfl rfl (by kernel_rfl) (by kernel_rfl) (by kernel_rfl) (fun _ _ _ h => h) ?yu1x3 (by assumption) ?ru1x3
  case yu1x3 => (intro w' hSw; (try dsimp only at hSw); go_simp; try (with_reducible rfl))
  simp only [List.setIfInBounds_toArray, List.set_cons_zero, List.set_cons_succ]
  have d0 := own_cell o2 6 rfl; have d1 := own_cell o2 7 rfl; have d2 := own_cell o2 8 rfl
  refine' take_run 4 (Op.load 50 (Operand.tmp 18)) 50 (by kernel_rfl) rfl rfl rfl rfl (by kernel_rfl) ?eu1x4 ?su1x4 (fun hHeld => ?ru1x4)
  case eu1x4 => (go_simp; try (first | with_reducible rfl | exact ⟨rfl, rfl⟩))
  case su1x4 => ((try dsimp only); (first | assumption | (all_goals trivial)))
  simp only [List.setIfInBounds_toArray, List.set_cons_zero, List.set_cons_succ]
  refine wpAnyH_ready (rs := [5]) (by kernel_rfl) (by simp) (AllReadyH.cons rfl (fun K5 hK5 => ?ku1x5) AllReadyH.nil)
  refine take_calls 5 42 [Operand.tmp 16, Operand.tmp 19] #[48, 50] rfl rfl (by kernel_rfl) (fun args w => run_enter Try.func42 (by kernel_rfl) rfl args w) ?_
  refine (add_eq _ 2 3 [(1, 2, [97, 98]), (2, 3, [99, 100])] (3, 3, [101, 102, 103, 104, 105, 106]) (threeL, 0) (by decide +kernel) _ (o0.rd.take 2 (by omega)) (by omega) (by omega) (by omega)).mono ?_
  rintro e w5 ⟨A5, n5, c5, rfl, i5, r5, hb5⟩
  refine ⟨_, rfl, ?_⟩
  have z5 := hb5.size
  try simp only [World.size_drew] at z5
  replace hr2 := RdRows.below hr2 (hb5.mono (by first | exact Nat.le_refl _ | (simp only [World.size_alloc, World.size_setCell, World.size_drew] at *; omega) | omega))
  replace HB := HB.trans (hb5.mono HB.size)
  have zHB5 := HB.size
  replace o0 := Own.below o0 hb5
  replace o2 := Own.below o2 hb5
  refine hK5.out _ _ ?su1x5 (fun hHeld => ?ru1x5)
  case su1x5 => ((try dsimp only); all_goals trivial)
  try simp only [List.setIfInBounds_toArray, List.set_cons_zero, List.set_cons_succ]
  refine take_move 6 (Operand.tmp 20) rfl rfl (by first | exact .inl rfl | exact .inr rfl) rfl (by kernel_rfl) (by kernel_rfl) (by kernel_rfl) (fun _ _ _ h => h) (by assumption) ?_
  simp only [List.setIfInBounds_toArray, List.set_cons_zero, List.set_cons_succ]
  refine take_op (v := ?vu1x7) 7 (Op.extract (Operand.tmp 14) 0) 48 rfl rfl rfl rfl rfl (by kernel_rfl) (by kernel_rfl) (by kernel_rfl) (fun _ _ _ h => h) ?yu1x7 (by assumption) ?ru1x7
  case yu1x7 => (intro w' hSw; (try dsimp only at hSw); go_simp; try (with_reducible rfl))
  simp only [List.setIfInBounds_toArray, List.set_cons_zero, List.set_cons_succ]
  refine take_op (v := ?vu1x8) 8 (Op.extract (Operand.tmp 14) 1) 36 rfl rfl rfl rfl rfl (by kernel_rfl) (by kernel_rfl) (by kernel_rfl) (fun _ _ _ h => h) ?yu1x8 (by assumption) ?ru1x8
  case yu1x8 => (intro w' hSw; (try dsimp only at hSw); go_simp; try (with_reducible rfl))
  simp only [List.setIfInBounds_toArray, List.set_cons_zero, List.set_cons_succ]
  refine take_op (v := ?vu1x9) 9 (Op.assign (Operand.tmp 21)) 48 rfl rfl rfl rfl rfl (by kernel_rfl) (by kernel_rfl) (by kernel_rfl) (fun _ _ _ h => h) ?yu1x9 (by assumption) ?ru1x9
  case yu1x9 => (intro w' hSw; (try dsimp only at hSw); go_simp; try (with_reducible rfl))
  simp only [List.setIfInBounds_toArray, List.set_cons_zero, List.set_cons_succ]
  refine take_op (v := ?vu1x10) 10 (Op.assign (Operand.tmp 22)) 36 rfl rfl rfl rfl rfl (by kernel_rfl) (by kernel_rfl) (by kernel_rfl) (fun _ _ _ h => h) ?yu1x10 (by assumption) ?ru1x10
  case yu1x10 => (intro w' hSw; (try dsimp only at hSw); go_simp; try (with_reducible rfl))
  simp only [List.setIfInBounds_toArray, List.set_cons_zero, List.set_cons_succ]
  refine wpAnyH_done (by kernel_rfl) ?_ _
  obtain rfl : 3 = n5 := rd_rlen r5
  obtain rfl : 2 = n2 := hr2.len
  clear o0 o2 r5 hb0 hb2 hb5 d0 d1 d2
  go_wp2_with fail
  refine (three_any _).mono ?_
  rintro e w6 ⟨rfl, o6, hb6⟩
  have z6 := hb6.size
  replace hr2 := hr2.below (hb6.mono (by omega))
  replace HB := HB.trans (hb6.mono HB.size)
  clear hb6
  go_wp2_with fail
  refine (three_any _).mono ?_
  rintro e w7 ⟨rfl, o7, hb7⟩
  have z7 := hb7.size
  replace hr2 := hr2.below (hb7.mono (by omega))
  replace HB := HB.trans (hb7.mono HB.size)
  replace o6 := o6.below hb7
  have d0 := own_cell o7 0 rfl
  have d1 := own_cell o7 1 rfl
  have d2 := own_cell o7 2 rfl
  dsimp only at d0 d1 d2
  clear hb7
  go_wp2_with fail
  refine (add_eq _ 3 3 threeL (1, 2, [97, 98]) ([], 151) (by decide +kernel) _ o6.rd (by omega) (by omega) (by omega)).mono ?_
  rintro e w8 ⟨A8, n8, c8, rfl, _, r8, hb8⟩
  have z8 := hb8.size
  replace hr2 := hr2.below (hb8.mono (by omega))
  replace HB := HB.trans (hb8.mono HB.size)
  clear hb8 r8 o6 o7 d0 d1 d2
  go_wp2_with fail
  refine (three_any _).mono ?_
  rintro e w9 ⟨rfl, o9, hb9⟩
  have z9 := hb9.size
  replace hr2 := hr2.below (hb9.mono (by omega))
  replace HB := HB.trans (hb9.mono HB.size)
  clear hb9
  go_wp2_with fail
  refine (chunks_any _ 3 3 threeL 0 w9 (o9.rd) (by omega) (by omega) (by omega)).mono ?_
  rintro e w10 ⟨A10, n10, c10, rfl, hn10, hc10, hr10, hb10⟩
  rw [show chunksV 0 threeL = ([], 2) by decide +kernel] at hr10 ⊢
  have z10 := hb10.size
  replace hr2 := hr2.below (hb10.mono (by omega))
  replace HB := HB.trans (hb10.mono HB.size)
  clear hb10 hr10 hn10 hc10 o9
  obtain ⟨b, o, rfl, hbb, hc⟩ := hr2.at_ (by omega)
  obtain ⟨X0, m0, k0, e0, _, _, q0⟩ := hc 0 (by decide)
  obtain ⟨X1, m1, k1, e1, _, _, q1⟩ := hc 1 (by decide)
  obtain rfl : 2 = m0 := rd_rlen q0
  obtain rfl : 1 = m1 := rd_rlen q1
  rw [Nat.add_zero] at e0
  clear hc hr2 q0 q1
  go_wp2_with fail
  refine (three_any _).mono ?_
  rintro e w11 ⟨rfl, o11, hb11⟩
  replace HB := HB.trans (hb11.mono HB.size)
  go_wp2_with fail
  refine (raw_any _ 3 3 threeL _ o11.rd (by omega)).mono ?_
  rintro e w12 ⟨rfl, hb12⟩
  replace HB := HB.trans (hb12.mono HB.size)
  rw [show rawN threeL = 19 by decide +kernel]
  go_wp2_with fail
  refine (three_any _).mono ?_
  rintro e w13 ⟨rfl, o13, hb13⟩
  replace HB := HB.trans (hb13.mono HB.size)
  go_wp2_with fail
  refine (times_any _ 3 3 threeL _ o13.rd (by omega)).mono ?_
  rintro e w14 ⟨rfl, hb14⟩
  replace HB := HB.trans (hb14.mono HB.size)
  rw [show tLo threeL = 2 by decide +kernel, show tHi threeL = 3 by decide +kernel]
  go_wp2_with fail
  refine (three_any _).mono ?_
  rintro e w15 ⟨rfl, o15, hb15⟩
  replace HB := HB.trans (hb15.mono HB.size)
  go_wp2_with fail
  refine (next_any _ 3 3 threeL 7 _ o15.rd (by omega) (by intro r hr; simp [threeL] at hr; rcases hr with rfl | rfl | rfl <;> exact ⟨by decide, by decide⟩)).mono ?_
  rintro e w16 ⟨rfl, hb16⟩
  replace HB := HB.trans (hb16.mono HB.size)
  rw [show nextN threeL 7 = 4 by decide +kernel]
  go_wp2_with fail
  refine (next_any none 0 0 [] 7 _ (Rd.nil _ _ _ _) (by omega) (by intro r h; cases h)).mono ?_
  rintro e w17 ⟨rfl, hb17⟩
  replace HB := HB.trans (hb17.mono HB.size)
  rw [show nextN [] 7 = 7 by decide +kernel]
  go_wp2_with fail
  go_ret
  exact ⟨rfl, HB⟩
end RecW
end Go.Proofs.Ytehlgpfkpagaeaa
