/- Walk of the statement on sentences that are read and written (SieveParses); its card. -/
import Derived.Test.YtdeiehgghhiijaaDoorSieSh
import Derived.Test.YtdeiehgghhiijaaDoorSieCa
import Derived.Test.YtdeiehgghhiijaaDoorSieL
namespace Go.Proofs.YtdeiehgghhiijaaDoor
set_option linter.unusedVariables false
set_option linter.unusedSimpArgs false
set_option linter.unnecessarySimpa false
open Go.RowKit
namespace SieW
open WanW (w64k)

set_option maxRecDepth 100000 in
set_option maxHeartbeats 16000000 in
theorem parses_law (s : List UInt8) (w : World) (hW : WanW.Wo w) :
    Calls Tryd.prog 3 #[str s] w fun e w' => e = .returned (.bool true) ∧ Below w.heap.size w w' := by
  have HA := Lib.hid (fun w h => sawake_any w h)
  by_cases hl : 1200 < s.length
  · have hI : (1200 : Int) < (s.length : Int) := by omega
    clear hl
    go_enter Tryd.func3, Tryd.ntmps3
    go_wp2_with fail
    refine (HA.out _ hW).mono ?_
    rintro e w2 ⟨rfl, hb1⟩
    go_wp2_with fail
    go_ret
    exact ⟨rfl, hb1⟩
  have hI : ¬ (1200 : Int) < (s.length : Int) := by omega
  obtain ⟨⟨r1, p1, e1⟩, h1⟩ : ∃ r, parseP s = r := ⟨_, rfl⟩
  have HR := Lib.hid (fun w => refParse_any s w r1 p1 e1 h1 (by omega))
  have hpp : (p1 != p1) = false := by simp
  have hee : (e1 != e1) = false := by simp
  cases r1 with
  | none =>
    have he : ¬ e1 = 0 := by rcases parse_err h1 with h | h <;> omega
    have heb : (e1 != 0) = true := by simp [he]
    have C1 := parse_no_any h1 w hW (by omega)
    clear h1 hl
    go_enter Tryd.func3, Tryd.ntmps3
    go_wp2_with fail
    refine C1.mono ?_
    clear C1
    rintro e w2 ⟨rfl, hb2⟩
    go_wp2_with fail
    refine (HR.out w2).mono ?_
    rintro e w3 ⟨A, m3, c3, z3, d3, rfl, _, hb3⟩
    have HB3 := hb2.trans (hb3.mono hb2.size)
    have hz3 := HB3.size
    have HB4 := HB3.alloc (by omega) (.cells #[.slice A m3 c3, .int .i64 z3, .int .i64 d3] 29)
    have hW4 := hW.below HB4
    clear hb2 hb3
    go_wp2_with fail
    refine (HA.out _ hW4).mono ?_
    rintro e w5 ⟨rfl, hb5⟩
    go_wp2_with fail
    go_ret
    exact ⟨rfl, HB4.trans (hb5.mono HB4.size)⟩
  | some nz1 =>
  obtain ⟨n1, zz1⟩ := nz1
  obtain rfl := parse_fine h1
  obtain ⟨hwf, hsz, hsz2⟩ := parse_sv h1
  have C1 := parse_sv_any h1 w hW (by omega)
  obtain ⟨T, hT⟩ : ∃ T, shN 0 n1 = T := ⟨_, rfl⟩
  have HSh := Lib.hid (rsw_any n1 hwf (by omega))
  clear h1 hl hsz hsz2
  go_enter Tryd.func3, Tryd.ntmps3
  go_wp2_with fail
  refine C1.mono ?_
  clear C1
  rintro e w2 ⟨g1, rfl, SA2, hb2⟩
  have hW2 := hW.below hb2
  have hz2 := hb2.size
  go_wp2_with fail
  refine (HR.out w2).mono ?_
  clear HR
  rintro e w3 ⟨A, m3, c3, z3, d3, rfl, hps, hb3⟩
  obtain ⟨hzq, hmc, hm4, ps, hpsA, hm1, hrep⟩ := hps n1 zz1 rfl
  clear hps
  subst hzq
  have HB3 := hb2.trans (hb3.mono hb2.size)
  have SA3 := SA2.below hb3
  have hz3 := HB3.size
  have HB4 := HB3.alloc (by omega) (.cells #[.slice A m3 c3, .int .i64 (zz1 : Nat), .int .i64 d3] 29)
  have s4 := Blk.new w3 29 #[.slice A m3 c3, .int .i64 (zz1 : Nat), .int .i64 d3]
  have SA4 := SA3.below (w' := w3.alloc (.cells #[.slice A m3 c3, .int .i64 (zz1 : Nat), .int .i64 d3] 29)) ((Below.refl _ w3).alloc (Nat.le_refl _) _)
  have P4 := hpsA.below (w' := w3.alloc (.cells #[.slice A m3 c3, .int .i64 (zz1 : Nat), .int .i64 d3] 29)) ((Below.refl _ w3).alloc (Nat.le_refl _) _)
  have hW4 := hW.below HB4
  obtain ⟨w4, hw4⟩ : ∃ w4, w3.alloc (.cells #[.slice A m3 c3, .int .i64 (zz1 : Nat), .int .i64 d3] 29) = w4 := ⟨_, rfl⟩
  rw [hw4] at HB4 s4 SA4 P4 hW4
  have hz4 := HB4.size
  obtain ⟨k, rfl⟩ : ∃ k, m3 = k + 1 := ⟨m3 - 1, by omega⟩
  rw [Nat.add_sub_cancel] at hrep
  have hk1 : IntKind.i64.wrap ((k : Int) + 1 - 1) = (k : Int) := by rw [Int.add_sub_cancel]; exact w64k (by omega) (by omega)
  have hk2 : IntKind.i64.wrap (k : Int) = (k : Int) := w64k (by omega) (by omega)
  have HS := Lib.hid (fun w' hb => show_yes w' g1 n1 zz1 (SA4.below (w' := w') hb) (hW4.below hb) T hT)
  have HZ := Lib.hid (fun w' hb => size_yes w' g1 n1 zz1 (SA4.below (w' := w') hb))
  have HS2 := Lib.hid (fun w' hb => HSh.out 0 A (k + 1) c3 (zz1 : Nat) d3 ps k _ w' (by omega) (P4.below (w' := w') hb) hrep)
  rw [hT] at HS2
  have HAW := Lib.hid (fun w' hb => sawake_any w' (hW4.below (w' := w') hb))
  have hyz : ((zz1 : Int) == (zz1 : Int)) = true := beq_self_eq_true _
  have HR := Below.refl w4.heap.size w4
  have hlt6 := s4.lt
  obtain ⟨u0, u1, u2, _⟩ := blk3 s4
  clear hT SA2 SA3 SA4 hpsA P4 hrep HSh hb3 HB3 hW2
  go_wp2_with fail
  refine wp_region_held_drew (S := (fun w' => w'.cell? ⟨w3.heap.size, 0, none⟩ = some (.slice A (k + 1) c3) ∧ w'.cell? ⟨w3.heap.size, 1, none⟩ = some (.int .i64 (zz1 : Nat)) ∧ w'.cell? ⟨w3.heap.size, 2, none⟩ = some (.int .i64 d3))) (by kernel_rfl) ?_ (fun hHeld => ?_)
  · replace s4 := Blk.drew s4; replace HR := Below.drew HR; (try dsimp only); exact ⟨s4.cell_ 0 rfl, s4.cell_ 1 rfl, s4.cell_ 2 rfl⟩
  replace s4 := Blk.drew s4
  replace HR := Below.drew HR
  have zHR := HR.size
  refine take_movev (v := ?vu1x0) 0 (Operand.tmp 3) rfl rfl (by first | exact .inl rfl | exact .inr rfl) rfl (by kernel_rfl) (by kernel_rfl) (by kernel_rfl) (fun _ _ _ h => h) (by assumption) ?yu1x0 ?ru1x0
  case yu1x0 => (go_simp; try (with_reducible rfl))
  simp only [List.setIfInBounds_toArray, List.set_cons_zero, List.set_cons_succ]
  refine take_op (v := ?vu1x2) 2 (Op.load 29 (Operand.tmp 6)) 29 rfl rfl rfl rfl rfl (by kernel_rfl) (by kernel_rfl) (by kernel_rfl) (fun _ _ _ h => h) ?yu1x2 (by assumption) ?ru1x2
  case yu1x2 => (intro w' hSw; (try dsimp only at hSw); go_simp; try (with_reducible rfl))
  simp only [List.setIfInBounds_toArray, List.set_cons_zero, List.set_cons_succ]
  refine take_op (v := ?vu1x3) 3 (Op.fieldAddr 29 (Operand.tmp 6) 0) 0 rfl rfl rfl rfl rfl (by kernel_rfl) (by kernel_rfl) (by kernel_rfl) (fun _ _ _ h => h) ?yu1x3 (by assumption) ?ru1x3
  case yu1x3 => (intro w' hSw; (try dsimp only at hSw); go_simp; try (with_reducible rfl))
  simp only [List.setIfInBounds_toArray, List.set_cons_zero, List.set_cons_succ]
  refine take_op (v := ?vu1x4) 4 (Op.load 27 (Operand.tmp 43)) 27 rfl rfl rfl rfl rfl (by kernel_rfl) (by kernel_rfl) (by kernel_rfl) (fun _ _ _ h => h) ?yu1x4 (by assumption) ?ru1x4
  case yu1x4 => (intro w' hSw; (try dsimp only at hSw); go_simp; try (with_reducible rfl))
  simp only [List.setIfInBounds_toArray, List.set_cons_zero, List.set_cons_succ]
  refine take_op (v := ?vu1x5) 5 (Op.call { callee := Callee.builtin Builtin.len, args := #[Operand.tmp 44], argTypes := #[27] }) 3 rfl rfl rfl rfl rfl (by kernel_rfl) (by kernel_rfl) (by kernel_rfl) (fun _ _ _ h => h) ?yu1x5 (by assumption) ?ru1x5
  case yu1x5 => (intro w' hSw; (try dsimp only at hSw); go_simp; try (with_reducible rfl))
  simp only [List.setIfInBounds_toArray, List.set_cons_zero, List.set_cons_succ]
  refine take_op (v := ?vu1x6) 6 (Op.binOp BinOp.sub 3 (Operand.tmp 45) (Operand.const (Value.int IntKind.i64 1)) 3) 3 rfl rfl rfl rfl rfl (by kernel_rfl) (by kernel_rfl) (by kernel_rfl) (fun _ _ _ h => h) ?yu1x6 (by assumption) ?ru1x6
  case yu1x6 => (intro w' hSw; (try dsimp only at hSw); go_simp; try (with_reducible rfl))
  simp only [List.setIfInBounds_toArray, List.set_cons_zero, List.set_cons_succ]
  refine wpAnyH_ready (rs := [1]) (by kernel_rfl) (by simp) (AllReadyH.cons rfl (fun K1 hK1 => ?ku1x1) AllReadyH.nil)
  refine take_calls 1 10 [Operand.tmp 40] #[23] rfl rfl (by kernel_rfl) (fun args w => run_enter Tryd.func10 (by kernel_rfl) rfl args w) ?_
  refine (HS.out _ HR).mono ?_
  rintro e w1 ⟨rfl, hb1⟩
  refine ⟨_, rfl, ?_⟩
  have z1 := hb1.size
  try simp only [World.size_drew] at z1
  replace s4 := Blk.below s4 hb1 (by first | exact Nat.le_refl _ | (simp only [World.size_alloc, World.size_setCell, World.size_drew] at *; omega) | omega)
  replace HR := HR.trans (hb1.mono (by first | exact HR.size | omega))
  have zHR1 := HR.size
  refine hK1.out _ _ ?su1x1 (fun hHeld => ?ru1x1)
  case su1x1 => ((try dsimp only); exact ⟨s4.cell_ 0 rfl, s4.cell_ 1 rfl, s4.cell_ 2 rfl⟩)
  try simp only [List.setIfInBounds_toArray, List.set_cons_zero, List.set_cons_succ]
  refine wpAnyH_ready (rs := [7]) (by kernel_rfl) (by simp) (AllReadyH.cons rfl (fun K7 hK7 => ?ku1x7) AllReadyH.nil)
  refine take_calls 7 11 [Operand.tmp 42, Operand.tmp 46, Operand.const (Value.int IntKind.i64 0)] #[29, 3, 3] rfl rfl (by kernel_rfl) (fun args w => run_enter Tryd.func11 (by kernel_rfl) rfl args w) ?_
  refine (HS2.out _ HR).mono ?_
  rintro e w7 ⟨rfl, hb7⟩
  refine ⟨_, rfl, ?_⟩
  have z7 := hb7.size
  try simp only [World.size_drew] at z7
  replace s4 := Blk.below s4 hb7 (by first | exact Nat.le_refl _ | (simp only [World.size_alloc, World.size_setCell, World.size_drew] at *; omega) | omega)
  replace HR := HR.trans (hb7.mono (by first | exact HR.size | omega))
  have zHR7 := HR.size
  refine hK7.out _ _ ?su1x7 (fun hHeld => ?ru1x7)
  case su1x7 => ((try dsimp only); exact ⟨s4.cell_ 0 rfl, s4.cell_ 1 rfl, s4.cell_ 2 rfl⟩)
  try simp only [List.setIfInBounds_toArray, List.set_cons_zero, List.set_cons_succ]
  refine take_op (v := ?vu1x8) 8 (Op.binOp BinOp.eql 9 (Operand.tmp 41) (Operand.tmp 47) 9) 4 rfl rfl rfl rfl rfl (by kernel_rfl) (by kernel_rfl) (by kernel_rfl) (fun _ _ _ h => h) ?yu1x8 (by assumption) ?ru1x8
  case yu1x8 => (intro w' hSw; (try dsimp only at hSw); go_simp; try (with_reducible rfl))
  simp only [List.setIfInBounds_toArray, List.set_cons_zero, List.set_cons_succ]
  refine take_movev (v := ?vu1x9) 9 (Operand.tmp 48) rfl rfl (by first | exact .inl rfl | exact .inr rfl) rfl (by kernel_rfl) (by kernel_rfl) (by kernel_rfl) (fun _ _ _ h => h) (by assumption) ?yu1x9 ?ru1x9
  case yu1x9 => (go_simp; try (with_reducible rfl))
  simp only [List.setIfInBounds_toArray, List.set_cons_zero, List.set_cons_succ]
  refine take_movev (v := ?vu1x10) 10 (Operand.tmp 3) rfl rfl (by first | exact .inl rfl | exact .inr rfl) rfl (by kernel_rfl) (by kernel_rfl) (by kernel_rfl) (fun _ _ _ h => h) (by assumption) ?yu1x10 ?ru1x10
  case yu1x10 => (go_simp; try (with_reducible rfl))
  simp only [List.setIfInBounds_toArray, List.set_cons_zero, List.set_cons_succ]
  refine take_op (v := ?vu1x12) 12 (Op.fieldAddr 29 (Operand.tmp 6) 1) 0 rfl rfl rfl rfl rfl (by kernel_rfl) (by kernel_rfl) (by kernel_rfl) (fun _ _ _ h => h) ?yu1x12 (by assumption) ?ru1x12
  case yu1x12 => (intro w' hSw; (try dsimp only at hSw); go_simp; try (with_reducible rfl))
  simp only [List.setIfInBounds_toArray, List.set_cons_zero, List.set_cons_succ]
  refine take_op (v := ?vu1x13) 13 (Op.load 3 (Operand.tmp 52)) 3 rfl rfl rfl rfl rfl (by kernel_rfl) (by kernel_rfl) (by kernel_rfl) (fun _ _ _ h => h) ?yu1x13 (by assumption) ?ru1x13
  case yu1x13 => (intro w' hSw; (try dsimp only at hSw); go_simp; try (with_reducible rfl))
  simp only [List.setIfInBounds_toArray, List.set_cons_zero, List.set_cons_succ]
  refine wpAnyH_ready (rs := [11]) (by kernel_rfl) (by simp) (AllReadyH.cons rfl (fun K11 hK11 => ?ku1x11) AllReadyH.nil)
  refine take_calls 11 12 [Operand.tmp 50] #[23] rfl rfl (by kernel_rfl) (fun args w => run_enter Tryd.func12 (by kernel_rfl) rfl args w) ?_
  refine (HZ.out _ HR).mono ?_
  rintro e w11 ⟨rfl, hb11⟩
  refine ⟨_, rfl, ?_⟩
  have z11 := hb11.size
  try simp only [World.size_drew] at z11
  replace s4 := Blk.below s4 hb11 (by first | exact Nat.le_refl _ | (simp only [World.size_alloc, World.size_setCell, World.size_drew] at *; omega) | omega)
  replace HR := HR.trans (hb11.mono (by first | exact HR.size | omega))
  have zHR11 := HR.size
  refine hK11.out _ _ ?su1x11 (fun hHeld => ?ru1x11)
  case su1x11 => ((try dsimp only); exact ⟨s4.cell_ 0 rfl, s4.cell_ 1 rfl, s4.cell_ 2 rfl⟩)
  try simp only [List.setIfInBounds_toArray, List.set_cons_zero, List.set_cons_succ]
  refine take_op (v := ?vu1x14) 14 (Op.binOp BinOp.eql 3 (Operand.tmp 51) (Operand.tmp 53) 3) 4 rfl rfl rfl rfl rfl (by kernel_rfl) (by kernel_rfl) (by kernel_rfl) (fun _ _ _ h => h) ?yu1x14 (by assumption) ?ru1x14
  case yu1x14 => (intro w' hSw; (try dsimp only at hSw); go_simp; try (with_reducible rfl))
  simp only [List.setIfInBounds_toArray, List.set_cons_zero, List.set_cons_succ]
  refine take_op (v := ?vu1x15) 15 (Op.pick (Operand.tmp 49) (Operand.tmp 54) (Operand.const (Value.bool false))) 4 rfl rfl rfl rfl rfl (by kernel_rfl) (by kernel_rfl) (by kernel_rfl) (fun _ _ _ h => h) ?yu1x15 (by assumption) ?ru1x15
  case yu1x15 => (intro w' hSw; (try dsimp only at hSw); go_simp; try (with_reducible rfl))
  simp only [List.setIfInBounds_toArray, List.set_cons_zero, List.set_cons_succ]
  refine take_movev (v := ?vu1x16) 16 (Operand.tmp 55) rfl rfl (by first | exact .inl rfl | exact .inr rfl) rfl (by kernel_rfl) (by kernel_rfl) (by kernel_rfl) (fun _ _ _ h => h) (by assumption) ?yu1x16 ?ru1x16
  case yu1x16 => (go_simp; try (with_reducible rfl))
  simp only [List.setIfInBounds_toArray, List.set_cons_zero, List.set_cons_succ]
  refine wpAnyH_ready (rs := [17]) (by kernel_rfl) (by simp) (AllReadyH.cons rfl (fun K17 hK17 => ?ku1x17) AllReadyH.nil)
  refine take_calls 17 7 [] #[] rfl rfl (by kernel_rfl) (fun args w => run_enter Tryd.func7 (by kernel_rfl) rfl args w) ?_
  refine (HAW.out _ HR).mono ?_
  rintro e w17 ⟨rfl, hb17⟩
  refine ⟨_, rfl, ?_⟩
  have z17 := hb17.size
  try simp only [World.size_drew] at z17
  replace s4 := Blk.below s4 hb17 (by first | exact Nat.le_refl _ | (simp only [World.size_alloc, World.size_setCell, World.size_drew] at *; omega) | omega)
  replace HR := HR.trans (hb17.mono (by first | exact HR.size | omega))
  have zHR17 := HR.size
  refine hK17.out _ _ ?su1x17 (fun hHeld => ?ru1x17)
  case su1x17 => ((try dsimp only); exact ⟨s4.cell_ 0 rfl, s4.cell_ 1 rfl, s4.cell_ 2 rfl⟩)
  try simp only [List.setIfInBounds_toArray, List.set_cons_zero, List.set_cons_succ]
  refine take_op (v := ?vu1x18) 18 (Op.pick (Operand.tmp 56) (Operand.tmp 57) (Operand.const (Value.bool false))) 4 rfl rfl rfl rfl rfl (by kernel_rfl) (by kernel_rfl) (by kernel_rfl) (fun _ _ _ h => h) ?yu1x18 (by assumption) ?ru1x18
  case yu1x18 => (intro w' hSw; (try dsimp only at hSw); go_simp; try (with_reducible rfl))
  simp only [List.setIfInBounds_toArray, List.set_cons_zero, List.set_cons_succ]
  refine take_op (v := ?vu1x19) 19 (Op.assign (Operand.tmp 58)) 4 rfl rfl rfl rfl rfl (by kernel_rfl) (by kernel_rfl) (by kernel_rfl) (fun _ _ _ h => h) ?yu1x19 (by assumption) ?ru1x19
  case yu1x19 => (intro w' hSw; (try dsimp only at hSw); go_simp; try (with_reducible rfl))
  simp only [List.setIfInBounds_toArray, List.set_cons_zero, List.set_cons_succ]
  refine wpAnyH_done (by kernel_rfl) ?_ _
  go_wp2_with fail
  go_ret
  exact ⟨rfl, HB4.trans (HR.mono HB4.size)⟩
theorem parses_card (s : ByteArray) (w : World) (h : WanW.Wo w) : Calls Tryd.prog 3 #[.string s] w fun e w' => e = .returned (.bool true) ∧ Below w.heap.size w w' := by
  obtain ⟨l, rfl, hl⟩ := str_of s
  exact parses_law l w h
end SieW
end Go.Proofs.YtdeiehgghhiijaaDoor
