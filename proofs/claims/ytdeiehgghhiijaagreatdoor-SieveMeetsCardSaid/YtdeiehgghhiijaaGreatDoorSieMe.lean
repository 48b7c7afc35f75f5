/- Walk of the statement on what meets a sentence (SieveMeets). -/
import Derived.Test.YtdeiehgghhiijaaGreatDoorSieYm
import Derived.Test.YtdeiehgghhiijaaGreatDoorSieL
namespace Go.Proofs.YtdeiehgghhiijaaGreatDoor
set_option linter.unusedVariables false
set_option linter.unusedSimpArgs false
set_option linter.unnecessarySimpa false
open Go.RowKit
namespace SieW
open WanW (w64k)
open SkpW (Me mc sM tM)

set_option maxRecDepth 100000 in
set_option maxHeartbeats 16000000 in
theorem meets_law (s : List UInt8) (q t : Int) (d : List UInt8) (m : Me) (hc : I64 m.count) (hf : I64 m.first) (w : World) (hW : WanW.Wo w) :
    Calls Tryz.prog 3 #[str s, rcv q t d, .agg (mc m)] w fun e w' => e = .returned (.bool true) ∧ Below w.heap.size w w' := by
  have HB1 := ((Below.refl w.heap.size w).alloc (Nat.le_refl _) (.cells #[.int .i64 q, .int .i64 t, str d] 23)).alloc (by simp) (.cells (mc m) 25)
  have b1 := (Blk.new w 23 #[.int .i64 q, .int .i64 t, str d]).alloc (.cells (mc m) 25)
  have m1 := Blk.new (w.alloc (.cells #[.int .i64 q, .int .i64 t, str d] 23)) 25 (mc m)
  simp only [World.size_alloc] at m1
  obtain ⟨w1, hw1⟩ : ∃ w1, (w.alloc (.cells #[.int .i64 q, .int .i64 t, str d] 23)).alloc (.cells (mc m) 25) = w1 := ⟨_, rfl⟩
  have hW1 := hW.below HB1
  rw [hw1] at HB1 b1 m1 hW1
  obtain ⟨c0, c1, c2, _⟩ := blk3 b1
  have hH1 := HB1.size
  have HA := Lib.hid (fun w h => sawake_any w h)
  by_cases hl : 1200 < s.length
  · have hI : (1200 : Int) < (s.length : Int) := by omega
    clear hl
    go_enter Tryz.func3, Tryz.ntmps3
    go_wp2_with fail
    refine (HA.out _ hW1).mono ?_
    rintro e w2 ⟨rfl, hb1⟩
    go_wp2_with fail
    go_ret
    exact ⟨rfl, HB1.trans (hb1.mono hH1)⟩
  have hI : ¬ (1200 : Int) < (s.length : Int) := by omega
  by_cases hd : 1000 < d.length
  · have hdI : (1000 : Int) < (d.length : Int) := by omega
    clear hl hd
    go_enter Tryz.func3, Tryz.ntmps3
    go_wp2_with fail
    refine (HA.out _ hW1).mono ?_
    rintro e w2 ⟨rfl, hb1⟩
    go_wp2_with fail
    go_ret
    exact ⟨rfl, HB1.trans (hb1.mono hH1)⟩
  have hdI : ¬ (1000 : Int) < (d.length : Int) := by omega
  obtain ⟨⟨r1, p1, e1⟩, h1⟩ : ∃ r, parseP s = r := ⟨_, rfl⟩
  have hd1 : d.length ≤ 100000 := by omega
  have HR := Lib.hid (fun w => refParse_any s w r1 p1 e1 h1 (by omega))
  cases r1 with
  | none =>
    have he : ¬ e1 = 0 := by rcases parse_err h1 with h | h <;> omega
    have heb : (e1 != 0) = true := by simp [he]
    have hee : (e1 == e1) = true := by simp
    have C1 := parse_no_any h1 w1 hW1 (by omega)
    clear h1 hl hd
    go_enter Tryz.func3, Tryz.ntmps3
    go_wp2_with fail
    refine C1.mono ?_
    clear C1
    rintro e w2 ⟨rfl, hb2⟩
    have HB2 := HB1.trans (hb2.mono hH1)
    have hW2 := hW1.below hb2
    have hz2 := HB2.size
    go_wp2_with fail
    refine (HR.out w2).mono ?_
    rintro e w3 ⟨A, m3, c3, z3, d3, rfl, _, hb3⟩
    have HB3 := HB2.trans (hb3.mono HB2.size)
    have hz3 := HB3.size
    have HB4 := HB3.alloc (by omega) (.cells #[.slice A m3 c3, .int .i64 z3, .int .i64 d3] 33)
    have hW4 := hW.below HB4
    clear c0 c1 c2 hb2 hb3
    go_wp2_with fail
    refine (HA.out _ hW4).mono ?_
    rintro e w5 ⟨rfl, hb5⟩
    go_wp2_with fail
    go_ret
    exact ⟨rfl, HB4.trans (hb5.mono HB4.size)⟩
  | some nz1 =>
  obtain ⟨n1, zz1⟩ := nz1
  obtain rfl := parse_fine h1
  obtain ⟨hwf, hsz, hsz2⟩ := parse_sv h1
  have C1 := parse_sv_any h1 w1 hW1 (by omega)
  obtain ⟨y1, hy1⟩ : ∃ y, meetN q t d n1 = y := ⟨_, rfl⟩
  obtain ⟨y2, hy2⟩ : ∃ y, mayN (sM m.count m.first) (tM m.count m.early m.late) n1 true = y := ⟨_, rfl⟩
  have HMe := Lib.hid (rme_any q t d hd1 n1 hwf (by omega))
  have HMa := Lib.hid (rma_any m hc hf n1 hwf (by omega))
  clear h1 hl hd hsz hsz2
  go_enter Tryz.func3, Tryz.ntmps3
  go_wp2_with fail
  refine C1.mono ?_
  clear C1
  rintro e w2 ⟨g1, rfl, SA2, hb2⟩
  have HB2 := HB1.trans (hb2.mono hH1)
  have hW2 := hW1.below hb2
  have b2 := b1.below hb2 b1.lt
  have m2 := m1.below hb2 m1.lt
  have hz2 := HB2.size
  clear c0 c1 c2 hb2 HB1 b1 m1
  go_wp2_with fail
  refine (HR.out w2).mono ?_
  clear HR
  rintro e w3 ⟨A, m3, c3, z3, d3, rfl, hps, hb3⟩
  obtain ⟨hzq, hmc, hm4, ps, hps, hm1, hrep⟩ := hps n1 zz1 rfl
  clear hzq
  have HB3 := HB2.trans (hb3.mono HB2.size)
  have b3 := b2.below hb3 b2.lt
  have m3' := m2.below hb3 m2.lt
  have SA3 := SA2.below hb3
  have hz3 := HB3.size
  have HB4 := HB3.alloc (by omega) (.cells #[.slice A m3 c3, .int .i64 z3, .int .i64 d3] 33)
  have b4 := b3.alloc (.cells #[.slice A m3 c3, .int .i64 z3, .int .i64 d3] 33)
  have m4 := m3'.alloc (.cells #[.slice A m3 c3, .int .i64 z3, .int .i64 d3] 33)
  have s4 := Blk.new w3 33 #[.slice A m3 c3, .int .i64 z3, .int .i64 d3]
  have SA4 := SA3.below (w' := w3.alloc (.cells #[.slice A m3 c3, .int .i64 z3, .int .i64 d3] 33)) ((Below.refl _ w3).alloc (Nat.le_refl _) _)
  have P4 := hps.below (w' := w3.alloc (.cells #[.slice A m3 c3, .int .i64 z3, .int .i64 d3] 33)) ((Below.refl _ w3).alloc (Nat.le_refl _) _)
  have hW4 := hW.below HB4
  obtain ⟨w4, hw4⟩ : ∃ w4, w3.alloc (.cells #[.slice A m3 c3, .int .i64 z3, .int .i64 d3] 33) = w4 := ⟨_, rfl⟩
  rw [hw4] at HB4 b4 m4 s4 SA4 P4 hW4
  have hz4 := HB4.size
  obtain ⟨k, rfl⟩ : ∃ k, m3 = k + 1 := ⟨m3 - 1, by omega⟩
  rw [Nat.add_sub_cancel] at hrep
  have hk1 : IntKind.i64.wrap ((k : Int) + 1 - 1) = (k : Int) := by rw [Int.add_sub_cancel]; exact w64k (by omega) (by omega)
  have hk2 : IntKind.i64.wrap (k : Int) = (k : Int) := w64k (by omega) (by omega)
  have HM1 := Lib.hid (fun w' hb => Meets_yes w' g1 n1 zz1 (SA4.below (w' := w') hb) q t d hd1 y1 hy1)
  have HB1' := Lib.hid (fun w' hb => Block_yes w' g1 n1 zz1 (SA4.below (w' := w') hb) m hc hf y2 hy2)
  have HM2 := Lib.hid (fun w' hb => HMe.out A (k + 1) c3 z3 d3 ps k _ w' (P4.below (w' := w') hb) hrep)
  have HM3 := Lib.hid (fun w' hb => HMa.out false A (k + 1) c3 z3 d3 ps k _ w' (P4.below (w' := w') hb) hrep)
  rw [hy1] at HM2
  rw [show (!false) = true from rfl, hy2] at HM3
  have HAW := Lib.hid (fun w' hb => sawake_any w' (hW4.below (w' := w') hb))
  have hyy : (y1 == y1) = true := beq_self_eq_true _
  have hyz : (y2 == y2) = true := beq_self_eq_true _
  have HR := Below.refl w4.heap.size w4
  have hlt4 := b4.lt
  have hlt5 := m4.lt
  have hlt6 := s4.lt
  obtain ⟨x0, x1, x2, _⟩ := blk3 b4
  obtain ⟨u0, u1, u2, _⟩ := blk3 s4
  clear hy1 hy2 SA2 SA3 SA4 hps P4 hrep HMe HMa hb3 HB2 HB3 b2 b3 m2 m3' hW1 hW2
  go_wp2_with fail
  refine wp_region_held_drew (S := (fun w' => w'.cell? ⟨w.heap.size, 0, none⟩ = some (.int .i64 q) ∧ w'.cell? ⟨w.heap.size, 1, none⟩ = some (.int .i64 t) ∧ w'.cell? ⟨w.heap.size, 2, none⟩ = some (str d) ∧ w'.cell? ⟨w3.heap.size, 0, none⟩ = some (.slice A (k + 1) c3) ∧ w'.cell? ⟨w3.heap.size, 1, none⟩ = some (.int .i64 z3) ∧ w'.cell? ⟨w3.heap.size, 2, none⟩ = some (.int .i64 d3) ∧ w'.cell? ⟨w.heap.size + 1, 0, none⟩ = some (.int .i64 m.at_) ∧ w'.cell? ⟨w.heap.size + 1, 1, none⟩ = some (.int .i64 m.size) ∧ w'.cell? ⟨w.heap.size + 1, 2, none⟩ = some (.int .i64 m.raw) ∧ w'.cell? ⟨w.heap.size + 1, 3, none⟩ = some (.int .i64 m.count) ∧ w'.cell? ⟨w.heap.size + 1, 4, none⟩ = some (.int .i64 m.first) ∧ w'.cell? ⟨w.heap.size + 1, 5, none⟩ = some (.int .i64 m.early) ∧ w'.cell? ⟨w.heap.size + 1, 6, none⟩ = some (.int .i64 m.late))) (by kernel_rfl) ?_ (fun hHeld => ?_)
  · replace b4 := Blk.drew b4; replace s4 := Blk.drew s4; replace m4 := Blk.drew m4; replace HR := Below.drew HR; (try dsimp only); exact ⟨b4.cell_ 0 rfl, b4.cell_ 1 rfl, b4.cell_ 2 rfl, s4.cell_ 0 rfl, s4.cell_ 1 rfl, s4.cell_ 2 rfl, m4.cell_ 0 rfl, m4.cell_ 1 rfl, m4.cell_ 2 rfl, m4.cell_ 3 rfl, m4.cell_ 4 rfl, m4.cell_ 5 rfl, m4.cell_ 6 rfl⟩
  replace b4 := Blk.drew b4
  replace s4 := Blk.drew s4
  replace m4 := Blk.drew m4
  replace HR := Below.drew HR
  have zHR := HR.size
  refine take_movev (v := ?vu1x0) 0 (Operand.tmp 7) rfl rfl (by first | exact .inl rfl | exact .inr rfl) rfl (by kernel_rfl) (by kernel_rfl) (by kernel_rfl) (fun _ _ _ h => h) (by assumption) ?yu1x0 ?ru1x0
  case yu1x0 => (go_simp; try (with_reducible rfl))
  simp only [List.setIfInBounds_toArray, List.set_cons_zero, List.set_cons_succ]
  refine take_op (v := ?vu1x1) 1 (Op.load 23 (Operand.tmp 4)) 23 rfl rfl rfl rfl rfl (by kernel_rfl) (by kernel_rfl) (by kernel_rfl) (fun _ _ _ h => h) ?yu1x1 (by assumption) ?ru1x1
  case yu1x1 => (intro w' hSw; (try dsimp only at hSw); go_simp; try (with_reducible rfl))
  simp only [List.setIfInBounds_toArray, List.set_cons_zero, List.set_cons_succ]
  refine take_op (v := ?vu1x3) 3 (Op.load 33 (Operand.tmp 10)) 33 rfl rfl rfl rfl rfl (by kernel_rfl) (by kernel_rfl) (by kernel_rfl) (fun _ _ _ h => h) ?yu1x3 (by assumption) ?ru1x3
  case yu1x3 => (intro w' hSw; (try dsimp only at hSw); go_simp; try (with_reducible rfl))
  simp only [List.setIfInBounds_toArray, List.set_cons_zero, List.set_cons_succ]
  refine take_movev (v := ?vu1x4) 4 (Operand.tmp 13) rfl rfl (by first | exact .inl rfl | exact .inr rfl) rfl (by kernel_rfl) (by kernel_rfl) (by kernel_rfl) (fun _ _ _ h => h) (by assumption) ?yu1x4 ?ru1x4
  case yu1x4 => (go_simp; try (with_reducible rfl))
  simp only [List.setIfInBounds_toArray, List.set_cons_zero, List.set_cons_succ]
  refine take_op (v := ?vu1x5) 5 (Op.load 23 (Operand.tmp 4)) 23 rfl rfl rfl rfl rfl (by kernel_rfl) (by kernel_rfl) (by kernel_rfl) (fun _ _ _ h => h) ?yu1x5 (by assumption) ?ru1x5
  case yu1x5 => (intro w' hSw; (try dsimp only at hSw); go_simp; try (with_reducible rfl))
  simp only [List.setIfInBounds_toArray, List.set_cons_zero, List.set_cons_succ]
  refine wpAnyH_ready (rs := [2]) (by kernel_rfl) (by simp) (AllReadyH.cons rfl (fun K2 hK2 => ?ku1x2) AllReadyH.nil)
  refine take_calls 2 7 [Operand.tmp 52, Operand.tmp 53] #[27, 23] rfl rfl (by kernel_rfl) (fun args w => run_enter Tryz.func7 (by kernel_rfl) rfl args w) ?_
  refine (HM1.out _ HR).mono ?_
  rintro e w2 ⟨rfl, hb2⟩
  refine ⟨_, rfl, ?_⟩
  have z2 := hb2.size
  try simp only [World.size_drew] at z2
  replace b4 := Blk.below b4 hb2 (by first | exact Nat.le_refl _ | (simp only [World.size_alloc, World.size_setCell, World.size_drew] at *; omega) | omega)
  replace s4 := Blk.below s4 hb2 (by first | exact Nat.le_refl _ | (simp only [World.size_alloc, World.size_setCell, World.size_drew] at *; omega) | omega)
  replace m4 := Blk.below m4 hb2 (by first | exact Nat.le_refl _ | (simp only [World.size_alloc, World.size_setCell, World.size_drew] at *; omega) | omega)
  replace HR := HR.trans (hb2.mono (by first | exact HR.size | omega))
  have zHR2 := HR.size
  refine hK2.out _ _ ?su1x2 (fun hHeld => ?ru1x2)
  case su1x2 => ((try dsimp only); exact ⟨b4.cell_ 0 rfl, b4.cell_ 1 rfl, b4.cell_ 2 rfl, s4.cell_ 0 rfl, s4.cell_ 1 rfl, s4.cell_ 2 rfl, m4.cell_ 0 rfl, m4.cell_ 1 rfl, m4.cell_ 2 rfl, m4.cell_ 3 rfl, m4.cell_ 4 rfl, m4.cell_ 5 rfl, m4.cell_ 6 rfl⟩)
  try simp only [List.setIfInBounds_toArray, List.set_cons_zero, List.set_cons_succ]
  refine wpAnyH_ready (rs := [6]) (by kernel_rfl) (by simp) (AllReadyH.cons rfl (fun K6 hK6 => ?ku1x6) AllReadyH.nil)
  refine take_calls 6 8 [Operand.tmp 55, Operand.tmp 56, Operand.tmp 57] #[33, 3, 23] rfl rfl (by kernel_rfl) (fun args w => run_enter Tryz.func8 (by kernel_rfl) rfl args w) ?_
  refine (HM2.out _ HR).mono ?_
  rintro e w6 ⟨rfl, hb6⟩
  refine ⟨_, rfl, ?_⟩
  have z6 := hb6.size
  try simp only [World.size_drew] at z6
  replace b4 := Blk.below b4 hb6 (by first | exact Nat.le_refl _ | (simp only [World.size_alloc, World.size_setCell, World.size_drew] at *; omega) | omega)
  replace s4 := Blk.below s4 hb6 (by first | exact Nat.le_refl _ | (simp only [World.size_alloc, World.size_setCell, World.size_drew] at *; omega) | omega)
  replace m4 := Blk.below m4 hb6 (by first | exact Nat.le_refl _ | (simp only [World.size_alloc, World.size_setCell, World.size_drew] at *; omega) | omega)
  replace HR := HR.trans (hb6.mono (by first | exact HR.size | omega))
  have zHR6 := HR.size
  refine hK6.out _ _ ?su1x6 (fun hHeld => ?ru1x6)
  case su1x6 => ((try dsimp only); exact ⟨b4.cell_ 0 rfl, b4.cell_ 1 rfl, b4.cell_ 2 rfl, s4.cell_ 0 rfl, s4.cell_ 1 rfl, s4.cell_ 2 rfl, m4.cell_ 0 rfl, m4.cell_ 1 rfl, m4.cell_ 2 rfl, m4.cell_ 3 rfl, m4.cell_ 4 rfl, m4.cell_ 5 rfl, m4.cell_ 6 rfl⟩)
  try simp only [List.setIfInBounds_toArray, List.set_cons_zero, List.set_cons_succ]
  refine take_op (v := ?vu1x7) 7 (Op.binOp BinOp.eql 4 (Operand.tmp 54) (Operand.tmp 58) 4) 4 rfl rfl rfl rfl rfl (by kernel_rfl) (by kernel_rfl) (by kernel_rfl) (fun _ _ _ h => h) ?yu1x7 (by assumption) ?ru1x7
  case yu1x7 => (intro w' hSw; (try dsimp only at hSw); go_simp; try (with_reducible rfl))
  simp only [List.setIfInBounds_toArray, List.set_cons_zero, List.set_cons_succ]
  refine take_movev (v := ?vu1x8) 8 (Operand.tmp 59) rfl rfl (by first | exact .inl rfl | exact .inr rfl) rfl (by kernel_rfl) (by kernel_rfl) (by kernel_rfl) (fun _ _ _ h => h) (by assumption) ?yu1x8 ?ru1x8
  case yu1x8 => (go_simp; try (with_reducible rfl))
  simp only [List.setIfInBounds_toArray, List.set_cons_zero, List.set_cons_succ]
  refine take_movev (v := ?vu1x9) 9 (Operand.tmp 7) rfl rfl (by first | exact .inl rfl | exact .inr rfl) rfl (by kernel_rfl) (by kernel_rfl) (by kernel_rfl) (fun _ _ _ h => h) (by assumption) ?yu1x9 ?ru1x9
  case yu1x9 => (go_simp; try (with_reducible rfl))
  simp only [List.setIfInBounds_toArray, List.set_cons_zero, List.set_cons_succ]
  refine take_op (v := ?vu1x10) 10 (Op.load 25 (Operand.tmp 5)) 25 rfl rfl rfl rfl rfl (by kernel_rfl) (by kernel_rfl) (by kernel_rfl) (fun _ _ _ h => h) ?yu1x10 (by assumption) ?ru1x10
  case yu1x10 => (intro w' hSw; (try dsimp only at hSw); go_simp; try (with_reducible rfl))
  simp only [List.setIfInBounds_toArray, List.set_cons_zero, List.set_cons_succ]
  refine take_op (v := ?vu1x12) 12 (Op.load 33 (Operand.tmp 10)) 33 rfl rfl rfl rfl rfl (by kernel_rfl) (by kernel_rfl) (by kernel_rfl) (fun _ _ _ h => h) ?yu1x12 (by assumption) ?ru1x12
  case yu1x12 => (intro w' hSw; (try dsimp only at hSw); go_simp; try (with_reducible rfl))
  simp only [List.setIfInBounds_toArray, List.set_cons_zero, List.set_cons_succ]
  refine take_movev (v := ?vu1x13) 13 (Operand.tmp 13) rfl rfl (by first | exact .inl rfl | exact .inr rfl) rfl (by kernel_rfl) (by kernel_rfl) (by kernel_rfl) (fun _ _ _ h => h) (by assumption) ?yu1x13 ?ru1x13
  case yu1x13 => (go_simp; try (with_reducible rfl))
  simp only [List.setIfInBounds_toArray, List.set_cons_zero, List.set_cons_succ]
  refine take_op (v := ?vu1x14) 14 (Op.load 25 (Operand.tmp 5)) 25 rfl rfl rfl rfl rfl (by kernel_rfl) (by kernel_rfl) (by kernel_rfl) (fun _ _ _ h => h) ?yu1x14 (by assumption) ?ru1x14
  case yu1x14 => (intro w' hSw; (try dsimp only at hSw); go_simp; try (with_reducible rfl))
  simp only [List.setIfInBounds_toArray, List.set_cons_zero, List.set_cons_succ]
  refine wpAnyH_ready (rs := [11]) (by kernel_rfl) (by simp) (AllReadyH.cons rfl (fun K11 hK11 => ?ku1x11) AllReadyH.nil)
  refine take_calls 11 9 [Operand.tmp 61, Operand.tmp 62] #[27, 25] rfl rfl (by kernel_rfl) (fun args w => run_enter Tryz.func9 (by kernel_rfl) rfl args w) ?_
  refine (HB1'.out _ HR).mono ?_
  rintro e w11 ⟨rfl, hb11⟩
  refine ⟨_, rfl, ?_⟩
  have z11 := hb11.size
  try simp only [World.size_drew] at z11
  replace b4 := Blk.below b4 hb11 (by first | exact Nat.le_refl _ | (simp only [World.size_alloc, World.size_setCell, World.size_drew] at *; omega) | omega)
  replace s4 := Blk.below s4 hb11 (by first | exact Nat.le_refl _ | (simp only [World.size_alloc, World.size_setCell, World.size_drew] at *; omega) | omega)
  replace m4 := Blk.below m4 hb11 (by first | exact Nat.le_refl _ | (simp only [World.size_alloc, World.size_setCell, World.size_drew] at *; omega) | omega)
  replace HR := HR.trans (hb11.mono (by first | exact HR.size | omega))
  have zHR11 := HR.size
  refine hK11.out _ _ ?su1x11 (fun hHeld => ?ru1x11)
  case su1x11 => ((try dsimp only); exact ⟨b4.cell_ 0 rfl, b4.cell_ 1 rfl, b4.cell_ 2 rfl, s4.cell_ 0 rfl, s4.cell_ 1 rfl, s4.cell_ 2 rfl, m4.cell_ 0 rfl, m4.cell_ 1 rfl, m4.cell_ 2 rfl, m4.cell_ 3 rfl, m4.cell_ 4 rfl, m4.cell_ 5 rfl, m4.cell_ 6 rfl⟩)
  try simp only [List.setIfInBounds_toArray, List.set_cons_zero, List.set_cons_succ]
  refine wpAnyH_ready (rs := [15]) (by kernel_rfl) (by simp) (AllReadyH.cons rfl (fun K15 hK15 => ?ku1x15) AllReadyH.nil)
  refine take_calls 15 10 [Operand.tmp 64, Operand.tmp 65, Operand.tmp 66, Operand.const (Value.bool false)] #[33, 3, 25, 4] rfl rfl (by kernel_rfl) (fun args w => run_enter Tryz.func10 (by kernel_rfl) rfl args w) ?_
  refine (HM3.out _ HR).mono ?_
  rintro e w15 ⟨rfl, hb15⟩
  refine ⟨_, rfl, ?_⟩
  have z15 := hb15.size
  try simp only [World.size_drew] at z15
  replace b4 := Blk.below b4 hb15 (by first | exact Nat.le_refl _ | (simp only [World.size_alloc, World.size_setCell, World.size_drew] at *; omega) | omega)
  replace s4 := Blk.below s4 hb15 (by first | exact Nat.le_refl _ | (simp only [World.size_alloc, World.size_setCell, World.size_drew] at *; omega) | omega)
  replace m4 := Blk.below m4 hb15 (by first | exact Nat.le_refl _ | (simp only [World.size_alloc, World.size_setCell, World.size_drew] at *; omega) | omega)
  replace HR := HR.trans (hb15.mono (by first | exact HR.size | omega))
  have zHR15 := HR.size
  refine hK15.out _ _ ?su1x15 (fun hHeld => ?ru1x15)
  case su1x15 => ((try dsimp only); exact ⟨b4.cell_ 0 rfl, b4.cell_ 1 rfl, b4.cell_ 2 rfl, s4.cell_ 0 rfl, s4.cell_ 1 rfl, s4.cell_ 2 rfl, m4.cell_ 0 rfl, m4.cell_ 1 rfl, m4.cell_ 2 rfl, m4.cell_ 3 rfl, m4.cell_ 4 rfl, m4.cell_ 5 rfl, m4.cell_ 6 rfl⟩)
  try simp only [List.setIfInBounds_toArray, List.set_cons_zero, List.set_cons_succ]
  refine take_op (v := ?vu1x16) 16 (Op.binOp BinOp.eql 4 (Operand.tmp 63) (Operand.tmp 67) 4) 4 rfl rfl rfl rfl rfl (by kernel_rfl) (by kernel_rfl) (by kernel_rfl) (fun _ _ _ h => h) ?yu1x16 (by assumption) ?ru1x16
  case yu1x16 => (intro w' hSw; (try dsimp only at hSw); go_simp; try (with_reducible rfl))
  simp only [List.setIfInBounds_toArray, List.set_cons_zero, List.set_cons_succ]
  refine take_op (v := ?vu1x17) 17 (Op.pick (Operand.tmp 60) (Operand.tmp 68) (Operand.const (Value.bool false))) 4 rfl rfl rfl rfl rfl (by kernel_rfl) (by kernel_rfl) (by kernel_rfl) (fun _ _ _ h => h) ?yu1x17 (by assumption) ?ru1x17
  case yu1x17 => (intro w' hSw; (try dsimp only at hSw); go_simp; try (with_reducible rfl))
  simp only [List.setIfInBounds_toArray, List.set_cons_zero, List.set_cons_succ]
  refine take_movev (v := ?vu1x18) 18 (Operand.tmp 69) rfl rfl (by first | exact .inl rfl | exact .inr rfl) rfl (by kernel_rfl) (by kernel_rfl) (by kernel_rfl) (fun _ _ _ h => h) (by assumption) ?yu1x18 ?ru1x18
  case yu1x18 => (go_simp; try (with_reducible rfl))
  simp only [List.setIfInBounds_toArray, List.set_cons_zero, List.set_cons_succ]
  refine wpAnyH_ready (rs := [19]) (by kernel_rfl) (by simp) (AllReadyH.cons rfl (fun K19 hK19 => ?ku1x19) AllReadyH.nil)
  refine take_calls 19 4 [] #[] rfl rfl (by kernel_rfl) (fun args w => run_enter Tryz.func4 (by kernel_rfl) rfl args w) ?_
  refine (HAW.out _ HR).mono ?_
  rintro e w19 ⟨rfl, hb19⟩
  refine ⟨_, rfl, ?_⟩
  have z19 := hb19.size
  try simp only [World.size_drew] at z19
  replace b4 := Blk.below b4 hb19 (by first | exact Nat.le_refl _ | (simp only [World.size_alloc, World.size_setCell, World.size_drew] at *; omega) | omega)
  replace s4 := Blk.below s4 hb19 (by first | exact Nat.le_refl _ | (simp only [World.size_alloc, World.size_setCell, World.size_drew] at *; omega) | omega)
  replace m4 := Blk.below m4 hb19 (by first | exact Nat.le_refl _ | (simp only [World.size_alloc, World.size_setCell, World.size_drew] at *; omega) | omega)
  replace HR := HR.trans (hb19.mono (by first | exact HR.size | omega))
  have zHR19 := HR.size
  refine hK19.out _ _ ?su1x19 (fun hHeld => ?ru1x19)
  case su1x19 => ((try dsimp only); exact ⟨b4.cell_ 0 rfl, b4.cell_ 1 rfl, b4.cell_ 2 rfl, s4.cell_ 0 rfl, s4.cell_ 1 rfl, s4.cell_ 2 rfl, m4.cell_ 0 rfl, m4.cell_ 1 rfl, m4.cell_ 2 rfl, m4.cell_ 3 rfl, m4.cell_ 4 rfl, m4.cell_ 5 rfl, m4.cell_ 6 rfl⟩)
  try simp only [List.setIfInBounds_toArray, List.set_cons_zero, List.set_cons_succ]
  refine take_op (v := ?vu1x20) 20 (Op.pick (Operand.tmp 70) (Operand.tmp 71) (Operand.const (Value.bool false))) 4 rfl rfl rfl rfl rfl (by kernel_rfl) (by kernel_rfl) (by kernel_rfl) (fun _ _ _ h => h) ?yu1x20 (by assumption) ?ru1x20
  case yu1x20 => (intro w' hSw; (try dsimp only at hSw); go_simp; try (with_reducible rfl))
  simp only [List.setIfInBounds_toArray, List.set_cons_zero, List.set_cons_succ]
  refine take_op (v := ?vu1x21) 21 (Op.assign (Operand.tmp 72)) 4 rfl rfl rfl rfl rfl (by kernel_rfl) (by kernel_rfl) (by kernel_rfl) (fun _ _ _ h => h) ?yu1x21 (by assumption) ?ru1x21
  case yu1x21 => (intro w' hSw; (try dsimp only at hSw); go_simp; try (with_reducible rfl))
  simp only [List.setIfInBounds_toArray, List.set_cons_zero, List.set_cons_succ]
  refine wpAnyH_done (by kernel_rfl) ?_ _
  go_wp2_with fail
  go_ret
  exact ⟨rfl, HB4.trans (HR.mono HB4.size)⟩
end SieW
end Go.Proofs.YtdeiehgghhiijaaGreatDoor
