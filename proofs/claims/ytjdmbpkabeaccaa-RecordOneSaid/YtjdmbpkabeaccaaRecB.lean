/- The law of package record on one record: its walk. -/
import Derived.Test.YtjdmbpkabeaccaaRecA
import Derived.Test.YtjdmbpkabeaccaaOpenR
import Derived.Test.YtjdmbpkabeaccaaReg2
namespace Go.Proofs.Ytjdmbpkabeaccaa
set_option linter.unusedVariables false
set_option linter.unusedSimpArgs false
set_option linter.unnecessarySimpa false
open Go.RowKit Go.ChangeShapes Go.WideShapes Go.Deep
namespace RecW

theorem few_one (r : Rc) (b : Bool) (h : decide (r.2.2.length ≤ 3000) = b) : fewB [r] = b := by
  subst h
  simp [fewB]
theorem rec9 {w : World} {g1 g2 g3 : Nat} {t : TypeId} {a1 b1 c1 a2 b2 c2 a3 b3 c3 : Value} (h1 : Blk w g1 t #[a1, b1, c1]) (h2 : Blk w g2 t #[a2, b2, c2]) (h3 : Blk w g3 t #[a3, b3, c3]) :
    w.cell? ⟨g1, 0, none⟩ = some a1 ∧ w.cell? ⟨g1, 1, none⟩ = some b1 ∧ w.cell? ⟨g1, 2, none⟩ = some c1 ∧ w.cell? ⟨g2, 0, none⟩ = some a2 ∧ w.cell? ⟨g2, 1, none⟩ = some b2 ∧ w.cell? ⟨g2, 2, none⟩ = some c2 ∧ w.cell? ⟨g3, 0, none⟩ = some a3 ∧ w.cell? ⟨g3, 1, none⟩ = some b3 ∧ w.cell? ⟨g3, 2, none⟩ = some c3 :=
  ⟨h1.cell_ 0 rfl, h1.cell_ 1 rfl, h1.cell_ 2 rfl, h2.cell_ 0 rfl, h2.cell_ 1 rfl, h2.cell_ 2 rfl, h3.cell_ 0 rfl, h3.cell_ 1 rfl, h3.cell_ 2 rfl⟩

set_option maxRecDepth 100000 in
set_option maxHeartbeats 4000000 in
theorem one_law (a b : Int) (d s : ByteArray) (at_ : Int) (w : World) (hd : d.size ≤ maxLen) (hs : s.size ≤ maxLen) :
    Calls Try.prog 12 #[.agg #[.int .i64 a, .int .i64 b, .string d], .string s, .int .i64 at_] w fun e w' => e = .returned (.bool true) ∧ Below w.heap.size w w' := by
  obtain ⟨d, rfl, hdl⟩ := str_of d
  obtain ⟨m, rfl, hml⟩ := str_of s
  rw [← hdl] at hd
  rw [← hml] at hs
  clear hdl hml
  unfold maxLen at hd hs
  have b1 := Blk.new w 72 #[.int .i64 a, .int .i64 b, str d]
  have HB : Below w.heap.size w (w.alloc (.cells #[.int .i64 a, .int .i64 b, str d] 72)) := (by first | exact Below.refl _ _ | (repeat (first | exact Below.refl _ _ | assumption | refine Below.drew ?_ | refine Below.drewN_ ?_ _ | refine Below.alloc ?_ (by first | exact Nat.le_refl _ | (simp; done) | (simp; omega) | omega) _ | refine Below.setCell ?_ (by first | exact Nat.le_refl _ | (simp; done) | (simp; omega) | omega) _ | (refine Below.trans ?_ (Below.mono (by assumption) (by first | exact Nat.le_refl _ | (simp; done) | (simp; omega) | omega))))))
  have rr := (rd_new (W0 := w.alloc (.cells #[.int .i64 a, .int .i64 b, str d] 72)) (t := 72) (cs := rcells [(a, b, d)]) (size := 3) (m := 1) rfl rfl)
  have CF := fun v hv => few_any (some ⟨w.heap.size + 1, 0, none⟩) 1 1 [(a, b, d)] v hv ((w.alloc (.cells #[.int .i64 a, .int .i64 b, str d] 72)).alloc (.cells #[.int .i64 a, .int .i64 b, str d] 72)) (by rw [World.size_alloc] at rr; exact rr.more (by simp)) (by omega) (by intro r hr; simp at hr; subst hr; exact hd)
  have b1a := b1.alloc (.cells #[.int .i64 a, .int .i64 b, str d] 72)
  have HBa := HB.alloc HB.size (.cells #[.int .i64 a, .int .i64 b, str d] 72)
  have HF := Lib.hid CF
  clear CF rr
  by_cases hf : d.length ≤ 3000
  · by_cases hm : 5000 < m.length
    · have hmI : (5000 : Int) < (m.length : Int) := by omega
      clear b1 HB
      go_enter Try.func12, Try.ntmps12
      go_wp2_with fail
      refine (HF.out true (few_one _ _ (decide_eq_true hf))).mono ?_
      rintro e w1 ⟨rfl, hb1⟩
      replace HBa := HBa.trans (hb1.mono HBa.size)
      go_wp2_with fail
      refine (awake_any _).mono ?_
      rintro e w2 ⟨rfl, hb2⟩
      go_wp2_with fail
      go_ret
      exact ⟨rfl, HBa.trans (hb2.mono HBa.size)⟩
    · have hmI : ¬ (5000 : Int) < (m.length : Int) := by omega
      have C1 := fun w => getR_any m at_ w (by omega) _ rfl
      have C2 := fun w => refGetR_any m at_ w (by omega) _ rfl
      obtain ⟨⟨⟨ra, rb, rd⟩, to, er⟩, hz⟩ : ∃ z, getR m at_ = z := ⟨_, rfl⟩
      rw [hz] at C1 C2
      clear hz
      have H1 := Lib.hid C1
      have H2 := Lib.hid C2
      clear C1 C2 b1 HB
      have CP := fun w => putR_any (a, b, d) w
      have CQ := fun w => refPutR_any (a, b, d) w
      have CS := fun w => size_any (a, b, d) w
      have CT := fun w => refSize_any (a, b, d) w
      have CU := fun w => check_any (a, b, d) _ rfl w
      have CV := fun w => refCheck_any (a, b, d) _ rfl w
      generalize putRN (a, b, d) = pn at *
      generalize chkR (a, b, d) = ck at *
      generalize sizeN (a, b, d) = sz at *
      have H3 := Lib.hid CP
      have H4 := Lib.hid CQ
      have H5 := Lib.hid CS
      have H6 := Lib.hid CT
      have H7 := Lib.hid CU
      have H8 := Lib.hid CV
      clear CP CQ CS CT CU CV
      go_enter Try.func12, Try.ntmps12
      go_wp2_with fail
      refine (HF.out true (few_one _ _ (decide_eq_true hf))).mono ?_
      rintro e w1 ⟨rfl, hb1⟩
      have g1 := b1a.below hb1 b1a.lt
      have HB := HBa.trans (hb1.mono HBa.size)
      clear hb1 b1a HBa
      have g1' := g1
      obtain ⟨k0, k1, k2, _, _, _, _⟩ := blk3 g1'
      clear g1'
      go_wp2_with fail
      refine (H3.out _).mono ?_
      rintro e w2 ⟨rfl, hb2⟩
      replace g1 := g1.below hb2 g1.lt
      replace HB := HB.trans (hb2.mono HB.size)
      clear hb2 k0 k1 k2
      have g1' := g1
      obtain ⟨k0, k1, k2, _, _, _, _⟩ := blk3 g1'
      clear g1'
      go_wp2_with fail
      refine (H4.out _).mono ?_
      rintro e w3 ⟨rfl, hb3⟩
      replace g1 := g1.below hb3 g1.lt
      replace HB := HB.trans (hb3.mono HB.size)
      clear hb3 k0 k1 k2
      go_wp2_with fail
      refine (H1.out _).mono ?_
      rintro e w4 ⟨rfl, hb4⟩
      replace g1 := g1.below hb4 g1.lt
      replace HB := HB.trans (hb4.mono HB.size)
      clear hb4
      go_wp2_with fail
      have g2 := Blk.new w4 72 #[.int .i64 ra, .int .i64 rb, str rd]
      replace g1 := g1.alloc (.cells #[.int .i64 ra, .int .i64 rb, str rd] 72)
      replace HB := HB.alloc HB.size (.cells #[.int .i64 ra, .int .i64 rb, str rd] 72)
      refine (H2.out _).mono ?_
      rintro e w5 ⟨rfl, hb5⟩
      replace g1 := g1.below hb5 g1.lt
      replace g2 := g2.below hb5 g2.lt
      replace HB := HB.trans (hb5.mono HB.size)
      clear hb5
      go_wp2_with fail
      have g3 := Blk.new w5 72 #[.int .i64 ra, .int .i64 rb, str rd]
      replace g1 := g1.alloc (.cells #[.int .i64 ra, .int .i64 rb, str rd] 72)
      replace g2 := g2.alloc (.cells #[.int .i64 ra, .int .i64 rb, str rd] 72)
      replace HB := HB.alloc HB.size (.cells #[.int .i64 ra, .int .i64 rb, str rd] 72)
      generalize hg2 : w4.heap.size = q2 at *
      generalize hg3 : w5.heap.size = q3 at *
      generalize w5.alloc (.cells #[.int .i64 ra, .int .i64 rb, str rd] 72) = w6 at *
      clear hg2 hg3
      have zHB := HB.size
      have zq1 := g1.lt
      have zq2 := g2.lt
      have zq3 := g3.lt
      refine wp_region_held_drew (S := (fun w' => w'.cell? ⟨w.heap.size, 0, none⟩ = some (.int .i64 a) ∧ w'.cell? ⟨w.heap.size, 1, none⟩ = some (.int .i64 b) ∧ w'.cell? ⟨w.heap.size, 2, none⟩ = some (str d) ∧ w'.cell? ⟨q2, 0, none⟩ = some (.int .i64 ra) ∧ w'.cell? ⟨q2, 1, none⟩ = some (.int .i64 rb) ∧ w'.cell? ⟨q2, 2, none⟩ = some (str rd) ∧ w'.cell? ⟨q3, 0, none⟩ = some (.int .i64 ra) ∧ w'.cell? ⟨q3, 1, none⟩ = some (.int .i64 rb) ∧ w'.cell? ⟨q3, 2, none⟩ = some (str rd))) (by kernel_rfl) ?_ (fun hHeld => ?_)
      · replace HB := Below.drew HB; replace g1 := Blk.drew g1; replace g2 := Blk.drew g2; replace g3 := Blk.drew g3; (try dsimp only); exact rec9 g1 g2 g3
      replace HB := Below.drew HB
      replace g1 := Blk.drew g1
      replace g2 := Blk.drew g2
      replace g3 := Blk.drew g3
      have zHB := HB.size
      refine take_op (v := ?vu1x0) 0 (Op.load 72 (Operand.tmp 3)) 72 rfl rfl rfl rfl rfl (by kernel_rfl) (by kernel_rfl) (by kernel_rfl) (fun _ _ _ h => h) ?yu1x0 (by assumption) ?ru1x0
      case yu1x0 => (intro w' hSw; (try dsimp only at hSw); go_simp; try (with_reducible rfl))
      simp only [List.setIfInBounds_toArray, List.set_cons_zero, List.set_cons_succ]
      refine take_op (v := ?vu1x2) 2 (Op.load 72 (Operand.tmp 3)) 72 rfl rfl rfl rfl rfl (by kernel_rfl) (by kernel_rfl) (by kernel_rfl) (fun _ _ _ h => h) ?yu1x2 (by assumption) ?ru1x2
      case yu1x2 => (intro w' hSw; (try dsimp only at hSw); go_simp; try (with_reducible rfl))
      simp only [List.setIfInBounds_toArray, List.set_cons_zero, List.set_cons_succ]
      refine wpAnyH_ready (rs := [1]) (by kernel_rfl) (by simp) (AllReadyH.cons rfl (fun K1 hK1 => ?ku1x1) AllReadyH.nil)
      refine take_calls 1 51 [Operand.tmp 51] #[72] rfl rfl (by kernel_rfl) (fun args w => run_enter Try.func51 (by kernel_rfl) rfl args w) ?_
      refine (H7.out _).mono ?_
      rintro e w1 ⟨rfl, hb1⟩
      refine ⟨_, rfl, ?_⟩
      have z1 := hb1.size
      try simp only [World.size_drew] at z1
      replace HB := HB.trans (hb1.mono HB.size)
      have zHB1 := HB.size
      replace g1 := Blk.below g1 hb1 (by first | exact Nat.le_refl _ | (simp only [World.size_alloc, World.size_setCell, World.size_drew] at *; omega) | omega)
      replace g2 := Blk.below g2 hb1 (by first | exact Nat.le_refl _ | (simp only [World.size_alloc, World.size_setCell, World.size_drew] at *; omega) | omega)
      replace g3 := Blk.below g3 hb1 (by first | exact Nat.le_refl _ | (simp only [World.size_alloc, World.size_setCell, World.size_drew] at *; omega) | omega)
      refine hK1.out _ _ ?su1x1 (fun hHeld => ?ru1x1)
      case su1x1 => ((try dsimp only); exact rec9 g1 g2 g3)
      try simp only [List.setIfInBounds_toArray, List.set_cons_zero, List.set_cons_succ]
      refine wpAnyH_ready (rs := [3]) (by kernel_rfl) (by simp) (AllReadyH.cons rfl (fun K3 hK3 => ?ku1x3) AllReadyH.nil)
      refine take_calls 3 52 [Operand.tmp 53] #[72] rfl rfl (by kernel_rfl) (fun args w => run_enter Try.func52 (by kernel_rfl) rfl args w) ?_
      refine (H8.out _).mono ?_
      rintro e w3 ⟨rfl, hb3⟩
      refine ⟨_, rfl, ?_⟩
      have z3 := hb3.size
      try simp only [World.size_drew] at z3
      replace HB := HB.trans (hb3.mono HB.size)
      have zHB3 := HB.size
      replace g1 := Blk.below g1 hb3 (by first | exact Nat.le_refl _ | (simp only [World.size_alloc, World.size_setCell, World.size_drew] at *; omega) | omega)
      replace g2 := Blk.below g2 hb3 (by first | exact Nat.le_refl _ | (simp only [World.size_alloc, World.size_setCell, World.size_drew] at *; omega) | omega)
      replace g3 := Blk.below g3 hb3 (by first | exact Nat.le_refl _ | (simp only [World.size_alloc, World.size_setCell, World.size_drew] at *; omega) | omega)
      refine hK3.out _ _ ?su1x3 (fun hHeld => ?ru1x3)
      case su1x3 => ((try dsimp only); exact rec9 g1 g2 g3)
      try simp only [List.setIfInBounds_toArray, List.set_cons_zero, List.set_cons_succ]
      refine take_op (v := ?vu1x4) 4 (Op.binOp BinOp.eql 3 (Operand.tmp 52) (Operand.tmp 54) 3) 4 rfl rfl rfl rfl rfl (by kernel_rfl) (by kernel_rfl) (by kernel_rfl) (fun _ _ _ h => h) ?yu1x4 (by assumption) ?ru1x4
      case yu1x4 => (intro w' hSw; (try dsimp only at hSw); go_simp; try (with_reducible rfl))
      simp only [List.setIfInBounds_toArray, List.set_cons_zero, List.set_cons_succ]
      refine take_move 5 (Operand.tmp 55) rfl rfl (by first | exact .inl rfl | exact .inr rfl) rfl (by kernel_rfl) (by kernel_rfl) (by kernel_rfl) (fun _ _ _ h => h) (by assumption) ?_
      simp only [List.setIfInBounds_toArray, List.set_cons_zero, List.set_cons_succ]
      refine take_op (v := ?vu1x6) 6 (Op.load 72 (Operand.tmp 3)) 72 rfl rfl rfl rfl rfl (by kernel_rfl) (by kernel_rfl) (by kernel_rfl) (fun _ _ _ h => h) ?yu1x6 (by assumption) ?ru1x6
      case yu1x6 => (intro w' hSw; (try dsimp only at hSw); go_simp; try (with_reducible rfl))
      simp only [List.setIfInBounds_toArray, List.set_cons_zero, List.set_cons_succ]
      refine take_op (v := ?vu1x8) 8 (Op.load 72 (Operand.tmp 3)) 72 rfl rfl rfl rfl rfl (by kernel_rfl) (by kernel_rfl) (by kernel_rfl) (fun _ _ _ h => h) ?yu1x8 (by assumption) ?ru1x8
      case yu1x8 => (intro w' hSw; (try dsimp only at hSw); go_simp; try (with_reducible rfl))
      simp only [List.setIfInBounds_toArray, List.set_cons_zero, List.set_cons_succ]
      refine wpAnyH_ready (rs := [7]) (by kernel_rfl) (by simp) (AllReadyH.cons rfl (fun K7 hK7 => ?ku1x7) AllReadyH.nil)
      refine take_calls 7 53 [Operand.tmp 57] #[72] rfl rfl (by kernel_rfl) (fun args w => run_enter Try.func53 (by kernel_rfl) rfl args w) ?_
      refine (H5.out _).mono ?_
      rintro e w7 ⟨rfl, hb7⟩
      refine ⟨_, rfl, ?_⟩
      have z7 := hb7.size
      try simp only [World.size_drew] at z7
      replace HB := HB.trans (hb7.mono HB.size)
      have zHB7 := HB.size
      replace g1 := Blk.below g1 hb7 (by first | exact Nat.le_refl _ | (simp only [World.size_alloc, World.size_setCell, World.size_drew] at *; omega) | omega)
      replace g2 := Blk.below g2 hb7 (by first | exact Nat.le_refl _ | (simp only [World.size_alloc, World.size_setCell, World.size_drew] at *; omega) | omega)
      replace g3 := Blk.below g3 hb7 (by first | exact Nat.le_refl _ | (simp only [World.size_alloc, World.size_setCell, World.size_drew] at *; omega) | omega)
      refine hK7.out _ _ ?su1x7 (fun hHeld => ?ru1x7)
      case su1x7 => ((try dsimp only); exact rec9 g1 g2 g3)
      try simp only [List.setIfInBounds_toArray, List.set_cons_zero, List.set_cons_succ]
      refine wpAnyH_ready (rs := [9]) (by kernel_rfl) (by simp) (AllReadyH.cons rfl (fun K9 hK9 => ?ku1x9) AllReadyH.nil)
      refine take_calls 9 54 [Operand.tmp 59] #[72] rfl rfl (by kernel_rfl) (fun args w => run_enter Try.func54 (by kernel_rfl) rfl args w) ?_
      refine (H6.out _).mono ?_
      rintro e w9 ⟨rfl, hb9⟩
      refine ⟨_, rfl, ?_⟩
      have z9 := hb9.size
      try simp only [World.size_drew] at z9
      replace HB := HB.trans (hb9.mono HB.size)
      have zHB9 := HB.size
      replace g1 := Blk.below g1 hb9 (by first | exact Nat.le_refl _ | (simp only [World.size_alloc, World.size_setCell, World.size_drew] at *; omega) | omega)
      replace g2 := Blk.below g2 hb9 (by first | exact Nat.le_refl _ | (simp only [World.size_alloc, World.size_setCell, World.size_drew] at *; omega) | omega)
      replace g3 := Blk.below g3 hb9 (by first | exact Nat.le_refl _ | (simp only [World.size_alloc, World.size_setCell, World.size_drew] at *; omega) | omega)
      refine hK9.out _ _ ?su1x9 (fun hHeld => ?ru1x9)
      case su1x9 => ((try dsimp only); exact rec9 g1 g2 g3)
      try simp only [List.setIfInBounds_toArray, List.set_cons_zero, List.set_cons_succ]
      refine take_op (v := ?vu1x10) 10 (Op.binOp BinOp.eql 3 (Operand.tmp 58) (Operand.tmp 60) 3) 4 rfl rfl rfl rfl rfl (by kernel_rfl) (by kernel_rfl) (by kernel_rfl) (fun _ _ _ h => h) ?yu1x10 (by assumption) ?ru1x10
      case yu1x10 => (intro w' hSw; (try dsimp only at hSw); go_simp; try (with_reducible rfl))
      simp only [List.setIfInBounds_toArray, List.set_cons_zero, List.set_cons_succ]
      refine take_op (v := ?vu1x11) 11 (Op.pick (Operand.tmp 56) (Operand.tmp 61) (Operand.const (Value.bool false))) 4 rfl rfl rfl rfl rfl (by kernel_rfl) (by kernel_rfl) (by kernel_rfl) (fun _ _ _ h => h) ?yu1x11 (by assumption) ?ru1x11
      case yu1x11 => (intro w' hSw; (try dsimp only at hSw); go_simp; try (with_reducible rfl))
      simp only [List.setIfInBounds_toArray, List.set_cons_zero, List.set_cons_succ]
      refine take_move 12 (Operand.tmp 62) rfl rfl (by first | exact .inl rfl | exact .inr rfl) rfl (by kernel_rfl) (by kernel_rfl) (by kernel_rfl) (fun _ _ _ h => h) (by assumption) ?_
      simp only [List.setIfInBounds_toArray, List.set_cons_zero, List.set_cons_succ]
      refine take_move 13 (Operand.tmp 7) rfl rfl (by first | exact .inl rfl | exact .inr rfl) rfl (by kernel_rfl) (by kernel_rfl) (by kernel_rfl) (fun _ _ _ h => h) (by assumption) ?_
      simp only [List.setIfInBounds_toArray, List.set_cons_zero, List.set_cons_succ]
      refine take_move 14 (Operand.tmp 9) rfl rfl (by first | exact .inl rfl | exact .inr rfl) rfl (by kernel_rfl) (by kernel_rfl) (by kernel_rfl) (fun _ _ _ h => h) (by assumption) ?_
      simp only [List.setIfInBounds_toArray, List.set_cons_zero, List.set_cons_succ]
      refine take_op (v := ?vu1x15) 15 (Op.binOp BinOp.eql 9 (Operand.tmp 64) (Operand.tmp 65) 9) 4 rfl rfl rfl rfl rfl (by kernel_rfl) (by kernel_rfl) (by kernel_rfl) (fun _ _ _ h => h) ?yu1x15 (by assumption) ?ru1x15
      case yu1x15 => (intro w' hSw; (try dsimp only at hSw); go_simp; try (with_reducible rfl))
      simp only [List.setIfInBounds_toArray, List.set_cons_zero, List.set_cons_succ]
      refine take_op (v := ?vu1x16) 16 (Op.pick (Operand.tmp 63) (Operand.tmp 66) (Operand.const (Value.bool false))) 4 rfl rfl rfl rfl rfl (by kernel_rfl) (by kernel_rfl) (by kernel_rfl) (fun _ _ _ h => h) ?yu1x16 (by assumption) ?ru1x16
      case yu1x16 => (intro w' hSw; (try dsimp only at hSw); go_simp; try (with_reducible rfl))
      simp only [List.setIfInBounds_toArray, List.set_cons_zero, List.set_cons_succ]
      refine take_move 17 (Operand.tmp 67) rfl rfl (by first | exact .inl rfl | exact .inr rfl) rfl (by kernel_rfl) (by kernel_rfl) (by kernel_rfl) (fun _ _ _ h => h) (by assumption) ?_
      simp only [List.setIfInBounds_toArray, List.set_cons_zero, List.set_cons_succ]
      refine take_move 18 (Operand.tmp 8) rfl rfl (by first | exact .inl rfl | exact .inr rfl) rfl (by kernel_rfl) (by kernel_rfl) (by kernel_rfl) (fun _ _ _ h => h) (by assumption) ?_
      simp only [List.setIfInBounds_toArray, List.set_cons_zero, List.set_cons_succ]
      refine take_move 19 (Operand.tmp 10) rfl rfl (by first | exact .inl rfl | exact .inr rfl) rfl (by kernel_rfl) (by kernel_rfl) (by kernel_rfl) (fun _ _ _ h => h) (by assumption) ?_
      simp only [List.setIfInBounds_toArray, List.set_cons_zero, List.set_cons_succ]
      refine take_op (v := ?vu1x20) 20 (Op.binOp BinOp.eql 3 (Operand.tmp 69) (Operand.tmp 70) 3) 4 rfl rfl rfl rfl rfl (by kernel_rfl) (by kernel_rfl) (by kernel_rfl) (fun _ _ _ h => h) ?yu1x20 (by assumption) ?ru1x20
      case yu1x20 => (intro w' hSw; (try dsimp only at hSw); go_simp; try (with_reducible rfl))
      simp only [List.setIfInBounds_toArray, List.set_cons_zero, List.set_cons_succ]
      refine take_op (v := ?vu1x21) 21 (Op.pick (Operand.tmp 68) (Operand.tmp 71) (Operand.const (Value.bool false))) 4 rfl rfl rfl rfl rfl (by kernel_rfl) (by kernel_rfl) (by kernel_rfl) (fun _ _ _ h => h) ?yu1x21 (by assumption) ?ru1x21
      case yu1x21 => (intro w' hSw; (try dsimp only at hSw); go_simp; try (with_reducible rfl))
      simp only [List.setIfInBounds_toArray, List.set_cons_zero, List.set_cons_succ]
      refine take_move 22 (Operand.tmp 72) rfl rfl (by first | exact .inl rfl | exact .inr rfl) rfl (by kernel_rfl) (by kernel_rfl) (by kernel_rfl) (fun _ _ _ h => h) (by assumption) ?_
      simp only [List.setIfInBounds_toArray, List.set_cons_zero, List.set_cons_succ]
      refine take_op (v := ?vu1x23) 23 (Op.load 72 (Operand.tmp 11)) 72 rfl rfl rfl rfl rfl (by kernel_rfl) (by kernel_rfl) (by kernel_rfl) (fun _ _ _ h => h) ?yu1x23 (by assumption) ?ru1x23
      case yu1x23 => (intro w' hSw; (try dsimp only at hSw); go_simp; try (with_reducible rfl))
      simp only [List.setIfInBounds_toArray, List.set_cons_zero, List.set_cons_succ]
      refine take_op (v := ?vu1x24) 24 (Op.load 72 (Operand.tmp 14)) 72 rfl rfl rfl rfl rfl (by kernel_rfl) (by kernel_rfl) (by kernel_rfl) (fun _ _ _ h => h) ?yu1x24 (by assumption) ?ru1x24
      case yu1x24 => (intro w' hSw; (try dsimp only at hSw); go_simp; try (with_reducible rfl))
      simp only [List.setIfInBounds_toArray, List.set_cons_zero, List.set_cons_succ]
      refine take_op (v := ?vu1x25) 25 (Op.binOp BinOp.eql 72 (Operand.tmp 74) (Operand.tmp 75) 72) 4 rfl rfl rfl rfl rfl (by kernel_rfl) (by kernel_rfl) (by kernel_rfl) (fun _ _ _ h => h) ?yu1x25 (by assumption) ?ru1x25
      case yu1x25 => (intro w' hSw; (try dsimp only at hSw); go_simp; try (with_reducible rfl))
      simp only [List.setIfInBounds_toArray, List.set_cons_zero, List.set_cons_succ]
      refine take_op (v := ?vu1x26) 26 (Op.pick (Operand.tmp 73) (Operand.tmp 76) (Operand.const (Value.bool false))) 4 rfl rfl rfl rfl rfl (by kernel_rfl) (by kernel_rfl) (by kernel_rfl) (fun _ _ _ h => h) ?yu1x26 (by assumption) ?ru1x26
      case yu1x26 => (intro w' hSw; (try dsimp only at hSw); go_simp; try (with_reducible rfl))
      simp only [List.setIfInBounds_toArray, List.set_cons_zero, List.set_cons_succ]
      refine take_move 27 (Operand.tmp 77) rfl rfl (by first | exact .inl rfl | exact .inr rfl) rfl (by kernel_rfl) (by kernel_rfl) (by kernel_rfl) (fun _ _ _ h => h) (by assumption) ?_
      simp only [List.setIfInBounds_toArray, List.set_cons_zero, List.set_cons_succ]
      refine take_move 28 (Operand.tmp 12) rfl rfl (by first | exact .inl rfl | exact .inr rfl) rfl (by kernel_rfl) (by kernel_rfl) (by kernel_rfl) (fun _ _ _ h => h) (by assumption) ?_
      simp only [List.setIfInBounds_toArray, List.set_cons_zero, List.set_cons_succ]
      refine take_move 29 (Operand.tmp 15) rfl rfl (by first | exact .inl rfl | exact .inr rfl) rfl (by kernel_rfl) (by kernel_rfl) (by kernel_rfl) (fun _ _ _ h => h) (by assumption) ?_
      simp only [List.setIfInBounds_toArray, List.set_cons_zero, List.set_cons_succ]
      refine take_op (v := ?vu1x30) 30 (Op.binOp BinOp.eql 3 (Operand.tmp 79) (Operand.tmp 80) 3) 4 rfl rfl rfl rfl rfl (by kernel_rfl) (by kernel_rfl) (by kernel_rfl) (fun _ _ _ h => h) ?yu1x30 (by assumption) ?ru1x30
      case yu1x30 => (intro w' hSw; (try dsimp only at hSw); go_simp; try (with_reducible rfl))
      simp only [List.setIfInBounds_toArray, List.set_cons_zero, List.set_cons_succ]
      refine take_op (v := ?vu1x31) 31 (Op.pick (Operand.tmp 78) (Operand.tmp 81) (Operand.const (Value.bool false))) 4 rfl rfl rfl rfl rfl (by kernel_rfl) (by kernel_rfl) (by kernel_rfl) (fun _ _ _ h => h) ?yu1x31 (by assumption) ?ru1x31
      case yu1x31 => (intro w' hSw; (try dsimp only at hSw); go_simp; try (with_reducible rfl))
      simp only [List.setIfInBounds_toArray, List.set_cons_zero, List.set_cons_succ]
      refine take_move 32 (Operand.tmp 82) rfl rfl (by first | exact .inl rfl | exact .inr rfl) rfl (by kernel_rfl) (by kernel_rfl) (by kernel_rfl) (fun _ _ _ h => h) (by assumption) ?_
      simp only [List.setIfInBounds_toArray, List.set_cons_zero, List.set_cons_succ]
      refine take_move 33 (Operand.tmp 13) rfl rfl (by first | exact .inl rfl | exact .inr rfl) rfl (by kernel_rfl) (by kernel_rfl) (by kernel_rfl) (fun _ _ _ h => h) (by assumption) ?_
      simp only [List.setIfInBounds_toArray, List.set_cons_zero, List.set_cons_succ]
      refine take_move 34 (Operand.tmp 16) rfl rfl (by first | exact .inl rfl | exact .inr rfl) rfl (by kernel_rfl) (by kernel_rfl) (by kernel_rfl) (fun _ _ _ h => h) (by assumption) ?_
      simp only [List.setIfInBounds_toArray, List.set_cons_zero, List.set_cons_succ]
      refine take_op (v := ?vu1x35) 35 (Op.binOp BinOp.eql 3 (Operand.tmp 84) (Operand.tmp 85) 3) 4 rfl rfl rfl rfl rfl (by kernel_rfl) (by kernel_rfl) (by kernel_rfl) (fun _ _ _ h => h) ?yu1x35 (by assumption) ?ru1x35
      case yu1x35 => (intro w' hSw; (try dsimp only at hSw); go_simp; try (with_reducible rfl))
      simp only [List.setIfInBounds_toArray, List.set_cons_zero, List.set_cons_succ]
      refine take_op (v := ?vu1x36) 36 (Op.pick (Operand.tmp 83) (Operand.tmp 86) (Operand.const (Value.bool false))) 4 rfl rfl rfl rfl rfl (by kernel_rfl) (by kernel_rfl) (by kernel_rfl) (fun _ _ _ h => h) ?yu1x36 (by assumption) ?ru1x36
      case yu1x36 => (intro w' hSw; (try dsimp only at hSw); go_simp; try (with_reducible rfl))
      simp only [List.setIfInBounds_toArray, List.set_cons_zero, List.set_cons_succ]
      refine take_move 37 (Operand.tmp 87) rfl rfl (by first | exact .inl rfl | exact .inr rfl) rfl (by kernel_rfl) (by kernel_rfl) (by kernel_rfl) (fun _ _ _ h => h) (by assumption) ?_
      simp only [List.setIfInBounds_toArray, List.set_cons_zero, List.set_cons_succ]
      refine wpAnyH_ready (rs := [38]) (by kernel_rfl) (by simp) (AllReadyH.cons rfl (fun K38 hK38 => ?ku1x38) AllReadyH.nil)
      refine take_calls 38 46 [] #[] rfl rfl (by kernel_rfl) (fun args w => run_enter Try.func46 (by kernel_rfl) rfl args w) ?_
      refine (awake_any _).mono ?_
      rintro e w38 ⟨rfl, hb38⟩
      refine ⟨_, rfl, ?_⟩
      have z38 := hb38.size
      try simp only [World.size_drew] at z38
      replace HB := HB.trans (hb38.mono HB.size)
      have zHB38 := HB.size
      replace g1 := Blk.below g1 hb38 (by first | exact Nat.le_refl _ | (simp only [World.size_alloc, World.size_setCell, World.size_drew] at *; omega) | omega)
      replace g2 := Blk.below g2 hb38 (by first | exact Nat.le_refl _ | (simp only [World.size_alloc, World.size_setCell, World.size_drew] at *; omega) | omega)
      replace g3 := Blk.below g3 hb38 (by first | exact Nat.le_refl _ | (simp only [World.size_alloc, World.size_setCell, World.size_drew] at *; omega) | omega)
      refine hK38.out _ _ ?su1x38 (fun hHeld => ?ru1x38)
      case su1x38 => ((try dsimp only); exact rec9 g1 g2 g3)
      try simp only [List.setIfInBounds_toArray, List.set_cons_zero, List.set_cons_succ]
      refine take_op (v := ?vu1x39) 39 (Op.pick (Operand.tmp 88) (Operand.tmp 89) (Operand.const (Value.bool false))) 4 rfl rfl rfl rfl rfl (by kernel_rfl) (by kernel_rfl) (by kernel_rfl) (fun _ _ _ h => h) ?yu1x39 (by assumption) ?ru1x39
      case yu1x39 => (intro w' hSw; (try dsimp only at hSw); go_simp; try (with_reducible rfl))
      simp only [List.setIfInBounds_toArray, List.set_cons_zero, List.set_cons_succ]
      refine take_op (v := ?vu1x40) 40 (Op.assign (Operand.tmp 90)) 4 rfl rfl rfl rfl rfl (by kernel_rfl) (by kernel_rfl) (by kernel_rfl) (fun _ _ _ h => h) ?yu1x40 (by assumption) ?ru1x40
      case yu1x40 => (intro w' hSw; (try dsimp only at hSw); go_simp; try (with_reducible rfl))
      simp only [List.setIfInBounds_toArray, List.set_cons_zero, List.set_cons_succ]
      refine wpAnyH_done (by kernel_rfl) ?_ _
      go_wp2_with fail
      go_ret
      exact ⟨rfl, HB⟩
  · clear b1 HB
    go_enter Try.func12, Try.ntmps12
    go_wp2_with fail
    refine (HF.out false (few_one _ _ (decide_eq_false hf))).mono ?_
    rintro e w1 ⟨rfl, hb1⟩
    replace HBa := HBa.trans (hb1.mono HBa.size)
    go_wp2_with fail
    refine (awake_any _).mono ?_
    rintro e w2 ⟨rfl, hb2⟩
    go_wp2_with fail
    go_ret
    exact ⟨rfl, HBa.trans (hb2.mono HBa.size)⟩
end RecW
end Go.Proofs.Ytjdmbpkabeaccaa
