/- The walks of package skip: need a segment be read? The reference's walk of package skip: need a segment be read? -/
import Derived.Test.YtnpncpoiiikafaaGreatSkpBQb
import Derived.Test.YtnpncpoiiikafaaGreatSkpEQb
namespace Go.Proofs.YtnpncpoiiikafaaGreat
set_option linter.unusedVariables false
set_option linter.unusedSimpArgs false
set_option linter.unnecessarySimpa false
open Go.RowKit
namespace SkpW
open SpanW (R rv meetsB emptyB trimR)

def segB (q : Qy) (e : En) : Bool := decide (chkE e = 0) && (if e.shut then meetsA (ofQ q) (sE e) (tE e) else meetsB (ofQ q).2 (e.frst, 9223372036854775807))
theorem blk9c {w : World} {g : Nat} {t : TypeId} {a0 a1 a2 a3 a4 a5 a6 a7 a8 : Value} (h : Blk w g t #[a0, a1, a2, a3, a4, a5, a6, a7, a8]) :
    w.cell? ⟨g, 0, none⟩ = some a0 ∧ w.cell? ⟨g, 1, none⟩ = some a1 ∧ w.cell? ⟨g, 2, none⟩ = some a2 ∧ w.cell? ⟨g, 3, none⟩ = some a3 ∧ w.cell? ⟨g, 4, none⟩ = some a4 ∧ w.cell? ⟨g, 5, none⟩ = some a5 ∧ w.cell? ⟨g, 6, none⟩ = some a6 ∧ w.cell? ⟨g, 7, none⟩ = some a7 ∧ w.cell? ⟨g, 8, none⟩ = some a8 := (blk9 h).1
set_option maxRecDepth 100000 in
set_option maxHeartbeats 8000000 in
theorem segment_any (q : Qy) (e1 : En) (v : Bool) (hv : segB q e1 = v) (w : World) :
    Calls Tryz.prog 66 #[qv q, .agg (ec e1)] w fun e w' => e = .returned (.bool v) ∧ Below w.heap.size w w' := by
  obtain ⟨e0, he⟩ : ∃ x, chkE e1 = x := ⟨_, rfl⟩
  have C0 := Lib.hid (fun w => echeck_any e1 e0 he w)
  unfold segB at hv
  rw [he] at hv
  have C1 := Lib.hid (fun w => of_any q w)
  have C2 := Lib.hid (fun w => eseqs_any e1 w)
  have C3 := Lib.hid (fun w => eticks_any e1 w)
  have C4 := Lib.hid (fun w v hv => meetsA_any (ofQ q) (sE e1) (tE e1) v hv w)
  have C5 := Lib.hid (fun w v hv => sMeets_eq (ofQ q).2 (e1.frst, 9223372036854775807) v hv w)
  generalize sE e1 = se at *
  generalize tE e1 = te at *
  generalize ofQ q = a at *
  clear he
  obtain ⟨i, g, f, s, co, bl, ea, la, bs⟩ := e1
  have b0 := (Blk.new w 58 (qc q)).alloc (.cells (ec ⟨i, g, f, s, co, bl, ea, la, bs⟩) 107)
  have b1 := Blk.new (w.alloc (.cells (qc q) 58)) 107 (ec ⟨i, g, f, s, co, bl, ea, la, bs⟩)
  rw [World.size_alloc] at b1
  have HB : Below w.heap.size w ((w.alloc (.cells (qc q) 58)).alloc (.cells (ec ⟨i, g, f, s, co, bl, ea, la, bs⟩) 107)) := hb2 w _ _
  dsimp only at hv
  go_enter Tryz.func66, Tryz.ntmps66
  go_wp2_with fail
  refine (C0.out _).mono ?_
  clear C0
  rintro e wa ⟨rfl, hb1⟩
  replace b0 := b0.below hb1 b0.lt
  replace b1 := b1.below hb1 b1.lt
  replace HB := HB.trans (hb1.mono HB.size)
  clear hb1
  by_cases hz : e0 = 0
  · subst hz
    cases s with
    | true =>
      have hv : meetsA a se te = v := by simpa using hv
      have C6 := Lib.hid (fun w => C4.out w v hv)
      clear hv C4 C5
      have b1' := b1
      obtain ⟨⟨c0, c1, c2, c3, c4, c5, c6, c7, c8⟩, _⟩ := blk9 b1'
      clear b1'
      have hbl := b1.lt
      go_wp2_with fail
      refine wp_region_held_drew (S := (fun w' => (w'.cell? ⟨w.heap.size, 0, none⟩ = some (.int .i64 q.s1) ∧ w'.cell? ⟨w.heap.size, 1, none⟩ = some (.int .i64 q.s2) ∧ w'.cell? ⟨w.heap.size, 2, none⟩ = some (.int .i64 q.t1) ∧ w'.cell? ⟨w.heap.size, 3, none⟩ = some (.int .i64 q.t2) ∧ w'.cell? ⟨w.heap.size, 4, none⟩ = some (str q.find) ∧ w'.cell? ⟨w.heap.size, 5, none⟩ = some (.int .i64 q.limit) ∧ w'.cell? ⟨w.heap.size, 6, none⟩ = some (.int .i64 q.frm)) ∧ (w'.cell? ⟨w.heap.size + 1, 0, none⟩ = some (.int .i64 i) ∧ w'.cell? ⟨w.heap.size + 1, 1, none⟩ = some (.int .i64 g) ∧ w'.cell? ⟨w.heap.size + 1, 2, none⟩ = some (.int .i64 f) ∧ w'.cell? ⟨w.heap.size + 1, 3, none⟩ = some (.bool true) ∧ w'.cell? ⟨w.heap.size + 1, 4, none⟩ = some (.int .i64 co) ∧ w'.cell? ⟨w.heap.size + 1, 5, none⟩ = some (.int .i64 bl) ∧ w'.cell? ⟨w.heap.size + 1, 6, none⟩ = some (.int .i64 ea) ∧ w'.cell? ⟨w.heap.size + 1, 7, none⟩ = some (.int .i64 la) ∧ w'.cell? ⟨w.heap.size + 1, 8, none⟩ = some (.int .i64 bs)))) (by kernel_rfl) ?_ (fun hHeld => ?_)
      · replace HB := Below.drew HB; replace b0 := Blk.drew b0; replace b1 := Blk.drew b1; (try dsimp only); exact ⟨blk7 b0, blk9c b1⟩
      replace HB := Below.drew HB
      replace b0 := Blk.drew b0
      replace b1 := Blk.drew b1
      have zHB := HB.size
      refine take_op (v := ?vu1x0) 0 (Op.load 58 (Operand.tmp 2)) 58 rfl rfl rfl rfl rfl (by kernel_rfl) (by kernel_rfl) (by kernel_rfl) (fun _ _ _ h => h) ?yu1x0 (by assumption) ?ru1x0
      case yu1x0 => (intro w' hSw; (try dsimp only at hSw); go_simp; try (with_reducible rfl))
      simp only [List.setIfInBounds_toArray, List.set_cons_zero, List.set_cons_succ]
      refine take_op (v := ?vu1x2) 2 (Op.load 107 (Operand.tmp 3)) 107 rfl rfl rfl rfl rfl (by kernel_rfl) (by kernel_rfl) (by kernel_rfl) (fun _ _ _ h => h) ?yu1x2 (by assumption) ?ru1x2
      case yu1x2 => (intro w' hSw; (try dsimp only at hSw); go_simp; try (with_reducible rfl))
      simp only [List.setIfInBounds_toArray, List.set_cons_zero, List.set_cons_succ]
      refine take_op (v := ?vu1x4) 4 (Op.load 107 (Operand.tmp 3)) 107 rfl rfl rfl rfl rfl (by kernel_rfl) (by kernel_rfl) (by kernel_rfl) (fun _ _ _ h => h) ?yu1x4 (by assumption) ?ru1x4
      case yu1x4 => (intro w' hSw; (try dsimp only at hSw); go_simp; try (with_reducible rfl))
      simp only [List.setIfInBounds_toArray, List.set_cons_zero, List.set_cons_succ]
      refine wpAnyH_ready (rs := [1]) (by kernel_rfl) (by simp) (AllReadyH.cons rfl (fun K1 hK1 => ?ku1x1) AllReadyH.nil)
      refine take_calls 1 67 [Operand.tmp 12] #[58] rfl rfl (by kernel_rfl) (fun args w => run_enter Tryz.func67 (by kernel_rfl) rfl args w) ?_
      refine (C1.out _).mono ?_
      rintro e w1 ⟨rfl, hb1⟩
      refine ⟨_, rfl, ?_⟩
      have z1 := hb1.size
      try simp only [World.size_drew] at z1
      replace HB := HB.trans (hb1.mono (by first | exact HB.size | omega))
      have zHB1 := HB.size
      replace b0 := Blk.below b0 hb1 (by first | exact Nat.le_refl _ | (simp only [World.size_alloc, World.size_setCell, World.size_drew] at *; omega) | omega)
      replace b1 := Blk.below b1 hb1 (by first | exact Nat.le_refl _ | (simp only [World.size_alloc, World.size_setCell, World.size_drew] at *; omega) | omega)
      refine hK1.out _ _ ?su1x1 (fun hHeld => ?ru1x1)
      case su1x1 => ((try dsimp only); exact ⟨blk7 b0, blk9c b1⟩)
      try simp only [List.setIfInBounds_toArray, List.set_cons_zero, List.set_cons_succ]
      refine wpAnyH_ready (rs := [3]) (by kernel_rfl) (by simp) (AllReadyH.cons rfl (fun K3 hK3 => ?ku1x3) AllReadyH.nil)
      refine take_calls 3 118 [Operand.tmp 14] #[107] rfl rfl (by kernel_rfl) (fun args w => run_enter Tryz.func118 (by kernel_rfl) rfl args w) ?_
      refine (C2.out _).mono ?_
      rintro e w3 ⟨rfl, hb3⟩
      refine ⟨_, rfl, ?_⟩
      have z3 := hb3.size
      try simp only [World.size_drew] at z3
      replace HB := HB.trans (hb3.mono (by first | exact HB.size | omega))
      have zHB3 := HB.size
      replace b0 := Blk.below b0 hb3 (by first | exact Nat.le_refl _ | (simp only [World.size_alloc, World.size_setCell, World.size_drew] at *; omega) | omega)
      replace b1 := Blk.below b1 hb3 (by first | exact Nat.le_refl _ | (simp only [World.size_alloc, World.size_setCell, World.size_drew] at *; omega) | omega)
      refine hK3.out _ _ ?su1x3 (fun hHeld => ?ru1x3)
      case su1x3 => ((try dsimp only); exact ⟨blk7 b0, blk9c b1⟩)
      try simp only [List.setIfInBounds_toArray, List.set_cons_zero, List.set_cons_succ]
      refine wpAnyH_ready (rs := [5]) (by kernel_rfl) (by simp) (AllReadyH.cons rfl (fun K5 hK5 => ?ku1x5) AllReadyH.nil)
      refine take_calls 5 119 [Operand.tmp 16] #[107] rfl rfl (by kernel_rfl) (fun args w => run_enter Tryz.func119 (by kernel_rfl) rfl args w) ?_
      refine (C3.out _).mono ?_
      rintro e w5 ⟨rfl, hb5⟩
      refine ⟨_, rfl, ?_⟩
      have z5 := hb5.size
      try simp only [World.size_drew] at z5
      replace HB := HB.trans (hb5.mono (by first | exact HB.size | omega))
      have zHB5 := HB.size
      replace b0 := Blk.below b0 hb5 (by first | exact Nat.le_refl _ | (simp only [World.size_alloc, World.size_setCell, World.size_drew] at *; omega) | omega)
      replace b1 := Blk.below b1 hb5 (by first | exact Nat.le_refl _ | (simp only [World.size_alloc, World.size_setCell, World.size_drew] at *; omega) | omega)
      refine hK5.out _ _ ?su1x5 (fun hHeld => ?ru1x5)
      case su1x5 => ((try dsimp only); exact ⟨blk7 b0, blk9c b1⟩)
      try simp only [List.setIfInBounds_toArray, List.set_cons_zero, List.set_cons_succ]
      refine wpAnyH_ready (rs := [6]) (by kernel_rfl) (by simp) (AllReadyH.cons rfl (fun K6 hK6 => ?ku1x6) AllReadyH.nil)
      refine take_calls 6 72 [Operand.tmp 13, Operand.tmp 15, Operand.tmp 17] #[129, 56, 56] rfl rfl (by kernel_rfl) (fun args w => run_enter Tryz.func72 (by kernel_rfl) rfl args w) ?_
      refine (C6.out _).mono ?_
      rintro e w6 ⟨rfl, hb6⟩
      refine ⟨_, rfl, ?_⟩
      have z6 := hb6.size
      try simp only [World.size_drew] at z6
      replace HB := HB.trans (hb6.mono (by first | exact HB.size | omega))
      have zHB6 := HB.size
      replace b0 := Blk.below b0 hb6 (by first | exact Nat.le_refl _ | (simp only [World.size_alloc, World.size_setCell, World.size_drew] at *; omega) | omega)
      replace b1 := Blk.below b1 hb6 (by first | exact Nat.le_refl _ | (simp only [World.size_alloc, World.size_setCell, World.size_drew] at *; omega) | omega)
      refine hK6.out _ _ ?su1x6 (fun hHeld => ?ru1x6)
      case su1x6 => ((try dsimp only); exact ⟨blk7 b0, blk9c b1⟩)
      try simp only [List.setIfInBounds_toArray, List.set_cons_zero, List.set_cons_succ]
      refine take_op (v := ?vu1x7) 7 (Op.assign (Operand.tmp 18)) 4 rfl rfl rfl rfl rfl (by kernel_rfl) (by kernel_rfl) (by kernel_rfl) (fun _ _ _ h => h) ?yu1x7 (by assumption) ?ru1x7
      case yu1x7 => (intro w' hSw; (try dsimp only at hSw); go_simp; try (with_reducible rfl))
      simp only [List.setIfInBounds_toArray, List.set_cons_zero, List.set_cons_succ]
      refine wpAnyH_done (by kernel_rfl) ?_ _
      go_wp2_with fail
      go_ret
      exact ⟨rfl, HB⟩
    | false =>
      have hv : meetsB a.2 (f, 9223372036854775807) = v := by simpa using hv
      have C6 := Lib.hid (fun w => C5.out w v hv)
      clear hv C4 C5
      obtain ⟨⟨s1, s2, t1, t2, fd, li, fr⟩, r1, r2⟩ := a
      have hfd : ∀ w, (Instr.field 129 (.agg #[.int .i64 s1, .int .i64 s2, .int .i64 t1, .int .i64 t2, str fd, .int .i64 li, .int .i64 fr, .int .i64 r1, .int .i64 r2]) 1).run Tryz.prog w = .ok (.agg #[.int .i64 r1, .int .i64 r2]) w := fun _ => by kernel_rfl
      have b1' := b1
      obtain ⟨⟨c0, c1, c2, c3, c4, c5, c6, c7, c8⟩, _⟩ := blk9 b1'
      clear b1'
      have hbl := b1.lt
      go_wp2_with fail
      refine wp_region_held_drew (S := (fun w' => (w'.cell? ⟨w.heap.size, 0, none⟩ = some (.int .i64 q.s1) ∧ w'.cell? ⟨w.heap.size, 1, none⟩ = some (.int .i64 q.s2) ∧ w'.cell? ⟨w.heap.size, 2, none⟩ = some (.int .i64 q.t1) ∧ w'.cell? ⟨w.heap.size, 3, none⟩ = some (.int .i64 q.t2) ∧ w'.cell? ⟨w.heap.size, 4, none⟩ = some (str q.find) ∧ w'.cell? ⟨w.heap.size, 5, none⟩ = some (.int .i64 q.limit) ∧ w'.cell? ⟨w.heap.size, 6, none⟩ = some (.int .i64 q.frm)) ∧ (w'.cell? ⟨w.heap.size + 1, 0, none⟩ = some (.int .i64 i) ∧ w'.cell? ⟨w.heap.size + 1, 1, none⟩ = some (.int .i64 g) ∧ w'.cell? ⟨w.heap.size + 1, 2, none⟩ = some (.int .i64 f) ∧ w'.cell? ⟨w.heap.size + 1, 3, none⟩ = some (.bool false) ∧ w'.cell? ⟨w.heap.size + 1, 4, none⟩ = some (.int .i64 co) ∧ w'.cell? ⟨w.heap.size + 1, 5, none⟩ = some (.int .i64 bl) ∧ w'.cell? ⟨w.heap.size + 1, 6, none⟩ = some (.int .i64 ea) ∧ w'.cell? ⟨w.heap.size + 1, 7, none⟩ = some (.int .i64 la) ∧ w'.cell? ⟨w.heap.size + 1, 8, none⟩ = some (.int .i64 bs)))) (by kernel_rfl) ?_ (fun hHeld => ?_)
      · replace HB := Below.drew HB; replace b0 := Blk.drew b0; replace b1 := Blk.drew b1; (try dsimp only); exact ⟨blk7 b0, blk9c b1⟩
      replace HB := Below.drew HB
      replace b0 := Blk.drew b0
      replace b1 := Blk.drew b1
      have zHB := HB.size
      refine take_op (v := ?vu2x0) 0 (Op.load 58 (Operand.tmp 2)) 58 rfl rfl rfl rfl rfl (by kernel_rfl) (by kernel_rfl) (by kernel_rfl) (fun _ _ _ h => h) ?yu2x0 (by assumption) ?ru2x0
      case yu2x0 => (intro w' hSw; (try dsimp only at hSw); go_simp; try (with_reducible rfl))
      simp only [List.setIfInBounds_toArray, List.set_cons_zero, List.set_cons_succ]
      refine take_op (v := ?vu2x3) 3 (Op.fieldAddr 107 (Operand.tmp 3) 0) 0 rfl rfl rfl rfl rfl (by kernel_rfl) (by kernel_rfl) (by kernel_rfl) (fun _ _ _ h => h) ?yu2x3 (by assumption) ?ru2x3
      case yu2x3 => (intro w' hSw; (try dsimp only at hSw); go_simp; try (with_reducible rfl))
      simp only [List.setIfInBounds_toArray, List.set_cons_zero, List.set_cons_succ]
      refine take_op (v := ?vu2x4) 4 (Op.fieldAddr 23 (Operand.tmp 22) 2) 0 rfl rfl rfl rfl rfl (by kernel_rfl) (by kernel_rfl) (by kernel_rfl) (fun _ _ _ h => h) ?yu2x4 (by assumption) ?ru2x4
      case yu2x4 => (intro w' hSw; (try dsimp only at hSw); go_simp; try (with_reducible rfl))
      simp only [List.setIfInBounds_toArray, List.set_cons_zero, List.set_cons_succ]
      refine take_op (v := ?vu2x5) 5 (Op.load 3 (Operand.tmp 23)) 3 rfl rfl rfl rfl rfl (by kernel_rfl) (by kernel_rfl) (by kernel_rfl) (fun _ _ _ h => h) ?yu2x5 (by assumption) ?ru2x5
      case yu2x5 => (intro w' hSw; (try dsimp only at hSw); go_simp; try (with_reducible rfl))
      simp only [List.setIfInBounds_toArray, List.set_cons_zero, List.set_cons_succ]
      refine take_op (v := ?vu2x6) 6 (Op.build 56 #[(0, Operand.tmp 24), (1, Operand.const (Value.int IntKind.i64 9223372036854775807))]) 56 rfl rfl rfl rfl rfl (by kernel_rfl) (by kernel_rfl) (by kernel_rfl) (fun _ _ _ h => h) ?yu2x6 (by assumption) ?ru2x6
      case yu2x6 => (intro w' hSw; (try dsimp only at hSw); go_simp; try (with_reducible rfl))
      simp only [List.setIfInBounds_toArray, List.set_cons_zero, List.set_cons_succ]
      refine wpAnyH_ready (rs := [1]) (by kernel_rfl) (by simp) (AllReadyH.cons rfl (fun K1 hK1 => ?ku2x1) AllReadyH.nil)
      refine take_calls 1 67 [Operand.tmp 19] #[58] rfl rfl (by kernel_rfl) (fun args w => run_enter Tryz.func67 (by kernel_rfl) rfl args w) ?_
      refine (C1.out _).mono ?_
      rintro e w1 ⟨rfl, hb1⟩
      refine ⟨_, rfl, ?_⟩
      have z1 := hb1.size
      try simp only [World.size_drew] at z1
      replace HB := HB.trans (hb1.mono (by first | exact HB.size | omega))
      have zHB1 := HB.size
      replace b0 := Blk.below b0 hb1 (by first | exact Nat.le_refl _ | (simp only [World.size_alloc, World.size_setCell, World.size_drew] at *; omega) | omega)
      replace b1 := Blk.below b1 hb1 (by first | exact Nat.le_refl _ | (simp only [World.size_alloc, World.size_setCell, World.size_drew] at *; omega) | omega)
      refine hK1.out _ _ ?su2x1 (fun hHeld => ?ru2x1)
      case su2x1 => ((try dsimp only); exact ⟨blk7 b0, blk9c b1⟩)
      try simp only [List.setIfInBounds_toArray, List.set_cons_zero, List.set_cons_succ]
      refine take_op (v := ?vu2x2) 2 (Op.field 129 (Operand.tmp 20) 1) 56 rfl rfl rfl rfl rfl (by kernel_rfl) (by kernel_rfl) (by kernel_rfl) (fun _ _ _ h => h) ?yu2x2 (by assumption) ?ru2x2
      case yu2x2 => (intro w' hSw; (try dsimp only at hSw); go_simp; try (with_reducible rfl))
      simp only [List.setIfInBounds_toArray, List.set_cons_zero, List.set_cons_succ]
      refine wpAnyH_ready (rs := [7]) (by kernel_rfl) (by simp) (AllReadyH.cons rfl (fun K7 hK7 => ?ku2x7) AllReadyH.nil)
      refine take_calls 7 120 [Operand.tmp 21, Operand.tmp 25] #[56, 56] rfl rfl (by kernel_rfl) (fun args w => run_enter Tryz.func120 (by kernel_rfl) rfl args w) ?_
      refine (C6.out _).mono ?_
      rintro e w7 ⟨rfl, hb7⟩
      refine ⟨_, rfl, ?_⟩
      have z7 := hb7.size
      try simp only [World.size_drew] at z7
      replace HB := HB.trans (hb7.mono (by first | exact HB.size | omega))
      have zHB7 := HB.size
      replace b0 := Blk.below b0 hb7 (by first | exact Nat.le_refl _ | (simp only [World.size_alloc, World.size_setCell, World.size_drew] at *; omega) | omega)
      replace b1 := Blk.below b1 hb7 (by first | exact Nat.le_refl _ | (simp only [World.size_alloc, World.size_setCell, World.size_drew] at *; omega) | omega)
      refine hK7.out _ _ ?su2x7 (fun hHeld => ?ru2x7)
      case su2x7 => ((try dsimp only); exact ⟨blk7 b0, blk9c b1⟩)
      try simp only [List.setIfInBounds_toArray, List.set_cons_zero, List.set_cons_succ]
      refine take_op (v := ?vu2x8) 8 (Op.assign (Operand.tmp 26)) 4 rfl rfl rfl rfl rfl (by kernel_rfl) (by kernel_rfl) (by kernel_rfl) (fun _ _ _ h => h) ?yu2x8 (by assumption) ?ru2x8
      case yu2x8 => (intro w' hSw; (try dsimp only at hSw); go_simp; try (with_reducible rfl))
      simp only [List.setIfInBounds_toArray, List.set_cons_zero, List.set_cons_succ]
      refine wpAnyH_done (by kernel_rfl) ?_ _
      go_wp2_with fail
      go_ret
      exact ⟨rfl, HB⟩
  · rw [decide_eq_false hz] at hv
    have hv : false = v := by simpa using hv
    subst hv
    have hzI : (e0 != 0) = true := by simp [hz]
    have b1' := b1
    obtain ⟨⟨c0, c1, c2, c3, c4, c5, c6, c7, c8⟩, _⟩ := blk9 b1'
    clear b1'
    go_wp2_with fail
    go_ret
    exact ⟨rfl, HB⟩
end SkpW
end Go.Proofs.YtnpncpoiiikafaaGreat

namespace Go.Proofs.YtnpncpoiiikafaaGreat
set_option linter.unusedVariables false
set_option linter.unusedSimpArgs false
set_option linter.unnecessarySimpa false
open Go.RowKit
namespace SkpW
open SpanW (R rv meetsB emptyB trimR)

end SkpW
end Go.Proofs.YtnpncpoiiikafaaGreat
