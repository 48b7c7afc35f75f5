/- The walks of package skip: need a segment be read? The reference's walk of package skip: need a segment be read? -/
import Derived.Test.YtnghmcadhjneeaaSkpM
import Derived.Test.YtnghmcadhjneeaaSkpI
namespace Go.Proofs.Ytnghmcadhjneeaa
set_option linter.unusedVariables false
set_option linter.unusedSimpArgs false
set_option linter.unnecessarySimpa false
open Go.RowKit
namespace SkpW
open SpanW (R rv meetsB emptyB trimR)

def segB (q : Qy) (e : En) : Bool := decide (chkE e = 0) && (if e.shut then meetsA (ofQ q) (sE e) (tE e) else meetsB (ofQ q).2 (e.frst, 9223372036854775807))
theorem of_hi (q : Qy) (h : q.s2 ≤ 9223372036854775807) : (ofQ q).2.2 ≤ 9223372036854775807 := by
  unfold ofQ
  split
  · dsimp only
    rw [trim_norm _ _ h]
    unfold SpanW.norm
    split
    · simp
    · exact h
  · simp
theorem open_meets (a : R) (f : Int) (h : a.2 ≤ 9223372036854775807) (hf : f ≤ 9223372036854775807) : meetsB a (f, 9223372036854775807) = (!emptyB a.1 a.2 && decide (f ≤ a.2)) := by
  rw [SpanW.meets_eq]
  simp only [emptyB]
  rw [Bool.eq_iff_iff]
  simp
  omega
theorem blk9c {w : World} {g : Nat} {t : TypeId} {a0 a1 a2 a3 a4 a5 a6 a7 a8 : Value} (h : Blk w g t #[a0, a1, a2, a3, a4, a5, a6, a7, a8]) :
    w.cell? ⟨g, 0, none⟩ = some a0 ∧ w.cell? ⟨g, 1, none⟩ = some a1 ∧ w.cell? ⟨g, 2, none⟩ = some a2 ∧ w.cell? ⟨g, 3, none⟩ = some a3 ∧ w.cell? ⟨g, 4, none⟩ = some a4 ∧ w.cell? ⟨g, 5, none⟩ = some a5 ∧ w.cell? ⟨g, 6, none⟩ = some a6 ∧ w.cell? ⟨g, 7, none⟩ = some a7 ∧ w.cell? ⟨g, 8, none⟩ = some a8 := (blk9 h).1
set_option maxRecDepth 100000 in
set_option maxHeartbeats 8000000 in
theorem segment_any (q : Qy) (e1 : En) (v : Bool) (hv : segB q e1 = v) (w : World) :
    Calls Try.prog 46 #[qv q, .agg (ec e1)] w fun e w' => e = .returned (.bool v) ∧ Below w.heap.size w w' := by
  obtain ⟨e0, he⟩ : ∃ x, chkE e1 = x := ⟨_, rfl⟩
  have C0 := Lib.hid (fun w => echeck_any e1 e0 he w)
  unfold segB at hv
  rw [he] at hv
  have C1 := Lib.hid (fun w => of_any q w)
  have C2 := Lib.hid (fun w => eseqs_any e1 w)
  have C3 := Lib.hid (fun w => eticks_any e1 w)
  have C4 := Lib.hid (fun w v hv => meetsA_any (ofQ q) (sE e1) (tE e1) v hv w)
  have C5 := Lib.hid (fun w v hv => sMeets_eq (ofQ q).2 (e1.frst, 9223372036854775807) v hv w)
  generalize sE e1 = se at *
  generalize tE e1 = te at *
  generalize ofQ q = a at *
  clear he
  obtain ⟨i, g, f, s, co, bl, ea, la, bs⟩ := e1
  have b0 := (Blk.new w 67 (qc q)).alloc (.cells (ec ⟨i, g, f, s, co, bl, ea, la, bs⟩) 82)
  have b1 := Blk.new (w.alloc (.cells (qc q) 67)) 82 (ec ⟨i, g, f, s, co, bl, ea, la, bs⟩)
  rw [World.size_alloc] at b1
  have HB : Below w.heap.size w ((w.alloc (.cells (qc q) 67)).alloc (.cells (ec ⟨i, g, f, s, co, bl, ea, la, bs⟩) 82)) := hb2 w _ _
  dsimp only at hv
  go_enter Try.func46, Try.ntmps46
  go_wp2_with fail
  refine (C0.out _).mono ?_
  clear C0
  rintro e wa ⟨rfl, hb1⟩
  replace b0 := b0.below hb1 b0.lt
  replace b1 := b1.below hb1 b1.lt
  replace HB := HB.trans (hb1.mono HB.size)
  clear hb1
  by_cases hz : e0 = 0
  · subst hz
    cases s with
    | true =>
      have hv : meetsA a se te = v := by simpa using hv
      have C6 := Lib.hid (fun w => C4.out w v hv)
      clear hv C4 C5
      have b1' := b1
      obtain ⟨⟨c0, c1, c2, c3, c4, c5, c6, c7, c8⟩, _⟩ := blk9 b1'
      clear b1'
      have hbl := b1.lt
      go_wp2_with fail
      refine wp_region_held_drew (S := (fun w' => (w'.cell? ⟨w.heap.size, 0, none⟩ = some (.int .i64 q.s1) ∧ w'.cell? ⟨w.heap.size, 1, none⟩ = some (.int .i64 q.s2) ∧ w'.cell? ⟨w.heap.size, 2, none⟩ = some (.int .i64 q.t1) ∧ w'.cell? ⟨w.heap.size, 3, none⟩ = some (.int .i64 q.t2) ∧ w'.cell? ⟨w.heap.size, 4, none⟩ = some (str q.find) ∧ w'.cell? ⟨w.heap.size, 5, none⟩ = some (.int .i64 q.limit) ∧ w'.cell? ⟨w.heap.size, 6, none⟩ = some (.int .i64 q.frm)) ∧ (w'.cell? ⟨w.heap.size + 1, 0, none⟩ = some (.int .i64 i) ∧ w'.cell? ⟨w.heap.size + 1, 1, none⟩ = some (.int .i64 g) ∧ w'.cell? ⟨w.heap.size + 1, 2, none⟩ = some (.int .i64 f) ∧ w'.cell? ⟨w.heap.size + 1, 3, none⟩ = some (.bool true) ∧ w'.cell? ⟨w.heap.size + 1, 4, none⟩ = some (.int .i64 co) ∧ w'.cell? ⟨w.heap.size + 1, 5, none⟩ = some (.int .i64 bl) ∧ w'.cell? ⟨w.heap.size + 1, 6, none⟩ = some (.int .i64 ea) ∧ w'.cell? ⟨w.heap.size + 1, 7, none⟩ = some (.int .i64 la) ∧ w'.cell? ⟨w.heap.size + 1, 8, none⟩ = some (.int .i64 bs)))) (by kernel_rfl) ?_ (fun hHeld => ?_)
      · replace HB := Below.drew HB; replace b0 := Blk.drew b0; replace b1 := Blk.drew b1; (try dsimp only); exact ⟨blk7 b0, blk9c b1⟩
      replace HB := Below.drew HB
      replace b0 := Blk.drew b0
      replace b1 := Blk.drew b1
      have zHB := HB.size
      refine take_op (v := ?vu1x0) 0 (Op.load 67 (Operand.tmp 2)) 67 rfl rfl rfl rfl rfl (by kernel_rfl) (by kernel_rfl) (by kernel_rfl) (fun _ _ _ h => h) ?yu1x0 (by assumption) ?ru1x0
      case yu1x0 => (intro w' hSw; (try dsimp only at hSw); go_simp; try (with_reducible rfl))
      simp only [List.setIfInBounds_toArray, List.set_cons_zero, List.set_cons_succ]
      refine take_op (v := ?vu1x2) 2 (Op.load 82 (Operand.tmp 3)) 82 rfl rfl rfl rfl rfl (by kernel_rfl) (by kernel_rfl) (by kernel_rfl) (fun _ _ _ h => h) ?yu1x2 (by assumption) ?ru1x2
      case yu1x2 => (intro w' hSw; (try dsimp only at hSw); go_simp; try (with_reducible rfl))
      simp only [List.setIfInBounds_toArray, List.set_cons_zero, List.set_cons_succ]
      refine take_op (v := ?vu1x4) 4 (Op.load 82 (Operand.tmp 3)) 82 rfl rfl rfl rfl rfl (by kernel_rfl) (by kernel_rfl) (by kernel_rfl) (fun _ _ _ h => h) ?yu1x4 (by assumption) ?ru1x4
      case yu1x4 => (intro w' hSw; (try dsimp only at hSw); go_simp; try (with_reducible rfl))
      simp only [List.setIfInBounds_toArray, List.set_cons_zero, List.set_cons_succ]
      refine wpAnyH_ready (rs := [1]) (by kernel_rfl) (by simp) (AllReadyH.cons rfl (fun K1 hK1 => ?ku1x1) AllReadyH.nil)
      refine take_calls 1 69 [Operand.tmp 12] #[67] rfl rfl (by kernel_rfl) (fun args w => run_enter Try.func69 (by kernel_rfl) rfl args w) ?_
      refine (C1.out _).mono ?_
      rintro e w1 ⟨rfl, hb1⟩
      refine ⟨_, rfl, ?_⟩
      have z1 := hb1.size
      try simp only [World.size_drew] at z1
      replace HB := HB.trans (hb1.mono HB.size)
      have zHB1 := HB.size
      replace b0 := Blk.below b0 hb1 (by first | exact Nat.le_refl _ | (simp only [World.size_alloc, World.size_setCell, World.size_drew] at *; omega) | omega)
      replace b1 := Blk.below b1 hb1 (by first | exact Nat.le_refl _ | (simp only [World.size_alloc, World.size_setCell, World.size_drew] at *; omega) | omega)
      refine hK1.out _ _ ?su1x1 (fun hHeld => ?ru1x1)
      case su1x1 => ((try dsimp only); exact ⟨blk7 b0, blk9c b1⟩)
      try simp only [List.setIfInBounds_toArray, List.set_cons_zero, List.set_cons_succ]
      refine wpAnyH_ready (rs := [3]) (by kernel_rfl) (by simp) (AllReadyH.cons rfl (fun K3 hK3 => ?ku1x3) AllReadyH.nil)
      refine take_calls 3 83 [Operand.tmp 14] #[82] rfl rfl (by kernel_rfl) (fun args w => run_enter Try.func83 (by kernel_rfl) rfl args w) ?_
      refine (C2.out _).mono ?_
      rintro e w3 ⟨rfl, hb3⟩
      refine ⟨_, rfl, ?_⟩
      have z3 := hb3.size
      try simp only [World.size_drew] at z3
      replace HB := HB.trans (hb3.mono HB.size)
      have zHB3 := HB.size
      replace b0 := Blk.below b0 hb3 (by first | exact Nat.le_refl _ | (simp only [World.size_alloc, World.size_setCell, World.size_drew] at *; omega) | omega)
      replace b1 := Blk.below b1 hb3 (by first | exact Nat.le_refl _ | (simp only [World.size_alloc, World.size_setCell, World.size_drew] at *; omega) | omega)
      refine hK3.out _ _ ?su1x3 (fun hHeld => ?ru1x3)
      case su1x3 => ((try dsimp only); exact ⟨blk7 b0, blk9c b1⟩)
      try simp only [List.setIfInBounds_toArray, List.set_cons_zero, List.set_cons_succ]
      refine wpAnyH_ready (rs := [5]) (by kernel_rfl) (by simp) (AllReadyH.cons rfl (fun K5 hK5 => ?ku1x5) AllReadyH.nil)
      refine take_calls 5 84 [Operand.tmp 16] #[82] rfl rfl (by kernel_rfl) (fun args w => run_enter Try.func84 (by kernel_rfl) rfl args w) ?_
      refine (C3.out _).mono ?_
      rintro e w5 ⟨rfl, hb5⟩
      refine ⟨_, rfl, ?_⟩
      have z5 := hb5.size
      try simp only [World.size_drew] at z5
      replace HB := HB.trans (hb5.mono HB.size)
      have zHB5 := HB.size
      replace b0 := Blk.below b0 hb5 (by first | exact Nat.le_refl _ | (simp only [World.size_alloc, World.size_setCell, World.size_drew] at *; omega) | omega)
      replace b1 := Blk.below b1 hb5 (by first | exact Nat.le_refl _ | (simp only [World.size_alloc, World.size_setCell, World.size_drew] at *; omega) | omega)
      refine hK5.out _ _ ?su1x5 (fun hHeld => ?ru1x5)
      case su1x5 => ((try dsimp only); exact ⟨blk7 b0, blk9c b1⟩)
      try simp only [List.setIfInBounds_toArray, List.set_cons_zero, List.set_cons_succ]
      refine wpAnyH_ready (rs := [6]) (by kernel_rfl) (by simp) (AllReadyH.cons rfl (fun K6 hK6 => ?ku1x6) AllReadyH.nil)
      refine take_calls 6 77 [Operand.tmp 13, Operand.tmp 15, Operand.tmp 17] #[119, 65, 65] rfl rfl (by kernel_rfl) (fun args w => run_enter Try.func77 (by kernel_rfl) rfl args w) ?_
      refine (C6.out _).mono ?_
      rintro e w6 ⟨rfl, hb6⟩
      refine ⟨_, rfl, ?_⟩
      have z6 := hb6.size
      try simp only [World.size_drew] at z6
      replace HB := HB.trans (hb6.mono HB.size)
      have zHB6 := HB.size
      replace b0 := Blk.below b0 hb6 (by first | exact Nat.le_refl _ | (simp only [World.size_alloc, World.size_setCell, World.size_drew] at *; omega) | omega)
      replace b1 := Blk.below b1 hb6 (by first | exact Nat.le_refl _ | (simp only [World.size_alloc, World.size_setCell, World.size_drew] at *; omega) | omega)
      refine hK6.out _ _ ?su1x6 (fun hHeld => ?ru1x6)
      case su1x6 => ((try dsimp only); exact ⟨blk7 b0, blk9c b1⟩)
      try simp only [List.setIfInBounds_toArray, List.set_cons_zero, List.set_cons_succ]
      refine take_op (v := ?vu1x7) 7 (Op.assign (Operand.tmp 18)) 4 rfl rfl rfl rfl rfl (by kernel_rfl) (by kernel_rfl) (by kernel_rfl) (fun _ _ _ h => h) ?yu1x7 (by assumption) ?ru1x7
      case yu1x7 => (intro w' hSw; (try dsimp only at hSw); go_simp; try (with_reducible rfl))
      simp only [List.setIfInBounds_toArray, List.set_cons_zero, List.set_cons_succ]
      refine wpAnyH_done (by kernel_rfl) ?_ _
      go_wp2_with fail
      go_ret
      exact ⟨rfl, HB⟩
    | false =>
      have hv : meetsB a.2 (f, 9223372036854775807) = v := by simpa using hv
      have C6 := Lib.hid (fun w => C5.out w v hv)
      clear hv C4 C5
      obtain ⟨⟨s1, s2, t1, t2, fd, li, fr⟩, r1, r2⟩ := a
      have hfd : ∀ w, (Instr.field 119 (.agg #[.int .i64 s1, .int .i64 s2, .int .i64 t1, .int .i64 t2, str fd, .int .i64 li, .int .i64 fr, .int .i64 r1, .int .i64 r2]) 1).run Try.prog w = .ok (.agg #[.int .i64 r1, .int .i64 r2]) w := fun _ => by kernel_rfl
      have b1' := b1
      obtain ⟨⟨c0, c1, c2, c3, c4, c5, c6, c7, c8⟩, _⟩ := blk9 b1'
      clear b1'
      have hbl := b1.lt
      go_wp2_with fail
      refine wp_region_held_drew (S := (fun w' => (w'.cell? ⟨w.heap.size, 0, none⟩ = some (.int .i64 q.s1) ∧ w'.cell? ⟨w.heap.size, 1, none⟩ = some (.int .i64 q.s2) ∧ w'.cell? ⟨w.heap.size, 2, none⟩ = some (.int .i64 q.t1) ∧ w'.cell? ⟨w.heap.size, 3, none⟩ = some (.int .i64 q.t2) ∧ w'.cell? ⟨w.heap.size, 4, none⟩ = some (str q.find) ∧ w'.cell? ⟨w.heap.size, 5, none⟩ = some (.int .i64 q.limit) ∧ w'.cell? ⟨w.heap.size, 6, none⟩ = some (.int .i64 q.frm)) ∧ (w'.cell? ⟨w.heap.size + 1, 0, none⟩ = some (.int .i64 i) ∧ w'.cell? ⟨w.heap.size + 1, 1, none⟩ = some (.int .i64 g) ∧ w'.cell? ⟨w.heap.size + 1, 2, none⟩ = some (.int .i64 f) ∧ w'.cell? ⟨w.heap.size + 1, 3, none⟩ = some (.bool false) ∧ w'.cell? ⟨w.heap.size + 1, 4, none⟩ = some (.int .i64 co) ∧ w'.cell? ⟨w.heap.size + 1, 5, none⟩ = some (.int .i64 bl) ∧ w'.cell? ⟨w.heap.size + 1, 6, none⟩ = some (.int .i64 ea) ∧ w'.cell? ⟨w.heap.size + 1, 7, none⟩ = some (.int .i64 la) ∧ w'.cell? ⟨w.heap.size + 1, 8, none⟩ = some (.int .i64 bs)))) (by kernel_rfl) ?_ (fun hHeld => ?_)
      · replace HB := Below.drew HB; replace b0 := Blk.drew b0; replace b1 := Blk.drew b1; (try dsimp only); exact ⟨blk7 b0, blk9c b1⟩
      replace HB := Below.drew HB
      replace b0 := Blk.drew b0
      replace b1 := Blk.drew b1
      have zHB := HB.size
      refine take_op (v := ?vu2x0) 0 (Op.load 67 (Operand.tmp 2)) 67 rfl rfl rfl rfl rfl (by kernel_rfl) (by kernel_rfl) (by kernel_rfl) (fun _ _ _ h => h) ?yu2x0 (by assumption) ?ru2x0
      case yu2x0 => (intro w' hSw; (try dsimp only at hSw); go_simp; try (with_reducible rfl))
      simp only [List.setIfInBounds_toArray, List.set_cons_zero, List.set_cons_succ]
      refine take_op (v := ?vu2x3) 3 (Op.fieldAddr 82 (Operand.tmp 3) 0) 0 rfl rfl rfl rfl rfl (by kernel_rfl) (by kernel_rfl) (by kernel_rfl) (fun _ _ _ h => h) ?yu2x3 (by assumption) ?ru2x3
      case yu2x3 => (intro w' hSw; (try dsimp only at hSw); go_simp; try (with_reducible rfl))
      simp only [List.setIfInBounds_toArray, List.set_cons_zero, List.set_cons_succ]
      refine take_op (v := ?vu2x4) 4 (Op.fieldAddr 80 (Operand.tmp 22) 2) 0 rfl rfl rfl rfl rfl (by kernel_rfl) (by kernel_rfl) (by kernel_rfl) (fun _ _ _ h => h) ?yu2x4 (by assumption) ?ru2x4
      case yu2x4 => (intro w' hSw; (try dsimp only at hSw); go_simp; try (with_reducible rfl))
      simp only [List.setIfInBounds_toArray, List.set_cons_zero, List.set_cons_succ]
      refine take_op (v := ?vu2x5) 5 (Op.load 3 (Operand.tmp 23)) 3 rfl rfl rfl rfl rfl (by kernel_rfl) (by kernel_rfl) (by kernel_rfl) (fun _ _ _ h => h) ?yu2x5 (by assumption) ?ru2x5
      case yu2x5 => (intro w' hSw; (try dsimp only at hSw); go_simp; try (with_reducible rfl))
      simp only [List.setIfInBounds_toArray, List.set_cons_zero, List.set_cons_succ]
      refine take_op (v := ?vu2x6) 6 (Op.build 65 #[(0, Operand.tmp 24), (1, Operand.const (Value.int IntKind.i64 9223372036854775807))]) 65 rfl rfl rfl rfl rfl (by kernel_rfl) (by kernel_rfl) (by kernel_rfl) (fun _ _ _ h => h) ?yu2x6 (by assumption) ?ru2x6
      case yu2x6 => (intro w' hSw; (try dsimp only at hSw); go_simp; try (with_reducible rfl))
      simp only [List.setIfInBounds_toArray, List.set_cons_zero, List.set_cons_succ]
      refine wpAnyH_ready (rs := [1]) (by kernel_rfl) (by simp) (AllReadyH.cons rfl (fun K1 hK1 => ?ku2x1) AllReadyH.nil)
      refine take_calls 1 69 [Operand.tmp 19] #[67] rfl rfl (by kernel_rfl) (fun args w => run_enter Try.func69 (by kernel_rfl) rfl args w) ?_
      refine (C1.out _).mono ?_
      rintro e w1 ⟨rfl, hb1⟩
      refine ⟨_, rfl, ?_⟩
      have z1 := hb1.size
      try simp only [World.size_drew] at z1
      replace HB := HB.trans (hb1.mono HB.size)
      have zHB1 := HB.size
      replace b0 := Blk.below b0 hb1 (by first | exact Nat.le_refl _ | (simp only [World.size_alloc, World.size_setCell, World.size_drew] at *; omega) | omega)
      replace b1 := Blk.below b1 hb1 (by first | exact Nat.le_refl _ | (simp only [World.size_alloc, World.size_setCell, World.size_drew] at *; omega) | omega)
      refine hK1.out _ _ ?su2x1 (fun hHeld => ?ru2x1)
      case su2x1 => ((try dsimp only); exact ⟨blk7 b0, blk9c b1⟩)
      try simp only [List.setIfInBounds_toArray, List.set_cons_zero, List.set_cons_succ]
      refine take_op (v := ?vu2x2) 2 (Op.field 119 (Operand.tmp 20) 1) 65 rfl rfl rfl rfl rfl (by kernel_rfl) (by kernel_rfl) (by kernel_rfl) (fun _ _ _ h => h) ?yu2x2 (by assumption) ?ru2x2
      case yu2x2 => (intro w' hSw; (try dsimp only at hSw); go_simp; try (with_reducible rfl))
      simp only [List.setIfInBounds_toArray, List.set_cons_zero, List.set_cons_succ]
      refine wpAnyH_ready (rs := [7]) (by kernel_rfl) (by simp) (AllReadyH.cons rfl (fun K7 hK7 => ?ku2x7) AllReadyH.nil)
      refine take_calls 7 85 [Operand.tmp 21, Operand.tmp 25] #[65, 65] rfl rfl (by kernel_rfl) (fun args w => run_enter Try.func85 (by kernel_rfl) rfl args w) ?_
      refine (C6.out _).mono ?_
      rintro e w7 ⟨rfl, hb7⟩
      refine ⟨_, rfl, ?_⟩
      have z7 := hb7.size
      try simp only [World.size_drew] at z7
      replace HB := HB.trans (hb7.mono HB.size)
      have zHB7 := HB.size
      replace b0 := Blk.below b0 hb7 (by first | exact Nat.le_refl _ | (simp only [World.size_alloc, World.size_setCell, World.size_drew] at *; omega) | omega)
      replace b1 := Blk.below b1 hb7 (by first | exact Nat.le_refl _ | (simp only [World.size_alloc, World.size_setCell, World.size_drew] at *; omega) | omega)
      refine hK7.out _ _ ?su2x7 (fun hHeld => ?ru2x7)
      case su2x7 => ((try dsimp only); exact ⟨blk7 b0, blk9c b1⟩)
      try simp only [List.setIfInBounds_toArray, List.set_cons_zero, List.set_cons_succ]
      refine take_op (v := ?vu2x8) 8 (Op.assign (Operand.tmp 26)) 4 rfl rfl rfl rfl rfl (by kernel_rfl) (by kernel_rfl) (by kernel_rfl) (fun _ _ _ h => h) ?yu2x8 (by assumption) ?ru2x8
      case yu2x8 => (intro w' hSw; (try dsimp only at hSw); go_simp; try (with_reducible rfl))
      simp only [List.setIfInBounds_toArray, List.set_cons_zero, List.set_cons_succ]
      refine wpAnyH_done (by kernel_rfl) ?_ _
      go_wp2_with fail
      go_ret
      exact ⟨rfl, HB⟩
  · rw [decide_eq_false hz] at hv
    have hv : false = v := by simpa using hv
    subst hv
    have hzI : (e0 != 0) = true := by simp [hz]
    have b1' := b1
    obtain ⟨⟨c0, c1, c2, c3, c4, c5, c6, c7, c8⟩, _⟩ := blk9 b1'
    clear b1'
    go_wp2_with fail
    go_ret
    exact ⟨rfl, HB⟩
end SkpW
end Go.Proofs.Ytnghmcadhjneeaa

namespace Go.Proofs.Ytnghmcadhjneeaa
set_option linter.unusedVariables false
set_option linter.unusedSimpArgs false
set_option linter.unnecessarySimpa false
open Go.RowKit
namespace SkpW
open SpanW (R rv meetsB emptyB trimR)

set_option maxRecDepth 100000 in
set_option maxHeartbeats 8000000 in
theorem refSegment_any (q : Qy) (e1 : En) (v : Bool) (hv : segB q e1 = v) (w : World) (h2 : q.s2 ≤ 9223372036854775807) (hf : e1.frst ≤ 9223372036854775807) :
    Calls Try.prog 47 #[qv q, .agg (ec e1)] w fun e w' => e = .returned (.bool v) ∧ Below w.heap.size w w' := by
  obtain ⟨e0, he⟩ : ∃ x, chkE e1 = x := ⟨_, rfl⟩
  have C0 := Lib.hid (fun w => refEcheck_any e1 e0 he w)
  unfold segB at hv
  rw [he] at hv
  have hhi := of_hi q h2
  obtain ⟨k0, hk⟩ : ∃ x, chkQ q = x := ⟨_, rfl⟩
  have C1 := Lib.hid (fun w => refCheck_any q k0 hk w)
  have C2 := Lib.hid (fun w => refSeqs_any q w h2)
  have C3 := Lib.hid (fun w => refEseqs_any e1 w)
  have C4 := Lib.hid (fun w => refEticks_any e1 w)
  have C5 := Lib.hid (fun w v hv => rMeets_eq (ofQ q).2 (sE e1) v hv w)
  have C6 := Lib.hid (fun w v hv => rMeets_eq (q.t1, q.t2) (tE e1) v hv w)
  have C7 := Lib.hid (fun w => SpanW.refEmpty_any (ofQ q).2.1 (ofQ q).2.2 w)
  have hno : ¬ k0 = 0 → false = v := by
    intro hz
    have hq : ¬ chkQ q = 0 := by rw [hk]; exact hz
    rw [meetsA_no q hq] at hv
    have : (ofQ q).2 = (1, 0) := by unfold ofQ; rw [if_neg hq]
    rw [this, meets_no] at hv
    simpa using hv
  have hyes : k0 = 0 → (decide (e0 = 0) && (if e1.shut then (meetsB (ofQ q).2 (sE e1) && meetsB (q.t1, q.t2) (tE e1)) else (!emptyB (ofQ q).2.1 (ofQ q).2.2 && decide (e1.frst ≤ (ofQ q).2.2)))) = v := by
    intro hz
    rw [meetsA_yes q (by rw [hk]; exact hz), open_meets _ _ hhi hf] at hv
    exact hv
  generalize sE e1 = se at *
  generalize tE e1 = te at *
  generalize (ofQ q).2 = a at *
  clear he hk hv hhi hf
  obtain ⟨i, g, f, s, co, bl, ea, la, bs⟩ := e1
  have b0 := (Blk.new w 67 (qc q)).alloc (.cells (ec ⟨i, g, f, s, co, bl, ea, la, bs⟩) 82)
  have b1 := Blk.new (w.alloc (.cells (qc q) 67)) 82 (ec ⟨i, g, f, s, co, bl, ea, la, bs⟩)
  rw [World.size_alloc] at b1
  have HB : Below w.heap.size w ((w.alloc (.cells (qc q) 67)).alloc (.cells (ec ⟨i, g, f, s, co, bl, ea, la, bs⟩) 82)) := hb2 w _ _
  dsimp only at hyes
  have b0' := b0
  obtain ⟨d0, d1, d2, d3, d4, d5, d6⟩ := blk7 b0'
  clear b0'
  go_enter Try.func47, Try.ntmps47
  go_wp2_with fail
  refine (C1.out _).mono ?_
  clear C1
  rintro e wa ⟨rfl, hb1⟩
  replace b0 := b0.below hb1 b0.lt
  replace b1 := b1.below hb1 b1.lt
  replace HB := HB.trans (hb1.mono HB.size)
  clear hb1 d0 d1 d2 d3 d4 d5 d6
  by_cases hkz : k0 = 0
  · have hv := hyes hkz
    subst hkz
    clear hno hyes
    have b1' := b1
    obtain ⟨⟨c0, c1, c2, c3, c4, c5, c6, c7, c8⟩, _⟩ := blk9 b1'
    clear b1'
    go_wp2_with fail
    refine (C0.out _).mono ?_
    clear C0
    rintro e wb ⟨rfl, hb2⟩
    replace b0 := b0.below hb2 b0.lt
    replace b1 := b1.below hb2 b1.lt
    replace HB := HB.trans (hb2.mono HB.size)
    clear hb2 c0 c1 c2 c3 c4 c5 c6 c7 c8
    have b1' := b1
    obtain ⟨⟨c0, c1, c2, c3, c4, c5, c6, c7, c8⟩, _⟩ := blk9 b1'
    have b0' := b0
    obtain ⟨d0, d1, d2, d3, d4, d5, d6⟩ := blk7 b0'
    clear b0' b1'
    by_cases hz : e0 = 0
    · subst hz
      cases s with
      | true =>
        obtain ⟨x, hx⟩ : ∃ x, meetsB a se = x := ⟨_, rfl⟩
        obtain ⟨y, hy⟩ : ∃ y, meetsB (q.t1, q.t2) te = y := ⟨_, rfl⟩
        have C8 := Lib.hid (fun w => C5.out w x hx)
        have C9 := Lib.hid (fun w => C6.out w y hy)
        have hv : (x && y) = v := by rw [← hx, ← hy]; simpa using hv
        clear hx hy C5 C6
        subst hv
        cases x with
        | true =>
          have hbl := b1.lt
          go_wp2_with fail
          refine wp_region_held_drew (S := (fun w' => (w'.cell? ⟨w.heap.size, 0, none⟩ = some (.int .i64 q.s1) ∧ w'.cell? ⟨w.heap.size, 1, none⟩ = some (.int .i64 q.s2) ∧ w'.cell? ⟨w.heap.size, 2, none⟩ = some (.int .i64 q.t1) ∧ w'.cell? ⟨w.heap.size, 3, none⟩ = some (.int .i64 q.t2) ∧ w'.cell? ⟨w.heap.size, 4, none⟩ = some (str q.find) ∧ w'.cell? ⟨w.heap.size, 5, none⟩ = some (.int .i64 q.limit) ∧ w'.cell? ⟨w.heap.size, 6, none⟩ = some (.int .i64 q.frm)) ∧ (w'.cell? ⟨w.heap.size + 1, 0, none⟩ = some (.int .i64 i) ∧ w'.cell? ⟨w.heap.size + 1, 1, none⟩ = some (.int .i64 g) ∧ w'.cell? ⟨w.heap.size + 1, 2, none⟩ = some (.int .i64 f) ∧ w'.cell? ⟨w.heap.size + 1, 3, none⟩ = some (.bool true) ∧ w'.cell? ⟨w.heap.size + 1, 4, none⟩ = some (.int .i64 co) ∧ w'.cell? ⟨w.heap.size + 1, 5, none⟩ = some (.int .i64 bl) ∧ w'.cell? ⟨w.heap.size + 1, 6, none⟩ = some (.int .i64 ea) ∧ w'.cell? ⟨w.heap.size + 1, 7, none⟩ = some (.int .i64 la) ∧ w'.cell? ⟨w.heap.size + 1, 8, none⟩ = some (.int .i64 bs)))) (by kernel_rfl) ?_ (fun hHeld => ?_)
          · replace HB := Below.drew HB; replace b0 := Blk.drew b0; replace b1 := Blk.drew b1; (try dsimp only); exact ⟨blk7 b0, blk9c b1⟩
          replace HB := Below.drew HB
          replace b0 := Blk.drew b0
          replace b1 := Blk.drew b1
          have zHB := HB.size
          refine take_op (v := ?vu3x0) 0 (Op.load 67 (Operand.tmp 2)) 67 rfl rfl rfl rfl rfl (by kernel_rfl) (by kernel_rfl) (by kernel_rfl) (fun _ _ _ h => h) ?yu3x0 (by assumption) ?ru3x0
          case yu3x0 => (intro w' hSw; (try dsimp only at hSw); go_simp; try (with_reducible rfl))
          simp only [List.setIfInBounds_toArray, List.set_cons_zero, List.set_cons_succ]
          refine take_op (v := ?vu3x2) 2 (Op.load 82 (Operand.tmp 3)) 82 rfl rfl rfl rfl rfl (by kernel_rfl) (by kernel_rfl) (by kernel_rfl) (fun _ _ _ h => h) ?yu3x2 (by assumption) ?ru3x2
          case yu3x2 => (intro w' hSw; (try dsimp only at hSw); go_simp; try (with_reducible rfl))
          simp only [List.setIfInBounds_toArray, List.set_cons_zero, List.set_cons_succ]
          refine wpAnyH_ready (rs := [1]) (by kernel_rfl) (by simp) (AllReadyH.cons rfl (fun K1 hK1 => ?ku3x1) AllReadyH.nil)
          refine take_calls 1 40 [Operand.tmp 16] #[67] rfl rfl (by kernel_rfl) (fun args w => run_enter Try.func40 (by kernel_rfl) rfl args w) ?_
          refine (C2.out _).mono ?_
          rintro e w1 ⟨rfl, hb1⟩
          refine ⟨_, rfl, ?_⟩
          have z1 := hb1.size
          try simp only [World.size_drew] at z1
          replace HB := HB.trans (hb1.mono HB.size)
          have zHB1 := HB.size
          replace b0 := Blk.below b0 hb1 (by first | exact Nat.le_refl _ | (simp only [World.size_alloc, World.size_setCell, World.size_drew] at *; omega) | omega)
          replace b1 := Blk.below b1 hb1 (by first | exact Nat.le_refl _ | (simp only [World.size_alloc, World.size_setCell, World.size_drew] at *; omega) | omega)
          refine hK1.out _ _ ?su3x1 (fun hHeld => ?ru3x1)
          case su3x1 => ((try dsimp only); exact ⟨blk7 b0, blk9c b1⟩)
          try simp only [List.setIfInBounds_toArray, List.set_cons_zero, List.set_cons_succ]
          refine wpAnyH_ready (rs := [3]) (by kernel_rfl) (by simp) (AllReadyH.cons rfl (fun K3 hK3 => ?ku3x3) AllReadyH.nil)
          refine take_calls 3 87 [Operand.tmp 18] #[82] rfl rfl (by kernel_rfl) (fun args w => run_enter Try.func87 (by kernel_rfl) rfl args w) ?_
          refine (C3.out _).mono ?_
          rintro e w3 ⟨rfl, hb3⟩
          refine ⟨_, rfl, ?_⟩
          have z3 := hb3.size
          try simp only [World.size_drew] at z3
          replace HB := HB.trans (hb3.mono HB.size)
          have zHB3 := HB.size
          replace b0 := Blk.below b0 hb3 (by first | exact Nat.le_refl _ | (simp only [World.size_alloc, World.size_setCell, World.size_drew] at *; omega) | omega)
          replace b1 := Blk.below b1 hb3 (by first | exact Nat.le_refl _ | (simp only [World.size_alloc, World.size_setCell, World.size_drew] at *; omega) | omega)
          refine hK3.out _ _ ?su3x3 (fun hHeld => ?ru3x3)
          case su3x3 => ((try dsimp only); exact ⟨blk7 b0, blk9c b1⟩)
          try simp only [List.setIfInBounds_toArray, List.set_cons_zero, List.set_cons_succ]
          refine wpAnyH_ready (rs := [4]) (by kernel_rfl) (by simp) (AllReadyH.cons rfl (fun K4 hK4 => ?ku3x4) AllReadyH.nil)
          refine take_calls 4 80 [Operand.tmp 17, Operand.tmp 19] #[65, 65] rfl rfl (by kernel_rfl) (fun args w => run_enter Try.func80 (by kernel_rfl) rfl args w) ?_
          refine (C8.out _).mono ?_
          rintro e w4 ⟨rfl, hb4⟩
          refine ⟨_, rfl, ?_⟩
          have z4 := hb4.size
          try simp only [World.size_drew] at z4
          replace HB := HB.trans (hb4.mono HB.size)
          have zHB4 := HB.size
          replace b0 := Blk.below b0 hb4 (by first | exact Nat.le_refl _ | (simp only [World.size_alloc, World.size_setCell, World.size_drew] at *; omega) | omega)
          replace b1 := Blk.below b1 hb4 (by first | exact Nat.le_refl _ | (simp only [World.size_alloc, World.size_setCell, World.size_drew] at *; omega) | omega)
          refine hK4.out _ _ ?su3x4 (fun hHeld => ?ru3x4)
          case su3x4 => ((try dsimp only); exact ⟨blk7 b0, blk9c b1⟩)
          try simp only [List.setIfInBounds_toArray, List.set_cons_zero, List.set_cons_succ]
          refine take_move 5 (Operand.tmp 20) rfl rfl (by first | exact .inl rfl | exact .inr rfl) rfl (by kernel_rfl) (by kernel_rfl) (by kernel_rfl) (fun _ _ _ h => h) (by assumption) ?_
          simp only [List.setIfInBounds_toArray, List.set_cons_zero, List.set_cons_succ]
          refine take_op (v := ?vu3x6) 6 (Op.fieldAddr 67 (Operand.tmp 2) 1) 0 rfl rfl rfl rfl rfl (by kernel_rfl) (by kernel_rfl) (by kernel_rfl) (fun _ _ _ h => h) ?yu3x6 (by assumption) ?ru3x6
          case yu3x6 => (intro w' hSw; (try dsimp only at hSw); go_simp; try (with_reducible rfl))
          simp only [List.setIfInBounds_toArray, List.set_cons_zero, List.set_cons_succ]
          refine take_op (v := ?vu3x7) 7 (Op.load 65 (Operand.tmp 22)) 65 rfl rfl rfl rfl rfl (by kernel_rfl) (by kernel_rfl) (by kernel_rfl) (fun _ _ _ h => h) ?yu3x7 (by assumption) ?ru3x7
          case yu3x7 => (intro w' hSw; (try dsimp only at hSw); go_simp; try (with_reducible rfl))
          simp only [List.setIfInBounds_toArray, List.set_cons_zero, List.set_cons_succ]
          refine take_op (v := ?vu3x8) 8 (Op.load 82 (Operand.tmp 3)) 82 rfl rfl rfl rfl rfl (by kernel_rfl) (by kernel_rfl) (by kernel_rfl) (fun _ _ _ h => h) ?yu3x8 (by assumption) ?ru3x8
          case yu3x8 => (intro w' hSw; (try dsimp only at hSw); go_simp; try (with_reducible rfl))
          simp only [List.setIfInBounds_toArray, List.set_cons_zero, List.set_cons_succ]
          refine wpAnyH_ready (rs := [9]) (by kernel_rfl) (by simp) (AllReadyH.cons rfl (fun K9 hK9 => ?ku3x9) AllReadyH.nil)
          refine take_calls 9 88 [Operand.tmp 24] #[82] rfl rfl (by kernel_rfl) (fun args w => run_enter Try.func88 (by kernel_rfl) rfl args w) ?_
          refine (C4.out _).mono ?_
          rintro e w9 ⟨rfl, hb9⟩
          refine ⟨_, rfl, ?_⟩
          have z9 := hb9.size
          try simp only [World.size_drew] at z9
          replace HB := HB.trans (hb9.mono HB.size)
          have zHB9 := HB.size
          replace b0 := Blk.below b0 hb9 (by first | exact Nat.le_refl _ | (simp only [World.size_alloc, World.size_setCell, World.size_drew] at *; omega) | omega)
          replace b1 := Blk.below b1 hb9 (by first | exact Nat.le_refl _ | (simp only [World.size_alloc, World.size_setCell, World.size_drew] at *; omega) | omega)
          refine hK9.out _ _ ?su3x9 (fun hHeld => ?ru3x9)
          case su3x9 => ((try dsimp only); exact ⟨blk7 b0, blk9c b1⟩)
          try simp only [List.setIfInBounds_toArray, List.set_cons_zero, List.set_cons_succ]
          refine wpAnyH_ready (rs := [10]) (by kernel_rfl) (by simp) (AllReadyH.cons rfl (fun K10 hK10 => ?ku3x10) AllReadyH.nil)
          refine take_calls 10 80 [Operand.tmp 23, Operand.tmp 25] #[65, 65] rfl rfl (by kernel_rfl) (fun args w => run_enter Try.func80 (by kernel_rfl) rfl args w) ?_
          refine (C9.out _).mono ?_
          rintro e w10 ⟨rfl, hb10⟩
          refine ⟨_, rfl, ?_⟩
          have z10 := hb10.size
          try simp only [World.size_drew] at z10
          replace HB := HB.trans (hb10.mono HB.size)
          have zHB10 := HB.size
          replace b0 := Blk.below b0 hb10 (by first | exact Nat.le_refl _ | (simp only [World.size_alloc, World.size_setCell, World.size_drew] at *; omega) | omega)
          replace b1 := Blk.below b1 hb10 (by first | exact Nat.le_refl _ | (simp only [World.size_alloc, World.size_setCell, World.size_drew] at *; omega) | omega)
          refine hK10.out _ _ ?su3x10 (fun hHeld => ?ru3x10)
          case su3x10 => ((try dsimp only); exact ⟨blk7 b0, blk9c b1⟩)
          try simp only [List.setIfInBounds_toArray, List.set_cons_zero, List.set_cons_succ]
          refine take_op (v := ?vu3x11) 11 (Op.pick (Operand.tmp 21) (Operand.tmp 26) (Operand.const (Value.bool false))) 4 rfl rfl rfl rfl rfl (by kernel_rfl) (by kernel_rfl) (by kernel_rfl) (fun _ _ _ h => h) ?yu3x11 (by assumption) ?ru3x11
          case yu3x11 => (intro w' hSw; (try dsimp only at hSw); go_simp; try (with_reducible rfl))
          simp only [List.setIfInBounds_toArray, List.set_cons_zero, List.set_cons_succ]
          refine take_op (v := ?vu3x12) 12 (Op.assign (Operand.tmp 27)) 4 rfl rfl rfl rfl rfl (by kernel_rfl) (by kernel_rfl) (by kernel_rfl) (fun _ _ _ h => h) ?yu3x12 (by assumption) ?ru3x12
          case yu3x12 => (intro w' hSw; (try dsimp only at hSw); go_simp; try (with_reducible rfl))
          simp only [List.setIfInBounds_toArray, List.set_cons_zero, List.set_cons_succ]
          refine wpAnyH_done (by kernel_rfl) ?_ _
          go_wp2_with fail
          go_ret
          exact ⟨rfl, HB⟩
        | false =>
          have hbl := b1.lt
          go_wp2_with fail
          refine wp_region_held_drew (S := (fun w' => (w'.cell? ⟨w.heap.size, 0, none⟩ = some (.int .i64 q.s1) ∧ w'.cell? ⟨w.heap.size, 1, none⟩ = some (.int .i64 q.s2) ∧ w'.cell? ⟨w.heap.size, 2, none⟩ = some (.int .i64 q.t1) ∧ w'.cell? ⟨w.heap.size, 3, none⟩ = some (.int .i64 q.t2) ∧ w'.cell? ⟨w.heap.size, 4, none⟩ = some (str q.find) ∧ w'.cell? ⟨w.heap.size, 5, none⟩ = some (.int .i64 q.limit) ∧ w'.cell? ⟨w.heap.size, 6, none⟩ = some (.int .i64 q.frm)) ∧ (w'.cell? ⟨w.heap.size + 1, 0, none⟩ = some (.int .i64 i) ∧ w'.cell? ⟨w.heap.size + 1, 1, none⟩ = some (.int .i64 g) ∧ w'.cell? ⟨w.heap.size + 1, 2, none⟩ = some (.int .i64 f) ∧ w'.cell? ⟨w.heap.size + 1, 3, none⟩ = some (.bool true) ∧ w'.cell? ⟨w.heap.size + 1, 4, none⟩ = some (.int .i64 co) ∧ w'.cell? ⟨w.heap.size + 1, 5, none⟩ = some (.int .i64 bl) ∧ w'.cell? ⟨w.heap.size + 1, 6, none⟩ = some (.int .i64 ea) ∧ w'.cell? ⟨w.heap.size + 1, 7, none⟩ = some (.int .i64 la) ∧ w'.cell? ⟨w.heap.size + 1, 8, none⟩ = some (.int .i64 bs)))) (by kernel_rfl) ?_ (fun hHeld => ?_)
          · replace HB := Below.drew HB; replace b0 := Blk.drew b0; replace b1 := Blk.drew b1; (try dsimp only); exact ⟨blk7 b0, blk9c b1⟩
          replace HB := Below.drew HB
          replace b0 := Blk.drew b0
          replace b1 := Blk.drew b1
          have zHB := HB.size
          refine take_op (v := ?vu4x0) 0 (Op.load 67 (Operand.tmp 2)) 67 rfl rfl rfl rfl rfl (by kernel_rfl) (by kernel_rfl) (by kernel_rfl) (fun _ _ _ h => h) ?yu4x0 (by assumption) ?ru4x0
          case yu4x0 => (intro w' hSw; (try dsimp only at hSw); go_simp; try (with_reducible rfl))
          simp only [List.setIfInBounds_toArray, List.set_cons_zero, List.set_cons_succ]
          refine take_op (v := ?vu4x2) 2 (Op.load 82 (Operand.tmp 3)) 82 rfl rfl rfl rfl rfl (by kernel_rfl) (by kernel_rfl) (by kernel_rfl) (fun _ _ _ h => h) ?yu4x2 (by assumption) ?ru4x2
          case yu4x2 => (intro w' hSw; (try dsimp only at hSw); go_simp; try (with_reducible rfl))
          simp only [List.setIfInBounds_toArray, List.set_cons_zero, List.set_cons_succ]
          refine wpAnyH_ready (rs := [1]) (by kernel_rfl) (by simp) (AllReadyH.cons rfl (fun K1 hK1 => ?ku4x1) AllReadyH.nil)
          refine take_calls 1 40 [Operand.tmp 16] #[67] rfl rfl (by kernel_rfl) (fun args w => run_enter Try.func40 (by kernel_rfl) rfl args w) ?_
          refine (C2.out _).mono ?_
          rintro e w1 ⟨rfl, hb1⟩
          refine ⟨_, rfl, ?_⟩
          have z1 := hb1.size
          try simp only [World.size_drew] at z1
          replace HB := HB.trans (hb1.mono HB.size)
          have zHB1 := HB.size
          replace b0 := Blk.below b0 hb1 (by first | exact Nat.le_refl _ | (simp only [World.size_alloc, World.size_setCell, World.size_drew] at *; omega) | omega)
          replace b1 := Blk.below b1 hb1 (by first | exact Nat.le_refl _ | (simp only [World.size_alloc, World.size_setCell, World.size_drew] at *; omega) | omega)
          refine hK1.out _ _ ?su4x1 (fun hHeld => ?ru4x1)
          case su4x1 => ((try dsimp only); exact ⟨blk7 b0, blk9c b1⟩)
          try simp only [List.setIfInBounds_toArray, List.set_cons_zero, List.set_cons_succ]
          refine wpAnyH_ready (rs := [3]) (by kernel_rfl) (by simp) (AllReadyH.cons rfl (fun K3 hK3 => ?ku4x3) AllReadyH.nil)
          refine take_calls 3 87 [Operand.tmp 18] #[82] rfl rfl (by kernel_rfl) (fun args w => run_enter Try.func87 (by kernel_rfl) rfl args w) ?_
          refine (C3.out _).mono ?_
          rintro e w3 ⟨rfl, hb3⟩
          refine ⟨_, rfl, ?_⟩
          have z3 := hb3.size
          try simp only [World.size_drew] at z3
          replace HB := HB.trans (hb3.mono HB.size)
          have zHB3 := HB.size
          replace b0 := Blk.below b0 hb3 (by first | exact Nat.le_refl _ | (simp only [World.size_alloc, World.size_setCell, World.size_drew] at *; omega) | omega)
          replace b1 := Blk.below b1 hb3 (by first | exact Nat.le_refl _ | (simp only [World.size_alloc, World.size_setCell, World.size_drew] at *; omega) | omega)
          refine hK3.out _ _ ?su4x3 (fun hHeld => ?ru4x3)
          case su4x3 => ((try dsimp only); exact ⟨blk7 b0, blk9c b1⟩)
          try simp only [List.setIfInBounds_toArray, List.set_cons_zero, List.set_cons_succ]
          refine wpAnyH_ready (rs := [4]) (by kernel_rfl) (by simp) (AllReadyH.cons rfl (fun K4 hK4 => ?ku4x4) AllReadyH.nil)
          refine take_calls 4 80 [Operand.tmp 17, Operand.tmp 19] #[65, 65] rfl rfl (by kernel_rfl) (fun args w => run_enter Try.func80 (by kernel_rfl) rfl args w) ?_
          refine (C8.out _).mono ?_
          rintro e w4 ⟨rfl, hb4⟩
          refine ⟨_, rfl, ?_⟩
          have z4 := hb4.size
          try simp only [World.size_drew] at z4
          replace HB := HB.trans (hb4.mono HB.size)
          have zHB4 := HB.size
          replace b0 := Blk.below b0 hb4 (by first | exact Nat.le_refl _ | (simp only [World.size_alloc, World.size_setCell, World.size_drew] at *; omega) | omega)
          replace b1 := Blk.below b1 hb4 (by first | exact Nat.le_refl _ | (simp only [World.size_alloc, World.size_setCell, World.size_drew] at *; omega) | omega)
          refine hK4.out _ _ ?su4x4 (fun hHeld => ?ru4x4)
          case su4x4 => ((try dsimp only); exact ⟨blk7 b0, blk9c b1⟩)
          try simp only [List.setIfInBounds_toArray, List.set_cons_zero, List.set_cons_succ]
          refine take_move 5 (Operand.tmp 20) rfl rfl (by first | exact .inl rfl | exact .inr rfl) rfl (by kernel_rfl) (by kernel_rfl) (by kernel_rfl) (fun _ _ _ h => h) (by assumption) ?_
          simp only [List.setIfInBounds_toArray, List.set_cons_zero, List.set_cons_succ]
          refine take_skip 6 rfl rfl rfl (by kernel_rfl) (by kernel_rfl) (by kernel_rfl) (fun _ _ _ h => h) (by assumption) ?_
          simp only [List.setIfInBounds_toArray, List.set_cons_zero, List.set_cons_succ]
          refine take_skip 7 rfl rfl rfl (by kernel_rfl) (by kernel_rfl) (by kernel_rfl) (fun _ _ _ h => h) (by assumption) ?_
          simp only [List.setIfInBounds_toArray, List.set_cons_zero, List.set_cons_succ]
          refine take_skip 8 rfl rfl rfl (by kernel_rfl) (by kernel_rfl) (by kernel_rfl) (fun _ _ _ h => h) (by assumption) ?_
          simp only [List.setIfInBounds_toArray, List.set_cons_zero, List.set_cons_succ]
          refine take_skip 9 rfl rfl rfl (by kernel_rfl) (by kernel_rfl) (by kernel_rfl) (fun _ _ _ h => h) (by assumption) ?_
          simp only [List.setIfInBounds_toArray, List.set_cons_zero, List.set_cons_succ]
          refine take_skip 10 rfl rfl rfl (by kernel_rfl) (by kernel_rfl) (by kernel_rfl) (fun _ _ _ h => h) (by assumption) ?_
          simp only [List.setIfInBounds_toArray, List.set_cons_zero, List.set_cons_succ]
          refine take_op (v := ?vu4x11) 11 (Op.pick (Operand.tmp 21) (Operand.tmp 26) (Operand.const (Value.bool false))) 4 rfl rfl rfl rfl rfl (by kernel_rfl) (by kernel_rfl) (by kernel_rfl) (fun _ _ _ h => h) ?yu4x11 (by assumption) ?ru4x11
          case yu4x11 => (intro w' hSw; (try dsimp only at hSw); go_simp; try (with_reducible rfl))
          simp only [List.setIfInBounds_toArray, List.set_cons_zero, List.set_cons_succ]
          refine take_op (v := ?vu4x12) 12 (Op.assign (Operand.tmp 27)) 4 rfl rfl rfl rfl rfl (by kernel_rfl) (by kernel_rfl) (by kernel_rfl) (fun _ _ _ h => h) ?yu4x12 (by assumption) ?ru4x12
          case yu4x12 => (intro w' hSw; (try dsimp only at hSw); go_simp; try (with_reducible rfl))
          simp only [List.setIfInBounds_toArray, List.set_cons_zero, List.set_cons_succ]
          refine wpAnyH_done (by kernel_rfl) ?_ _
          go_wp2_with fail
          go_ret
          exact ⟨rfl, HB⟩
      | false =>
        have hv : (!emptyB a.1 a.2 && decide (f ≤ a.2)) = v := by simpa using hv
        obtain ⟨r1, r2⟩ := a
        dsimp only at hv
        generalize emptyB r1 r2 = em at *
        clear C3 C4 C5 C6
        go_wp2_with fail
        refine (C2.out _).mono ?_
        rintro e wc ⟨rfl, hb3⟩
        replace b1 := (b1.below hb3 b1.lt).alloc (.cells #[.int .i64 r1, .int .i64 r2] 65)
        replace HB := HB.trans (hb3.mono HB.size)
        have HB2 := HB.alloc HB.size (.cells #[.int .i64 r1, .int .i64 r2] 65)
        have bS := Blk.new wc 65 #[.int .i64 r1, .int .i64 r2]
        clear hb3 c0 c1 c2 c3 c4 c5 c6 c7 c8 d0 d1 d2 d3 d4 d5 d6
        go_wp2_with fail
        refine (C7.out _).mono ?_
        rintro e w4 ⟨rfl, hb4⟩
        replace b1 := b1.below hb4 b1.lt
        replace bS := bS.below hb4 bS.lt
        replace HB2 := HB2.trans (hb4.mono HB2.size)
        obtain ⟨⟨c0, c1, c2, c3, c4, c5, c6, c7, c8⟩, _⟩ := blk9 b1
        obtain ⟨u0, u1, _, _, _⟩ := blk2 bS
        cases em with
        | true =>
          have hv : false = v := by simpa using hv
          subst hv
          go_wp2_with fail
          go_ret
          exact ⟨rfl, HB2⟩
        | false =>
          have hv : decide (f ≤ r2) = v := by simpa using hv
          subst hv
          go_wp2_with fail
          go_ret
          exact ⟨rfl, HB2⟩
    · rw [decide_eq_false hz] at hv
      have hv : false = v := by simpa using hv
      subst hv
      have hzI : (e0 != 0) = true := by simp [hz]
      go_wp2_with fail
      go_ret
      exact ⟨rfl, HB⟩
  · obtain rfl := hno hkz
    have hzI : (k0 != 0) = true := by simp [hkz]
    clear hyes hno
    go_wp2_with fail
    go_ret
    exact ⟨rfl, HB⟩
end SkpW
end Go.Proofs.Ytnghmcadhjneeaa
