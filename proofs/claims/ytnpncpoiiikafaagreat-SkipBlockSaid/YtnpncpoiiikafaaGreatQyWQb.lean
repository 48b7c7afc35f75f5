/- The walks of package skip: what a query is. -/
import Derived.Test.YtnpncpoiiikafaaGreatMemQb
import Derived.Test.YtnpncpoiiikafaaGreatSpanWQb
import Derived.Test.YtnpncpoiiikafaaGreatKmpPQb
import Derived.Test.YtnpncpoiiikafaaGreatLenWQb
namespace Go.Proofs.YtnpncpoiiikafaaGreat
set_option linter.unusedVariables false
set_option linter.unusedSimpArgs false
set_option linter.unnecessarySimpa false
open Go.RowKit
namespace SkpW

/-- A query: its numbers, its times, what is looked for, its limit, its floor. -/
structure Qy where
  s1 : Int
  s2 : Int
  t1 : Int
  t2 : Int
  find : List UInt8
  limit : Int
  frm : Int
abbrev qv (q : Qy) : Value := .agg #[.int .i64 q.s1, .int .i64 q.s2, .int .i64 q.t1, .int .i64 q.t2, str q.find, .int .i64 q.limit, .int .i64 q.frm]
abbrev qc (q : Qy) : Array Value := #[.int .i64 q.s1, .int .i64 q.s2, .int .i64 q.t1, .int .i64 q.t2, str q.find, .int .i64 q.limit, .int .i64 q.frm]
def chkQ (q : Qy) : Int := if q.limit < 1 ∨ 1000 < q.limit ∨ 200 < q.find.length ∨ q.frm < 0 ∨ 1000000001 < q.frm then 320 else 0
theorem chk_cases (q : Qy) : (chkQ q = 320 ∧ (q.limit < 1 ∨ (¬ q.limit < 1 ∧ 1000 < q.limit) ∨ (¬ q.limit < 1 ∧ ¬ 1000 < q.limit ∧ (200 : Int) < q.find.length) ∨ (¬ q.limit < 1 ∧ ¬ 1000 < q.limit ∧ ¬ (200 : Int) < q.find.length ∧ q.frm < 0) ∨
    (¬ q.limit < 1 ∧ ¬ 1000 < q.limit ∧ ¬ (200 : Int) < q.find.length ∧ ¬ q.frm < 0 ∧ 1000000001 < q.frm))) ∨ (chkQ q = 0 ∧ ¬ q.limit < 1 ∧ ¬ 1000 < q.limit ∧ ¬ (200 : Int) < q.find.length ∧ ¬ q.frm < 0 ∧ ¬ 1000000001 < q.frm) := by
  unfold chkQ
  split
  · exact .inl ⟨rfl, by omega⟩
  · exact .inr ⟨rfl, by omega⟩
theorem blk7 {w : World} {g : Nat} {t : TypeId} {a0 a1 a2 a3 a4 a5 a6 : Value} (h : Blk w g t #[a0, a1, a2, a3, a4, a5, a6]) :
    w.cell? ⟨g, 0, none⟩ = some a0 ∧ w.cell? ⟨g, 1, none⟩ = some a1 ∧ w.cell? ⟨g, 2, none⟩ = some a2 ∧ w.cell? ⟨g, 3, none⟩ = some a3 ∧ w.cell? ⟨g, 4, none⟩ = some a4 ∧ w.cell? ⟨g, 5, none⟩ = some a5 ∧ w.cell? ⟨g, 6, none⟩ = some a6 :=
  ⟨h.cell_ 0 rfl, h.cell_ 1 rfl, h.cell_ 2 rfl, h.cell_ 3 rfl, h.cell_ 4 rfl, h.cell_ 5 rfl, h.cell_ 6 rfl⟩

set_option maxRecDepth 100000 in
set_option maxHeartbeats 2000000 in
theorem check_any (q : Qy) (e0 : Int) (he : chkQ q = e0) (w : World) :
    Calls Tryz.prog 65 #[qv q] w fun e w' => e = .returned (.int .i64 e0) ∧ Below w.heap.size w w' := by
  obtain ⟨s1, s2, t1, t2, fd, li, fr⟩ := q
  have HC := chk_cases ⟨s1, s2, t1, t2, fd, li, fr⟩
  rw [he] at HC
  dsimp only at HC
  clear he
  have b0 := Blk.new w 58 (qc ⟨s1, s2, t1, t2, fd, li, fr⟩)
  have hb : Below w.heap.size w (w.alloc (.cells (qc ⟨s1, s2, t1, t2, fd, li, fr⟩) 58)) := (Below.refl _ w).alloc (Nat.le_refl _) _
  obtain ⟨c0, c1, c2, c3, c4, c5, c6⟩ := blk7 b0
  rcases HC with ⟨rfl, h | ⟨h1, h⟩ | ⟨h1, h2, h⟩ | ⟨h1, h2, h3, h⟩ | ⟨h1, h2, h3, h4, h⟩⟩ | ⟨rfl, h1, h2, h3, h4, h⟩
  all_goals
    go_enter Tryz.func65, Tryz.ntmps65
    go_wp2_with fail
    first
      | (go_ret; exact ⟨rfl, hb⟩)
      | (go_quiet (fail); go_wp2; go_ret; exact ⟨rfl, Below.drewN_ hb _⟩)
end SkpW
end Go.Proofs.YtnpncpoiiikafaaGreat


namespace Go.Proofs.YtnpncpoiiikafaaGreat
set_option linter.unusedVariables false
set_option linter.unusedSimpArgs false
set_option linter.unnecessarySimpa false
open Go.RowKit
namespace SkpW
open SpanW (R rv trimR hasB)

theorem results_row1 {P : Program} {fn : Func} {p : Tmp} {ty : TypeId} (h : fn.results = #[.cell p ty]) (tmps : Array Value) (w : World) (g : Nat) (t : TypeId) (cs : Array Value) (fr : Nat × Nat) (d : TypeDesc)
    (hp : tmps.getD p undef = .pointer (some ⟨g, 0, none⟩)) (hg : w.heap[g]? = some (.cells cs t fr))
    (hu : P.underlying ty = some d) (hd : (match d with | .struct _ | .array _ _ => true | _ => false) = true) (hi : (P.info? ty).map (·.size) = some cs.size) :
    (results fn tmps).run P w = .ok (.agg cs) w := by
  have hp' : tmps[p]?.getD undef = .pointer (some ⟨g, 0, none⟩) := by simpa using hp
  simp [results, h, hp', asAddr, run_loadVar_row w g t ty cs fr d hg hu hd hi]
abbrev zeroQ : Qy := ⟨0, 0, 1, 0, [], 0, 0⟩
def ofQ (q : Qy) : Qy × R := if chkQ q = 0 then (q, trimR (q.s1, q.s2) q.frm) else (zeroQ, (1, 0))
abbrev ac (a : Qy × R) : Array Value := #[.int .i64 a.1.s1, .int .i64 a.1.s2, .int .i64 a.1.t1, .int .i64 a.1.t2, str a.1.find, .int .i64 a.1.limit, .int .i64 a.1.frm, .int .i64 a.2.1, .int .i64 a.2.2]
abbrev av (a : Qy × R) : Value := .agg (ac a)
theorem blk9 {w : World} {g : Nat} {t : TypeId} {a0 a1 a2 a3 a4 a5 a6 a7 a8 : Value} (h : Blk w g t #[a0, a1, a2, a3, a4, a5, a6, a7, a8]) :
    (w.cell? ⟨g, 0, none⟩ = some a0 ∧ w.cell? ⟨g, 1, none⟩ = some a1 ∧ w.cell? ⟨g, 2, none⟩ = some a2 ∧ w.cell? ⟨g, 3, none⟩ = some a3 ∧ w.cell? ⟨g, 4, none⟩ = some a4 ∧ w.cell? ⟨g, 5, none⟩ = some a5 ∧ w.cell? ⟨g, 6, none⟩ = some a6 ∧ w.cell? ⟨g, 7, none⟩ = some a7 ∧ w.cell? ⟨g, 8, none⟩ = some a8) ∧
    (∀ i, w.frozen? ⟨g, i, none⟩ = false) :=
  ⟨⟨h.cell_ 0 rfl, h.cell_ 1 rfl, h.cell_ 2 rfl, h.cell_ 3 rfl, h.cell_ 4 rfl, h.cell_ 5 rfl, h.cell_ 6 rfl, h.cell_ 7 rfl, h.cell_ 8 rfl⟩, fun i => h.frozen i⟩

set_option maxRecDepth 100000 in
set_option maxHeartbeats 2000000 in
theorem of_no (q : Qy) (he : ¬ chkQ q = 0) (w : World) :
    Calls Tryz.prog 67 #[qv q] w fun e w' => e = .returned (av (zeroQ, (1, 0))) ∧ Below w.heap.size w w' := by
  have h320 : chkQ q = 320 := by unfold chkQ at he ⊢; split at he <;> simp_all
  go_enter Tryz.func67, Tryz.ntmps67
  go_wp2_with fail
  refine (check_any q 320 h320 _).mono ?_
  rintro e w1 ⟨rfl, hb1⟩
  have b1 := Blk.new (w.alloc (.cells (qc q) 58)) 129 #[.int .i64 0, .int .i64 0, .int .i64 0, .int .i64 0, str [], .int .i64 0, .int .i64 0, .int .i64 0, .int .i64 0]
  rw [World.size_alloc] at b1
  have HB : Below w.heap.size w w1 := (Below.trans (by first | exact Below.refl _ _ | (repeat (first | exact Below.refl _ _ | assumption | refine Below.drew ?_ | refine Below.drewN_ ?_ _ | refine Below.alloc ?_ (by first | exact Nat.le_refl _ | (simp; done) | (simp; omega) | omega) _ | refine Below.setCell ?_ (by first | exact Nat.le_refl _ | (simp; done) | (simp; omega) | omega) _ | (refine Below.trans ?_ (Below.mono (by assumption) (by first | exact Nat.le_refl _ | (simp; done) | (simp; omega) | omega)))))) (Below.mono hb1 (by first | exact Nat.le_refl _ | (simp only [World.size_alloc, World.size_setCell, World.size_drew]; omega) | (simp; done) | (simp; omega) | omega)))
  have hs1 := hb1.size
  rw [World.size_alloc, World.size_alloc] at hs1
  replace b1 := b1.below hb1 (by simp)
  have b1' := b1.alloc (.cells #[.int .i64 1, .int .i64 0] 56)
  obtain ⟨⟨c0, c1, c2, c3, c4, c5, c6, c7, c8⟩, f⟩ := blk9 b1'
  clear b1'
  have f0 := f 0
  have f1 := f 1
  have f2 := f 2
  have f3 := f 3
  have f4 := f 4
  have f5 := f 5
  have f6 := f 6
  have f7 := f 7
  have f8 := f 8
  clear hb1 f
  go_wp2_with fail
  have bN := ((((((((((b1.alloc (.cells #[.int .i64 1, .int .i64 0] 56)).set 0 (.int .i64 0)).set 1 (.int .i64 0)).set 2 (.int .i64 1)).set 3 (.int .i64 0)).set 4 (str [])).set 5 (.int .i64 0)).set 6 (.int .i64 0)).set 7 (.int .i64 1)).set 8 (.int .i64 0))
  have bN' := blk_eq (cs' := ac (zeroQ, (1, 0))) bN (by simp [ac])
  have hN := (((((((((HB.alloc HB.size (.cells #[.int .i64 1, .int .i64 0] 56)).setCell (p := ⟨w.heap.size + 1, 0, none⟩) (by simp) (.int .i64 0)).setCell (p := ⟨w.heap.size + 1, 1, none⟩) (by simp) (.int .i64 0)).setCell (p := ⟨w.heap.size + 1, 2, none⟩) (by simp) (.int .i64 1)).setCell (p := ⟨w.heap.size + 1, 3, none⟩) (by simp) (.int .i64 0)).setCell (p := ⟨w.heap.size + 1, 4, none⟩) (by simp) (str [])).setCell (p := ⟨w.heap.size + 1, 5, none⟩) (by simp) (.int .i64 0)).setCell (p := ⟨w.heap.size + 1, 6, none⟩) (by simp) (.int .i64 0)).setCell (p := ⟨w.heap.size + 1, 7, none⟩) (by simp) (.int .i64 1)).setCell (p := ⟨w.heap.size + 1, 8, none⟩) (by simp) (.int .i64 0)
  clear bN b1
  refine bodyPost_ret (results_row1 rfl _ _ (w.heap.size + 1) 129 (ac (zeroQ, (1, 0))) (0, 0) _ rfl bN' Tryz.underlying129 rfl (by kernel_rfl)) rfl ?_
  exact ⟨rfl, hN⟩

set_option maxRecDepth 100000 in
set_option maxHeartbeats 2000000 in
theorem of_yes (q : Qy) (he : chkQ q = 0) (w : World) :
    Calls Tryz.prog 67 #[qv q] w fun e w' => e = .returned (av (q, trimR (q.s1, q.s2) q.frm)) ∧ Below w.heap.size w w' := by
  go_enter Tryz.func67, Tryz.ntmps67
  go_wp2_with fail
  refine (check_any q 0 he _).mono ?_
  rintro e w1 ⟨rfl, hb1⟩
  have b1 := Blk.new (w.alloc (.cells (qc q) 58)) 129 #[.int .i64 0, .int .i64 0, .int .i64 0, .int .i64 0, str [], .int .i64 0, .int .i64 0, .int .i64 0, .int .i64 0]
  rw [World.size_alloc] at b1
  have b0 := (Blk.new w 58 (qc q)).alloc (.cells #[.int .i64 0, .int .i64 0, .int .i64 0, .int .i64 0, str [], .int .i64 0, .int .i64 0, .int .i64 0, .int .i64 0] 129)
  have HB : Below w.heap.size w w1 := (Below.trans (by first | exact Below.refl _ _ | (repeat (first | exact Below.refl _ _ | assumption | refine Below.drew ?_ | refine Below.drewN_ ?_ _ | refine Below.alloc ?_ (by first | exact Nat.le_refl _ | (simp; done) | (simp; omega) | omega) _ | refine Below.setCell ?_ (by first | exact Nat.le_refl _ | (simp; done) | (simp; omega) | omega) _ | (refine Below.trans ?_ (Below.mono (by assumption) (by first | exact Nat.le_refl _ | (simp; done) | (simp; omega) | omega)))))) (Below.mono hb1 (by first | exact Nat.le_refl _ | (simp only [World.size_alloc, World.size_setCell, World.size_drew]; omega) | (simp; done) | (simp; omega) | omega)))
  have hs1 := hb1.size
  rw [World.size_alloc, World.size_alloc] at hs1
  replace b1 := b1.below hb1 (by simp)
  replace b0 := b0.below hb1 (by simp; omega)
  clear hb1
  go_wp2_with fail
  have zHB := HB.size
  refine wp_region_held_drew (S := (fun w' => w'.cell? ⟨w.heap.size, 0, none⟩ = some (.int .i64 q.s1) ∧ w'.cell? ⟨w.heap.size, 1, none⟩ = some (.int .i64 q.s2) ∧ w'.cell? ⟨w.heap.size, 2, none⟩ = some (.int .i64 q.t1) ∧ w'.cell? ⟨w.heap.size, 3, none⟩ = some (.int .i64 q.t2) ∧ w'.cell? ⟨w.heap.size, 4, none⟩ = some (str q.find) ∧ w'.cell? ⟨w.heap.size, 5, none⟩ = some (.int .i64 q.limit) ∧ w'.cell? ⟨w.heap.size, 6, none⟩ = some (.int .i64 q.frm))) (by kernel_rfl) ?_ (fun hHeld => ?_)
  · replace HB := Below.drew HB; replace b0 := Blk.drew b0; replace b1 := Blk.drew b1; (try dsimp only); exact blk7 b0
  replace HB := Below.drew HB
  replace b0 := Blk.drew b0
  replace b1 := Blk.drew b1
  have zHB := HB.size
  refine take_op (v := ?vu1x0) 0 (Op.load 58 (Operand.tmp 1)) 58 rfl rfl rfl rfl rfl (by kernel_rfl) (by kernel_rfl) (by kernel_rfl) (fun _ _ _ h => h) ?yu1x0 (by assumption) ?ru1x0
  case yu1x0 => (intro w' hSw; (try dsimp only at hSw); go_simp; try (with_reducible rfl))
  simp only [List.setIfInBounds_toArray, List.set_cons_zero, List.set_cons_succ]
  refine take_op (v := ?vu1x1) 1 (Op.fieldAddr 58 (Operand.tmp 1) 0) 0 rfl rfl rfl rfl rfl (by kernel_rfl) (by kernel_rfl) (by kernel_rfl) (fun _ _ _ h => h) ?yu1x1 (by assumption) ?ru1x1
  case yu1x1 => (intro w' hSw; (try dsimp only at hSw); go_simp; try (with_reducible rfl))
  simp only [List.setIfInBounds_toArray, List.set_cons_zero, List.set_cons_succ]
  refine take_op (v := ?vu1x2) 2 (Op.load 56 (Operand.tmp 13)) 56 rfl rfl rfl rfl rfl (by kernel_rfl) (by kernel_rfl) (by kernel_rfl) (fun _ _ _ h => h) ?yu1x2 (by assumption) ?ru1x2
  case yu1x2 => (intro w' hSw; (try dsimp only at hSw); go_simp; try (with_reducible rfl))
  simp only [List.setIfInBounds_toArray, List.set_cons_zero, List.set_cons_succ]
  refine take_op (v := ?vu1x3) 3 (Op.fieldAddr 58 (Operand.tmp 1) 4) 0 rfl rfl rfl rfl rfl (by kernel_rfl) (by kernel_rfl) (by kernel_rfl) (fun _ _ _ h => h) ?yu1x3 (by assumption) ?ru1x3
  case yu1x3 => (intro w' hSw; (try dsimp only at hSw); go_simp; try (with_reducible rfl))
  simp only [List.setIfInBounds_toArray, List.set_cons_zero, List.set_cons_succ]
  refine take_op (v := ?vu1x4) 4 (Op.load 3 (Operand.tmp 15)) 3 rfl rfl rfl rfl rfl (by kernel_rfl) (by kernel_rfl) (by kernel_rfl) (fun _ _ _ h => h) ?yu1x4 (by assumption) ?ru1x4
  case yu1x4 => (intro w' hSw; (try dsimp only at hSw); go_simp; try (with_reducible rfl))
  simp only [List.setIfInBounds_toArray, List.set_cons_zero, List.set_cons_succ]
  refine wpAnyH_ready (rs := [5]) (by kernel_rfl) (by simp) (AllReadyH.cons rfl (fun K5 hK5 => ?ku1x5) AllReadyH.nil)
  refine take_calls 5 121 [Operand.tmp 14, Operand.tmp 16] #[56, 3] rfl rfl (by kernel_rfl) (fun args w => run_enter Tryz.func121 (by kernel_rfl) rfl args w) ?_
  refine (SpanW.trim_any (q.s1, q.s2) q.frm _).mono ?_
  rintro e w5 ⟨rfl, hb5⟩
  refine ⟨_, rfl, ?_⟩
  have z5 := hb5.size
  try simp only [World.size_drew] at z5
  replace HB := HB.trans (hb5.mono (by first | exact HB.size | omega))
  have zHB5 := HB.size
  replace b0 := Blk.below b0 hb5 (by first | exact Nat.le_refl _ | (simp only [World.size_alloc, World.size_setCell, World.size_drew] at *; omega) | omega)
  replace b1 := Blk.below b1 hb5 (by first | exact Nat.le_refl _ | (simp only [World.size_alloc, World.size_setCell, World.size_drew] at *; omega) | omega)
  refine hK5.out _ _ ?su1x5 (fun hHeld => ?ru1x5)
  case su1x5 => ((try dsimp only); exact blk7 b0)
  try simp only [List.setIfInBounds_toArray, List.set_cons_zero, List.set_cons_succ]
  refine take_op (v := ?vu1x6) 6 (Op.build 129 #[(0, Operand.tmp 12), (1, Operand.tmp 17)]) 129 rfl rfl rfl rfl rfl (by kernel_rfl) (by kernel_rfl) (by kernel_rfl) (fun _ _ _ h => h) ?yu1x6 (by assumption) ?ru1x6
  case yu1x6 => (intro w' hSw; (try dsimp only at hSw); go_simp; try (with_reducible rfl))
  simp only [List.setIfInBounds_toArray, List.set_cons_zero, List.set_cons_succ]
  refine wpAnyH_ready (rs := [7]) (by kernel_rfl) (by simp) (AllReadyH.cons rfl (fun K7 hK7 => ?ku1x7) AllReadyH.nil)
  refine take_store 7 (Op.store 129 (Operand.tmp 2) (Operand.tmp 18)) 0 rfl rfl rfl (by kernel_rfl) (w' := (((((((((w5.setCell ⟨w.heap.size + 1, 0, none⟩ (.int .i64 q.s1)).setCell ⟨w.heap.size + 1, 1, none⟩ (.int .i64 q.s2)).setCell ⟨w.heap.size + 1, 2, none⟩ (.int .i64 q.t1)).setCell ⟨w.heap.size + 1, 3, none⟩ (.int .i64 q.t2)).setCell ⟨w.heap.size + 1, 4, none⟩ (str q.find)).setCell ⟨w.heap.size + 1, 5, none⟩ (.int .i64 q.limit)).setCell ⟨w.heap.size + 1, 6, none⟩ (.int .i64 q.frm)).setCell ⟨w.heap.size + 1, 7, none⟩ (.int .i64 (trimR (q.s1, q.s2) q.frm).1)).setCell ⟨w.heap.size + 1, 8, none⟩ (.int .i64 (trimR (q.s1, q.s2) q.frm).2))) (by obtain ⟨⟨c0, c1, c2, c3, c4, c5, c6, c7, c8⟩, f⟩ := blk9 b1; have f0 := f 0; have f1 := f 1; have f2 := f 2; have f3 := f 3; have f4 := f 4; have f5 := f 5; have f6 := f 6; have f7 := f 7; have f8 := f 8; clear f; go_simp; try (with_reducible rfl)) ?_
  refine hK7.out _ _ (blk7 (((((((((b0.far (p := ⟨w.heap.size + 1, 0, none⟩) (Nat.ne_of_lt (Nat.lt_succ_self _)) (.int .i64 q.s1)).far (p := ⟨w.heap.size + 1, 1, none⟩) (Nat.ne_of_lt (Nat.lt_succ_self _)) (.int .i64 q.s2)).far (p := ⟨w.heap.size + 1, 2, none⟩) (Nat.ne_of_lt (Nat.lt_succ_self _)) (.int .i64 q.t1)).far (p := ⟨w.heap.size + 1, 3, none⟩) (Nat.ne_of_lt (Nat.lt_succ_self _)) (.int .i64 q.t2)).far (p := ⟨w.heap.size + 1, 4, none⟩) (Nat.ne_of_lt (Nat.lt_succ_self _)) (str q.find)).far (p := ⟨w.heap.size + 1, 5, none⟩) (Nat.ne_of_lt (Nat.lt_succ_self _)) (.int .i64 q.limit)).far (p := ⟨w.heap.size + 1, 6, none⟩) (Nat.ne_of_lt (Nat.lt_succ_self _)) (.int .i64 q.frm)).far (p := ⟨w.heap.size + 1, 7, none⟩) (Nat.ne_of_lt (Nat.lt_succ_self _)) (.int .i64 (trimR (q.s1, q.s2) q.frm).1)).far (p := ⟨w.heap.size + 1, 8, none⟩) (Nat.ne_of_lt (Nat.lt_succ_self _)) (.int .i64 (trimR (q.s1, q.s2) q.frm).2))) (fun hHeld => ?_)
  refine wpAnyH_done (by kernel_rfl) ?_ _
  have bN := (((((((((b1.set 0 (.int .i64 q.s1)).set 1 (.int .i64 q.s2)).set 2 (.int .i64 q.t1)).set 3 (.int .i64 q.t2)).set 4 (str q.find)).set 5 (.int .i64 q.limit)).set 6 (.int .i64 q.frm)).set 7 (.int .i64 (trimR (q.s1, q.s2) q.frm).1)).set 8 (.int .i64 (trimR (q.s1, q.s2) q.frm).2))
  have bN' := blk_eq (cs' := ac (q, trimR (q.s1, q.s2) q.frm)) bN (by simp [ac])
  have hN := (((((((((HB.setCell (p := ⟨w.heap.size + 1, 0, none⟩) (by simp) (.int .i64 q.s1)).setCell (p := ⟨w.heap.size + 1, 1, none⟩) (by simp) (.int .i64 q.s2)).setCell (p := ⟨w.heap.size + 1, 2, none⟩) (by simp) (.int .i64 q.t1)).setCell (p := ⟨w.heap.size + 1, 3, none⟩) (by simp) (.int .i64 q.t2)).setCell (p := ⟨w.heap.size + 1, 4, none⟩) (by simp) (str q.find)).setCell (p := ⟨w.heap.size + 1, 5, none⟩) (by simp) (.int .i64 q.limit)).setCell (p := ⟨w.heap.size + 1, 6, none⟩) (by simp) (.int .i64 q.frm)).setCell (p := ⟨w.heap.size + 1, 7, none⟩) (by simp) (.int .i64 (trimR (q.s1, q.s2) q.frm).1)).setCell (p := ⟨w.heap.size + 1, 8, none⟩) (by simp) (.int .i64 (trimR (q.s1, q.s2) q.frm).2))
  clear bN b1 b0 HB
  go_wp2_with fail
  refine bodyPost_ret (results_row1 rfl _ _ (w.heap.size + 1) 129 (ac (q, trimR (q.s1, q.s2) q.frm)) (0, 0) _ rfl bN' Tryz.underlying129 rfl (by kernel_rfl)) rfl ?_
  exact ⟨rfl, hN⟩
theorem of_any (q : Qy) (w : World) :
    Calls Tryz.prog 67 #[qv q] w fun e w' => e = .returned (av (ofQ q)) ∧ Below w.heap.size w w' := by
  unfold ofQ
  split
  · rename_i h; exact of_yes q h w
  · rename_i h; exact of_no q h w

set_option maxRecDepth 100000 in
set_option maxHeartbeats 2000000 in
theorem seqs_any (q : Qy) (w : World) :
    Calls Tryz.prog 64 #[qv q] w fun e w' => e = .returned (rv (ofQ q).2) ∧ Below w.heap.size w w' := by
  generalize hv : ofQ q = a
  have C := fun w => of_any q w
  rw [hv] at C
  obtain ⟨⟨s1, s2, t1, t2, fd, li, fr⟩, r1, r2⟩ := a
  dsimp only [av, ac] at C
  have hfd : ∀ w, (Instr.field 129 (.agg #[.int .i64 s1, .int .i64 s2, .int .i64 t1, .int .i64 t2, str fd, .int .i64 li, .int .i64 fr, .int .i64 r1, .int .i64 r2]) 1).run Tryz.prog w = .ok (.agg #[.int .i64 r1, .int .i64 r2]) w := fun _ => by kernel_rfl
  clear hv
  go_enter Tryz.func64, Tryz.ntmps64
  go_wp2_with fail
  refine (C _).mono ?_
  clear C
  rintro e w1 ⟨rfl, hb1⟩
  have b1 := Blk.new (w.alloc (.cells (qc q) 58)) 56 #[.int .i64 0, .int .i64 0]
  rw [World.size_alloc] at b1
  have HB : Below w.heap.size w w1 := (Below.trans (by first | exact Below.refl _ _ | (repeat (first | exact Below.refl _ _ | assumption | refine Below.drew ?_ | refine Below.drewN_ ?_ _ | refine Below.alloc ?_ (by first | exact Nat.le_refl _ | (simp; done) | (simp; omega) | omega) _ | refine Below.setCell ?_ (by first | exact Nat.le_refl _ | (simp; done) | (simp; omega) | omega) _ | (refine Below.trans ?_ (Below.mono (by assumption) (by first | exact Nat.le_refl _ | (simp; done) | (simp; omega) | omega)))))) (Below.mono hb1 (by first | exact Nat.le_refl _ | (simp only [World.size_alloc, World.size_setCell, World.size_drew]; omega) | (simp; done) | (simp; omega) | omega)))
  replace b1 := b1.below hb1 (by simp)
  obtain ⟨c0, c1, f0, f1, z0⟩ := blk2 b1
  clear hb1
  go_wp2_with fail
  have bN := (b1.set 0 (.int .i64 r1)).set 1 (.int .i64 r2)
  have bN' := blk_eq (cs' := #[.int .i64 r1, .int .i64 r2]) bN (by simp)
  have hN := (HB.setCell (p := ⟨w.heap.size + 1, 0, none⟩) (by simp) (.int .i64 r1)).setCell (p := ⟨w.heap.size + 1, 1, none⟩) (by simp) (.int .i64 r2)
  refine bodyPost_ret (results_row1 rfl _ _ (w.heap.size + 1) 56 #[.int .i64 r1, .int .i64 r2] (0, 0) _ rfl bN' Tryz.underlying56 rfl (by kernel_rfl)) rfl ?_
  exact ⟨rfl, hN⟩
end SkpW
end Go.Proofs.YtnpncpoiiikafaaGreat
