/- Walks of the reference of package sieve: a record meets a part; a block may. -/
import Derived.Test.YtdeiehgghhiijaaGreatDoorSieY
import Derived.Test.YtdeiehgghhiijaaGreatDoorSkpB
namespace Go.Proofs.YtdeiehgghhiijaaGreatDoor
set_option linter.unusedVariables false
set_option linter.unusedSimpArgs false
set_option linter.unnecessarySimpa false
open Go.RowKit
namespace SieW
open WanW (w64k)

abbrev rcd (q t : Int) (d : List UInt8) : Value := .agg #[.int .i64 q, .int .i64 t, str d]
def RMe (q t : Int) (d : List UInt8) (nd : Nd) : Prop := ∀ (A : Option Addr) (n c : Nat) (sz dp : Int) (ps : List RP) (k : Nat) (S : Nat → Prop) (w : World), PsAt w S A n ps → Rep ps nd k →
  Calls Tryz.prog 8 #[.agg #[.slice A n c, .int .i64 sz, .int .i64 dp], .int .i64 k, rcd q t d] w fun e w' => e = .returned (.bool (meetN q t d nd)) ∧ Below w.heap.size w w'
/-- What stands in memory where the reference's question begins: the sentence, what is asked of, the part. -/
structure Asked (w wr : World) (B : Nat) (t2 : TypeId) (sent asked : Array Value) (p : RP) (v : Value) : Prop where
  b1 : Blk wr B 33 sent
  b2 : Blk wr (B + 1) t2 asked
  b3 : Blk wr (B + 1 + 1) 71 (pv p.word p.lo p.hi p.what v)
  bel : Below B w wr
  hz : B + 1 + 1 + 1 ≤ wr.heap.size
theorem Asked.new (w : World) (t2 : TypeId) (sent asked : Array Value) (p : RP) (v : Value) :
    Asked w (((w.alloc (.cells sent 33)).alloc (.cells asked t2)).alloc (.cells (pv p.word p.lo p.hi p.what v) 71)) w.heap.size t2 sent asked p v := by
  have q2 := (Blk.new (w.alloc (.cells sent 33)) t2 asked).alloc (.cells (pv p.word p.lo p.hi p.what v) 71)
  have q3 := Blk.new ((w.alloc (.cells sent 33)).alloc (.cells asked t2)) 71 (pv p.word p.lo p.hi p.what v)
  simp only [World.size_alloc] at q2 q3
  exact ⟨((Blk.new w _ _).alloc _).alloc _, q2, q3, (((Below.refl _ w).alloc (Nat.le_refl _) _).alloc (by simp) _).alloc (by simp; omega) _, by simp⟩
theorem Asked.below {w wr w' : World} {B : Nat} {t2 : TypeId} {sent asked : Array Value} {p : RP} {v : Value} (h : Asked w wr B t2 sent asked p v) (hb : Below wr.heap.size wr w') : Asked w w' B t2 sent asked p v :=
  ⟨h.b1.below hb h.b1.lt, h.b2.below hb h.b2.lt, h.b3.below hb h.b3.lt, h.bel.trans (hb.mono (by have := h.hz; omega)), by have := h.hz; have := hb.size; omega⟩
theorem take_all (bl : List Bool) (i : Nat) (h : i < bl.length) : (bl.take (i + 1)).all id = ((bl.take i).all id && bl[i]) := by
  rw [List.take_succ_eq_append_getElem h]; simp only [List.all_append, List.all_cons, List.all_nil, Bool.and_true, id]
theorem take_any (bl : List Bool) (i : Nat) (h : i < bl.length) : (bl.take (i + 1)).any id = ((bl.take i).any id || bl[i]) := by
  rw [List.take_succ_eq_append_getElem h]; simp only [List.any_append, List.any_cons, List.any_nil, Bool.or_false, id]
set_option maxRecDepth 100000 in
set_option maxHeartbeats 4000000 in
theorem rme_within (q t : Int) (d : List UInt8) (kk : Nat) (lo hi : Int) (hk : kk ≤ 2) : RMe q t d (.within kk lo hi) := by
  intro A n c sz dp ps k S w hp hr
  have hr : ps[k]? = some ⟨kwS kk, lo, hi, [], []⟩ := hr
  obtain ⟨b, o, v, rfl, hS, hb, c0, c1, c2, c3, c4, hof⟩ := hp.at_ hr
  obtain ⟨A3, n3, c3', rfl, _⟩ := hof
  have hln := hp.len
  have hkn : k < n := by have := (List.getElem?_eq_some_iff.1 hr).1; omega
  have hkI : (k : Int) < (n : Int) := by omega
  have hk0 : (0 : Int) ≤ (k : Int) := by omega
  have hne : b ≠ w.heap.size := by omega
  have hne2 : b ≠ w.heap.size + 1 := by omega
  have Q := Asked.new w 23 #[.slice (some ⟨b, o, none⟩) n c, .int .i64 sz, .int .i64 dp] #[.int .i64 q, .int .i64 t, str d] ⟨kwS kk, lo, hi, [], []⟩ (.slice A3 n3 c3')
  obtain ⟨x0, x1, x2, _⟩ := blk3 Q.b1
  obtain ⟨y0, y1, y2, _⟩ := blk3 Q.b2
  obtain ⟨z0, z1, z2, z3, z4, _⟩ := blk5 Q.b3
  have hz := Q.hz
  have HB := Q.bel
  have k3 : kk = 0 ∨ kk = 1 ∨ kk = 2 := by omega
  clear hln hp hr
  rcases k3 with rfl | rfl | rfl
  all_goals
    go_enter Tryz.func8, Tryz.ntmps8
    go_wp2_with fail
    refine (SpanW.refHas_any _ _ _ _).mono ?_
    rintro e w1 ⟨rfl, hb1⟩
    go_wp2_with fail
    go_ret
    exact ⟨rfl, HB.trans (hb1.mono HB.size)⟩
/- PRINTED FROM HERE ON -/
set_option maxRecDepth 100000 in
set_option maxHeartbeats 8000000 in
theorem rme_has (q t : Int) (d : List UInt8) (hd : d.length ≤ 100000) (u : List UInt8) (hu : u.length ≤ 1000) : RMe q t d (.has u) := by
  intro A n c sz dp ps k S w hp hr
  have hr : ps[k]? = some ⟨sHas, 0, 0, u, []⟩ := hr
  obtain ⟨b, o, v, rfl, hS, hb, c0, c1, c2, c3, c4, hof⟩ := hp.at_ hr
  obtain ⟨A3, n3, c3', rfl, hn3, hm3, r3⟩ := hof
  have hln := hp.len
  have hkn : k < n := by have := (List.getElem?_eq_some_iff.1 hr).1; omega
  have hkI : (k : Int) < (n : Int) := by omega
  have hk0 : (0 : Int) ≤ (k : Int) := by omega
  have hne : b ≠ w.heap.size := by omega
  have hne2 : b ≠ w.heap.size + 1 := by omega
  have Q := Asked.new w 23 #[.slice (some ⟨b, o, none⟩) n c, .int .i64 sz, .int .i64 dp] #[.int .i64 q, .int .i64 t, str d] ⟨sHas, 0, 0, u, []⟩ (.slice A3 n3 c3')
  have Qz := Q.hz
  have HB := Q.bel
  obtain ⟨x0, x1, x2, _⟩ := blk3 Q.b1
  obtain ⟨y0, y1, y2, _⟩ := blk3 Q.b2
  obtain ⟨z0, z1, z2, z3, z4, _⟩ := blk5 Q.b3
  clear hln hp hr
  go_enter Tryz.func8, Tryz.ntmps8
  go_wp2_with fail
  refine (KmpW.refHas_any d u _ (by omega) hd).mono ?_
  rintro e w1 ⟨rfl, rfl⟩
  go_wp2_with fail
  go_ret
  exact ⟨rfl, HB⟩
set_option maxRecDepth 100000 in
set_option maxHeartbeats 8000000 in
theorem rme_all (q t : Int) (d : List UInt8) : RMe q t d .all := by
  intro A n c sz dp ps k S w hp hr
  have hr : ps[k]? = some ⟨sAll, 0, 0, [], []⟩ := hr
  obtain ⟨b, o, v, rfl, hS, hb, c0, c1, c2, c3, c4, hof⟩ := hp.at_ hr
  obtain ⟨A3, n3, c3', rfl, hn3, hm3, r3⟩ := hof
  have hln := hp.len
  have hkn : k < n := by have := (List.getElem?_eq_some_iff.1 hr).1; omega
  have hkI : (k : Int) < (n : Int) := by omega
  have hk0 : (0 : Int) ≤ (k : Int) := by omega
  have hne : b ≠ w.heap.size := by omega
  have hne2 : b ≠ w.heap.size + 1 := by omega
  have Q := Asked.new w 23 #[.slice (some ⟨b, o, none⟩) n c, .int .i64 sz, .int .i64 dp] #[.int .i64 q, .int .i64 t, str d] ⟨sAll, 0, 0, [], []⟩ (.slice A3 n3 c3')
  have Qz := Q.hz
  have HB := Q.bel
  obtain ⟨x0, x1, x2, _⟩ := blk3 Q.b1
  obtain ⟨y0, y1, y2, _⟩ := blk3 Q.b2
  obtain ⟨z0, z1, z2, z3, z4, _⟩ := blk5 Q.b3
  clear hln hp hr
  go_enter Tryz.func8, Tryz.ntmps8
  go_wp2_with fail
  go_ret
  exact ⟨rfl, HB⟩
set_option maxRecDepth 100000 in
set_option maxHeartbeats 8000000 in
theorem rme_not (q t : Int) (d : List UInt8) (x : Nd) (ih : RMe q t d x) : RMe q t d (.not x) := by
  intro A n c sz dp ps k S w hp hr
  obtain ⟨j, hr, hj, hrep⟩ := hr
  obtain ⟨b, o, v, rfl, hS, hb, c0, c1, c2, c3, c4, hof⟩ := hp.at_ hr
  obtain ⟨A3, n3, c3', rfl, hn3, hm3, r3⟩ := hof
  have hln := hp.len
  have hkn : k < n := by have := (List.getElem?_eq_some_iff.1 hr).1; omega
  have hkI : (k : Int) < (n : Int) := by omega
  have hk0 : (0 : Int) ≤ (k : Int) := by omega
  have hne : b ≠ w.heap.size := by omega
  have hne2 : b ≠ w.heap.size + 1 := by omega
  have Q := Asked.new w 23 #[.slice (some ⟨b, o, none⟩) n c, .int .i64 sz, .int .i64 dp] #[.int .i64 q, .int .i64 t, str d] ⟨sNot, 0, 0, [], [j]⟩ (.slice A3 n3 c3')
  have Qz := Q.hz
  have HB := Q.bel
  obtain ⟨x0, x1, x2, _⟩ := blk3 Q.b1
  obtain ⟨y0, y1, y2, _⟩ := blk3 Q.b2
  obtain ⟨z0, z1, z2, z3, z4, _⟩ := blk5 Q.b3
  have hn31 : n3 = 1 := by have := r3.1; rw [nats_len] at this; simpa using this.symm
  subst hn31
  obtain ⟨b3, o3, rfl, hS3, hb3, hc3⟩ := r3.2 (by omega)
  have hcj0 : w.cell? ⟨b3, o3 + 0, none⟩ = some (.int .i64 (j : Nat)) := hc3 0 (by simp [nats, ints])
  rw [Nat.add_zero] at hcj0
  have hb3n : b3 ≠ w.heap.size := by omega
  obtain ⟨bv, hbv⟩ : ∃ bv, meetN q t d x = bv := ⟨_, rfl⟩
  have HMN : Hid (meetN q t d (.not x) = !bv) := Lib.hid (by rw [meetN, hbv])
  rw [HMN.out]
  have HC := Lib.hid (fun w' (hb : Below w.heap.size w w') => ih (some ⟨b, o, none⟩) n c sz dp ps j _ w' (hp.below hb) hrep)
  rw [hbv] at HC
  have hcj := (HB.cell (p := ⟨b3, o3, none⟩) hb3).trans hcj0
  clear hln hp hr hrep hbv hc3 r3 ih hcj0
  obtain ⟨w1, hw1⟩ : ∃ w1, ((w.alloc (.cells #[.slice (some ⟨b, o, none⟩) n c, .int .i64 sz, .int .i64 dp] 33)).alloc (.cells #[.int .i64 q, .int .i64 t, str d] 23)).alloc (.cells (pv sNot 0 0 [] (.slice (some ⟨b3, o3, none⟩) 1 c3')) 71) = w1 := ⟨_, rfl⟩
  dsimp only at Q HB hcj x0 x1 x2 y0 y1 y2 z0 z1 z2 z3 z4 Qz
  rw [hw1] at Q HB hcj x0 x1 x2 y0 y1 y2 z0 z1 z2 z3 z4 Qz
  go_enter Tryz.func8, Tryz.ntmps8
  go_wp2_with fail
  have q1 := Q.b1
  have q2 := Q.b2
  have q3 := Q.b3
  have HR := Below.refl w1.heap.size w1
  have hb31 : b3 < w1.heap.size := by omega
  refine wp_region_held_drew (S := (fun w' => w'.cell? ⟨w.heap.size, 0, none⟩ = some (.slice (some ⟨b, o, none⟩) n c) ∧ w'.cell? ⟨w.heap.size, 1, none⟩ = some (.int .i64 sz) ∧ w'.cell? ⟨w.heap.size, 2, none⟩ = some (.int .i64 dp) ∧ w'.cell? ⟨w.heap.size + 1, 0, none⟩ = some (.int .i64 q) ∧ w'.cell? ⟨w.heap.size + 1, 1, none⟩ = some (.int .i64 t) ∧ w'.cell? ⟨w.heap.size + 1, 2, none⟩ = some (str d) ∧ w'.cell? ⟨w.heap.size + 1 + 1, 4, none⟩ = some (.slice (some ⟨b3, o3, none⟩) 1 c3') ∧ w'.cell? ⟨b3, o3, none⟩ = some (.int .i64 (j : Nat)))) (by kernel_rfl) ?_ (fun hHeld => ?_)
  · replace q1 := Blk.drew q1; replace q2 := Blk.drew q2; replace q3 := Blk.drew q3; replace HR := Below.drew HR; (try dsimp only); exact ⟨q1.cell_ 0 rfl, q1.cell_ 1 rfl, q1.cell_ 2 rfl, q2.cell_ 0 rfl, q2.cell_ 1 rfl, q2.cell_ 2 rfl, q3.cell_ 4 rfl, (HR.cell (p := ⟨b3, o3, none⟩) hb31).trans hcj⟩
  replace q1 := Blk.drew q1
  replace q2 := Blk.drew q2
  replace q3 := Blk.drew q3
  replace HR := Below.drew HR
  have zHR := HR.size
  refine take_op (v := ?vu1x0) 0 (Op.load 33 (Operand.tmp 3)) 33 rfl rfl rfl rfl rfl (by kernel_rfl) (by kernel_rfl) (by kernel_rfl) (fun _ _ _ h => h) ?yu1x0 (by assumption) ?ru1x0
  case yu1x0 => (intro w' hSw; (try dsimp only at hSw); go_simp; try (with_reducible rfl))
  simp only [List.setIfInBounds_toArray, List.set_cons_zero, List.set_cons_succ]
  refine take_op (v := ?vu1x1) 1 (Op.fieldAddr 71 (Operand.tmp 7) 3) 0 rfl rfl rfl rfl rfl (by kernel_rfl) (by kernel_rfl) (by kernel_rfl) (fun _ _ _ h => h) ?yu1x1 (by assumption) ?ru1x1
  case yu1x1 => (intro w' hSw; (try dsimp only at hSw); go_simp; try (with_reducible rfl))
  simp only [List.setIfInBounds_toArray, List.set_cons_zero, List.set_cons_succ]
  refine take_op (v := ?vu1x2) 2 (Op.load 69 (Operand.tmp 51)) 69 rfl rfl rfl rfl rfl (by kernel_rfl) (by kernel_rfl) (by kernel_rfl) (fun _ _ _ h => h) ?yu1x2 (by assumption) ?ru1x2
  case yu1x2 => (intro w' hSw; (try dsimp only at hSw); go_simp; try (with_reducible rfl))
  simp only [List.setIfInBounds_toArray, List.set_cons_zero, List.set_cons_succ]
  refine take_op (v := ?vu1x3) 3 (Op.indexAddr 69 (Operand.tmp 52) (Operand.const (Value.int IntKind.i64 0))) 0 rfl rfl rfl rfl rfl (by kernel_rfl) (by kernel_rfl) (by kernel_rfl) (fun _ _ _ h => h) ?yu1x3 (by assumption) ?ru1x3
  case yu1x3 => (intro w' hSw; (try dsimp only at hSw); go_simp; try (with_reducible rfl))
  simp only [List.setIfInBounds_toArray, List.set_cons_zero, List.set_cons_succ]
  refine take_op (v := ?vu1x4) 4 (Op.load 3 (Operand.tmp 53)) 3 rfl rfl rfl rfl rfl (by kernel_rfl) (by kernel_rfl) (by kernel_rfl) (fun _ _ _ h => h) ?yu1x4 (by assumption) ?ru1x4
  case yu1x4 => (intro w' hSw; (try dsimp only at hSw); go_simp; try (with_reducible rfl))
  simp only [List.setIfInBounds_toArray, List.set_cons_zero, List.set_cons_succ]
  refine take_op (v := ?vu1x5) 5 (Op.load 23 (Operand.tmp 5)) 23 rfl rfl rfl rfl rfl (by kernel_rfl) (by kernel_rfl) (by kernel_rfl) (fun _ _ _ h => h) ?yu1x5 (by assumption) ?ru1x5
  case yu1x5 => (intro w' hSw; (try dsimp only at hSw); go_simp; try (with_reducible rfl))
  simp only [List.setIfInBounds_toArray, List.set_cons_zero, List.set_cons_succ]
  refine wpAnyH_ready (rs := [6]) (by kernel_rfl) (by simp) (AllReadyH.cons rfl (fun K6 hK6 => ?ku1x6) AllReadyH.nil)
  refine take_calls 6 8 [Operand.tmp 50, Operand.tmp 54, Operand.tmp 55] #[33, 3, 23] rfl rfl (by kernel_rfl) (fun args w => run_enter Tryz.func8 (by kernel_rfl) rfl args w) ?_
  refine (HC.out _ (HB.trans (HR.mono HB.size))).mono ?_
  rintro e w6 ⟨rfl, hb6⟩
  refine ⟨_, rfl, ?_⟩
  have z6 := hb6.size
  try simp only [World.size_drew] at z6
  replace q1 := Blk.below q1 hb6 (by first | exact Nat.le_refl _ | (simp only [World.size_alloc, World.size_setCell, World.size_drew] at *; omega) | omega)
  replace q2 := Blk.below q2 hb6 (by first | exact Nat.le_refl _ | (simp only [World.size_alloc, World.size_setCell, World.size_drew] at *; omega) | omega)
  replace q3 := Blk.below q3 hb6 (by first | exact Nat.le_refl _ | (simp only [World.size_alloc, World.size_setCell, World.size_drew] at *; omega) | omega)
  replace HR := HR.trans (hb6.mono (by first | exact HR.size | omega))
  have zHR6 := HR.size
  refine hK6.out _ _ ?su1x6 (fun hHeld => ?ru1x6)
  case su1x6 => ((try dsimp only); exact ⟨q1.cell_ 0 rfl, q1.cell_ 1 rfl, q1.cell_ 2 rfl, q2.cell_ 0 rfl, q2.cell_ 1 rfl, q2.cell_ 2 rfl, q3.cell_ 4 rfl, (HR.cell (p := ⟨b3, o3, none⟩) hb31).trans hcj⟩)
  try simp only [List.setIfInBounds_toArray, List.set_cons_zero, List.set_cons_succ]
  refine take_op (v := ?vu1x7) 7 (Op.unOp UnOp.not 4 (Operand.tmp 56)) 4 rfl rfl rfl rfl rfl (by kernel_rfl) (by kernel_rfl) (by kernel_rfl) (fun _ _ _ h => h) ?yu1x7 (by assumption) ?ru1x7
  case yu1x7 => (intro w' hSw; (try dsimp only at hSw); go_simp; try (with_reducible rfl))
  simp only [List.setIfInBounds_toArray, List.set_cons_zero, List.set_cons_succ]
  refine take_op (v := ?vu1x8) 8 (Op.assign (Operand.tmp 57)) 4 rfl rfl rfl rfl rfl (by kernel_rfl) (by kernel_rfl) (by kernel_rfl) (fun _ _ _ h => h) ?yu1x8 (by assumption) ?ru1x8
  case yu1x8 => (intro w' hSw; (try dsimp only at hSw); go_simp; try (with_reducible rfl))
  simp only [List.setIfInBounds_toArray, List.set_cons_zero, List.set_cons_succ]
  refine wpAnyH_done (by kernel_rfl) ?_ _
  go_wp2_with fail
  go_ret
  exact ⟨rfl, HB.trans (HR.mono HB.size)⟩
theorem row_all (q t : Int) (d : List UInt8) (o : Bool) (l : List Nd) : meetN q t d (.row o l) = if o = true then (l.map (meetN q t d)).any id else (l.map (meetN q t d)).all id := by
  rw [meetN]
  cases o
  · rw [meetL_and, if_neg (by decide), List.all_map]; rfl
  · rw [meetL_or, if_pos rfl, List.any_map]; rfl
set_option maxRecDepth 100000 in
set_option maxHeartbeats 8000000 in
theorem rme_row (q t : Int) (d : List UInt8) (oo : Bool) (l : List Nd) (hl : 2 ≤ l.length) (hl2 : l.length ≤ 1000) (ih : ∀ i (h : i < l.length), RMe q t d l[i]) : RMe q t d (.row oo l) := by
  intro A n c sz dp ps k S w hp hr
  obtain ⟨js, hr, hj, hreps⟩ := hr
  obtain ⟨b, o, v, rfl, hS, hb, c0, c1, c2, c3, c4, hof⟩ := hp.at_ hr
  obtain ⟨A3, n3, c3', rfl, hn3, hm3, r3⟩ := hof
  have hln := hp.len
  have hkn : k < n := by have := (List.getElem?_eq_some_iff.1 hr).1; omega
  have hkI : (k : Int) < (n : Int) := by omega
  have hk0 : (0 : Int) ≤ (k : Int) := by omega
  have hne : b ≠ w.heap.size := by omega
  have hne2 : b ≠ w.heap.size + 1 := by omega
  have Q := Asked.new w 23 #[.slice (some ⟨b, o, none⟩) n c, .int .i64 sz, .int .i64 dp] #[.int .i64 q, .int .i64 t, str d] ⟨byW oo, 0, 0, [], js⟩ (.slice A3 n3 c3')
  have Qz := Q.hz
  have HB := Q.bel
  have hjl := hreps.len
  have hn31 : n3 = l.length := by have e : (nats js).length = n3 * 1 := r3.1; rw [nats_len] at e; omega
  obtain ⟨b3, o3, rfl, hS3, hb3, hc3⟩ := r3.2 (by omega)
  have hcj0 : ∀ i (h : i < js.length), w.cell? ⟨b3, o3 + i, none⟩ = some (.int .i64 (js[i] : Nat)) := fun i h => by
    have h2 : i < (nats js).length := by rw [nats_len]; exact h
    have e := nats_at js i h
    rw [List.getElem?_eq_getElem h2] at e
    rw [hc3 i h2]; exact e
  have hb3n : b3 ≠ w.heap.size := by omega
  have HC := Lib.hid (fun i (h : i < l.length) (h2 : i < js.length) w' (hb : Below w.heap.size w w') => ih i h (some ⟨b, o, none⟩) n c sz dp ps js[i] _ w' (hp.below hb) (hreps.at_ i h h2))
  have HCJ := Lib.hid hcj0
  have HJL := Lib.hid hjl
  obtain ⟨bl, hbl⟩ : ∃ bl, l.map (meetN q t d) = bl := ⟨_, rfl⟩
  have hbll : bl.length = l.length := by rw [← hbl]; simp
  have HBI : Hid (∀ i (h : i < l.length) (h2 : i < bl.length), meetN q t d l[i] = bl[i]) := Lib.hid (fun i h h2 => by subst hbl; simp)
  have HMN := Lib.hid (row_all q t d oo l)
  rw [hbl] at HMN
  have HBL := Lib.hid hbll
  have hn3a : n3 ≤ l.length := by omega
  have hn3b : l.length ≤ n3 := by omega
  clear hln hp hr hreps hc3 r3 ih hcj0 hj hjl hbl hbll hn31
  obtain ⟨w1, hw1⟩ : ∃ w1, ((w.alloc (.cells #[.slice (some ⟨b, o, none⟩) n c, .int .i64 sz, .int .i64 dp] 33)).alloc (.cells #[.int .i64 q, .int .i64 t, str d] 23)).alloc (.cells (pv (byW oo) 0 0 [] (.slice (some ⟨b3, o3, none⟩) n3 c3')) 71) = w1 := ⟨_, rfl⟩
  dsimp only at Q HB Qz
  rw [hw1] at Q HB Qz
  obtain ⟨x0, x1, x2, _⟩ := blk3 Q.b1
  obtain ⟨y0, y1, y2, _⟩ := blk3 Q.b2
  obtain ⟨z0, z1, z2, z3, z4, _⟩ := blk5 Q.b3
  cases oo
  · rw [HMN.out]
    go_enter Tryz.func8, Tryz.ntmps8
    go_wp2_with fail
    clear x0 x1 x2 y0 y1 y2 z0 z1 z2 z3 z4
    go_loopw [8, 9, 10] (fun av sv iv wr => ∃ i : Nat, i ≤ l.length ∧ iv = .int .i64 (i : Nat) ∧ av = .bool ((bl.take i).all id) ∧ sv = .bool ((bl.take i).any id) ∧ Asked w wr w.heap.size 23 #[.slice (some ⟨b, o, none⟩) n c, .int .i64 sz, .int .i64 dp] #[.int .i64 q, .int .i64 t, str d] ⟨byW false, 0, 0, [], js⟩ (.slice (some ⟨b3, o3, none⟩) n3 c3')) (fun _ _ iv _ => l.length - (intOf iv).toNat)
    case atStart => exact ⟨0, by omega, rfl, rfl, rfl, Q⟩
    case round =>
      obtain ⟨i, hi, rfl, rfl, rfl, Q1⟩ := hrel
      obtain ⟨x0, x1, x2, _⟩ := blk3 Q1.b1
      obtain ⟨y0, y1, y2, _⟩ := blk3 Q1.b2
      obtain ⟨z0, z1, z2, z3, z4, _⟩ := blk5 Q1.b3
      have hB1 := Q1.bel
      have hQz := Q1.hz
      obtain ⟨av, hav⟩ : ∃ av, (bl.take i).all id = av := ⟨_, rfl⟩
      obtain ⟨sv, hsv⟩ : ∃ sv, (bl.take i).any id = sv := ⟨_, rfl⟩
      rw [hav, hsv]
      have HAV := Lib.hid hav
      have HSV := Lib.hid hsv
      clear hav hsv
      by_cases hlt : i < l.length
      · have hiI : (i : Int) < (n3 : Int) := by omega
        have hi0 : (0 : Int) ≤ (i : Int) := by omega
        have hi1 : IntKind.i64.wrap ((i : Int) + 1) = (i : Int) + 1 := w64k (by omega) (by omega)
        have hij : i < js.length := by have := HJL.out; omega
        have hib : i < bl.length := by have := HBL.out; omega
        obtain ⟨is, his⟩ : ∃ is, bl[i] = is := ⟨_, rfl⟩
        have HIS := Lib.hid his
        have HCI : Hid (∀ w', Below w.heap.size w w' → _) := Lib.hid (fun w' hb => HC.out i hlt hij w' hb)
        rw [HBI.out i hlt hib, his] at HCI
        have hcj1 := (hB1.cell (p := ⟨b3, o3 + i, none⟩) hb3).trans (HCJ.out i hij)
        obtain ⟨jj, hjj⟩ : ∃ jj, js[i] = jj := ⟨_, rfl⟩
        rw [hjj] at hcj1 HCI
        have hna : Hid ((bl.take (i + 1)).all id = (av && is)) := Lib.hid (by rw [take_all bl i hib, HAV.out, his])
        have hns : Hid ((bl.take (i + 1)).any id = (sv || is)) := Lib.hid (by rw [take_any bl i hib, HSV.out, his])
        have q1 := Q1.b1
        have q2 := Q1.b2
        have q3 := Q1.b3
        have HR := Below.refl wr.heap.size wr
        have hb31 : b3 < wr.heap.size := by omega
        clear his hjj
        go_wp2_with fail
        refine wp_region_held_drew (S := (fun w' => w'.cell? ⟨w.heap.size, 0, none⟩ = some (.slice (some ⟨b, o, none⟩) n c) ∧ w'.cell? ⟨w.heap.size, 1, none⟩ = some (.int .i64 sz) ∧ w'.cell? ⟨w.heap.size, 2, none⟩ = some (.int .i64 dp) ∧ w'.cell? ⟨w.heap.size + 1, 0, none⟩ = some (.int .i64 q) ∧ w'.cell? ⟨w.heap.size + 1, 1, none⟩ = some (.int .i64 t) ∧ w'.cell? ⟨w.heap.size + 1, 2, none⟩ = some (str d) ∧ w'.cell? ⟨w.heap.size + 1 + 1, 4, none⟩ = some (.slice (some ⟨b3, o3, none⟩) n3 c3') ∧ w'.cell? ⟨b3, o3 + i, none⟩ = some (.int .i64 (jj : Nat)))) (by kernel_rfl) ?_ (fun hHeld => ?_)
        · replace q1 := Blk.drew q1; replace q2 := Blk.drew q2; replace q3 := Blk.drew q3; replace HR := Below.drew HR; (try dsimp only); exact ⟨q1.cell_ 0 rfl, q1.cell_ 1 rfl, q1.cell_ 2 rfl, q2.cell_ 0 rfl, q2.cell_ 1 rfl, q2.cell_ 2 rfl, q3.cell_ 4 rfl, (HR.cell (p := ⟨b3, o3 + i, none⟩) hb31).trans hcj1⟩
        replace q1 := Blk.drew q1
        replace q2 := Blk.drew q2
        replace q3 := Blk.drew q3
        replace HR := Below.drew HR
        have zHR := HR.size
        refine take_op (v := ?vu2x0) 0 (Op.load 33 (Operand.tmp 3)) 33 rfl rfl rfl rfl rfl (by kernel_rfl) (by kernel_rfl) (by kernel_rfl) (fun _ _ _ h => h) ?yu2x0 (by assumption) ?ru2x0
        case yu2x0 => (intro w' hSw; (try dsimp only at hSw); go_simp; try (with_reducible rfl))
        simp only [List.setIfInBounds_toArray, List.set_cons_zero, List.set_cons_succ]
        refine take_op (v := ?vu2x1) 1 (Op.fieldAddr 71 (Operand.tmp 7) 3) 0 rfl rfl rfl rfl rfl (by kernel_rfl) (by kernel_rfl) (by kernel_rfl) (fun _ _ _ h => h) ?yu2x1 (by assumption) ?ru2x1
        case yu2x1 => (intro w' hSw; (try dsimp only at hSw); go_simp; try (with_reducible rfl))
        simp only [List.setIfInBounds_toArray, List.set_cons_zero, List.set_cons_succ]
        refine take_op (v := ?vu2x2) 2 (Op.load 69 (Operand.tmp 69)) 69 rfl rfl rfl rfl rfl (by kernel_rfl) (by kernel_rfl) (by kernel_rfl) (fun _ _ _ h => h) ?yu2x2 (by assumption) ?ru2x2
        case yu2x2 => (intro w' hSw; (try dsimp only at hSw); go_simp; try (with_reducible rfl))
        simp only [List.setIfInBounds_toArray, List.set_cons_zero, List.set_cons_succ]
        refine take_movev (v := ?vu2x3) 3 (Operand.tmp 10) rfl rfl (by first | exact .inl rfl | exact .inr rfl) rfl (by kernel_rfl) (by kernel_rfl) (by kernel_rfl) (fun _ _ _ h => h) (by assumption) ?yu2x3 ?ru2x3
        case yu2x3 => (go_simp; try (with_reducible rfl))
        simp only [List.setIfInBounds_toArray, List.set_cons_zero, List.set_cons_succ]
        refine take_op (v := ?vu2x4) 4 (Op.indexAddr 69 (Operand.tmp 70) (Operand.tmp 71)) 0 rfl rfl rfl rfl rfl (by kernel_rfl) (by kernel_rfl) (by kernel_rfl) (fun _ _ _ h => h) ?yu2x4 (by assumption) ?ru2x4
        case yu2x4 => (intro w' hSw; (try dsimp only at hSw); go_simp; try (with_reducible rfl))
        simp only [List.setIfInBounds_toArray, List.set_cons_zero, List.set_cons_succ]
        refine take_op (v := ?vu2x5) 5 (Op.load 3 (Operand.tmp 72)) 3 rfl rfl rfl rfl rfl (by kernel_rfl) (by kernel_rfl) (by kernel_rfl) (fun _ _ _ h => h) ?yu2x5 (by assumption) ?ru2x5
        case yu2x5 => (intro w' hSw; (try dsimp only at hSw); go_simp; try (with_reducible rfl))
        simp only [List.setIfInBounds_toArray, List.set_cons_zero, List.set_cons_succ]
        refine take_op (v := ?vu2x6) 6 (Op.load 23 (Operand.tmp 5)) 23 rfl rfl rfl rfl rfl (by kernel_rfl) (by kernel_rfl) (by kernel_rfl) (fun _ _ _ h => h) ?yu2x6 (by assumption) ?ru2x6
        case yu2x6 => (intro w' hSw; (try dsimp only at hSw); go_simp; try (with_reducible rfl))
        simp only [List.setIfInBounds_toArray, List.set_cons_zero, List.set_cons_succ]
        refine wpAnyH_ready (rs := [7]) (by kernel_rfl) (by simp) (AllReadyH.cons rfl (fun K7 hK7 => ?ku2x7) AllReadyH.nil)
        refine take_calls 7 8 [Operand.tmp 68, Operand.tmp 73, Operand.tmp 74] #[33, 3, 23] rfl rfl (by kernel_rfl) (fun args w => run_enter Tryz.func8 (by kernel_rfl) rfl args w) ?_
        refine (HCI.out _ (hB1.trans (HR.mono hB1.size))).mono ?_
        rintro e w7 ⟨rfl, hb7⟩
        refine ⟨_, rfl, ?_⟩
        have z7 := hb7.size
        try simp only [World.size_drew] at z7
        replace q1 := Blk.below q1 hb7 (by first | exact Nat.le_refl _ | (simp only [World.size_alloc, World.size_setCell, World.size_drew] at *; omega) | omega)
        replace q2 := Blk.below q2 hb7 (by first | exact Nat.le_refl _ | (simp only [World.size_alloc, World.size_setCell, World.size_drew] at *; omega) | omega)
        replace q3 := Blk.below q3 hb7 (by first | exact Nat.le_refl _ | (simp only [World.size_alloc, World.size_setCell, World.size_drew] at *; omega) | omega)
        replace HR := HR.trans (hb7.mono (by first | exact HR.size | omega))
        have zHR7 := HR.size
        refine hK7.out _ _ ?su2x7 (fun hHeld => ?ru2x7)
        case su2x7 => ((try dsimp only); exact ⟨q1.cell_ 0 rfl, q1.cell_ 1 rfl, q1.cell_ 2 rfl, q2.cell_ 0 rfl, q2.cell_ 1 rfl, q2.cell_ 2 rfl, q3.cell_ 4 rfl, (HR.cell (p := ⟨b3, o3 + i, none⟩) hb31).trans hcj1⟩)
        try simp only [List.setIfInBounds_toArray, List.set_cons_zero, List.set_cons_succ]
        refine take_op (v := ?vu2x8) 8 (Op.assign (Operand.tmp 75)) 4 rfl rfl rfl rfl rfl (by kernel_rfl) (by kernel_rfl) (by kernel_rfl) (fun _ _ _ h => h) ?yu2x8 (by assumption) ?ru2x8
        case yu2x8 => (intro w' hSw; (try dsimp only at hSw); go_simp; try (with_reducible rfl))
        simp only [List.setIfInBounds_toArray, List.set_cons_zero, List.set_cons_succ]
        refine wpAnyH_done (by kernel_rfl) ?_ _
        have Q2 := Q1.below HR
        cases av <;> cases sv <;> cases is
        all_goals
          go_wp2_with fail
          go_roundw
          case rel => exact ⟨i + 1, by omega, by go_num, by rw [hna.out]; rfl, by rw [hns.out]; rfl, Q2⟩
          case measure => simp [intOf]; omega
      · have hiI : ¬ (i : Int) < (n3 : Int) := by omega
        have hbt : bl.take i = bl := List.take_of_length_le (by have := HBL.out; omega)
        have HA := HAV.out
        have HSS := HSV.out
        rw [hbt] at HA HSS
        have HA2 := Lib.hid HA
        have HS2 := Lib.hid HSS
        clear HA HSS hbt
        cases av <;> cases sv
        all_goals
          go_wp2_with fail
          go_ret
          exact ⟨ret_bool (by rw [HA2.out]), hB1⟩
  · rw [HMN.out]
    go_enter Tryz.func8, Tryz.ntmps8
    go_wp2_with fail
    clear x0 x1 x2 y0 y1 y2 z0 z1 z2 z3 z4
    go_loopw [8, 9, 10] (fun av sv iv wr => ∃ i : Nat, i ≤ l.length ∧ iv = .int .i64 (i : Nat) ∧ av = .bool ((bl.take i).all id) ∧ sv = .bool ((bl.take i).any id) ∧ Asked w wr w.heap.size 23 #[.slice (some ⟨b, o, none⟩) n c, .int .i64 sz, .int .i64 dp] #[.int .i64 q, .int .i64 t, str d] ⟨byW true, 0, 0, [], js⟩ (.slice (some ⟨b3, o3, none⟩) n3 c3')) (fun _ _ iv _ => l.length - (intOf iv).toNat)
    case atStart => exact ⟨0, by omega, rfl, rfl, rfl, Q⟩
    case round =>
      obtain ⟨i, hi, rfl, rfl, rfl, Q1⟩ := hrel
      obtain ⟨x0, x1, x2, _⟩ := blk3 Q1.b1
      obtain ⟨y0, y1, y2, _⟩ := blk3 Q1.b2
      obtain ⟨z0, z1, z2, z3, z4, _⟩ := blk5 Q1.b3
      have hB1 := Q1.bel
      have hQz := Q1.hz
      obtain ⟨av, hav⟩ : ∃ av, (bl.take i).all id = av := ⟨_, rfl⟩
      obtain ⟨sv, hsv⟩ : ∃ sv, (bl.take i).any id = sv := ⟨_, rfl⟩
      rw [hav, hsv]
      have HAV := Lib.hid hav
      have HSV := Lib.hid hsv
      clear hav hsv
      by_cases hlt : i < l.length
      · have hiI : (i : Int) < (n3 : Int) := by omega
        have hi0 : (0 : Int) ≤ (i : Int) := by omega
        have hi1 : IntKind.i64.wrap ((i : Int) + 1) = (i : Int) + 1 := w64k (by omega) (by omega)
        have hij : i < js.length := by have := HJL.out; omega
        have hib : i < bl.length := by have := HBL.out; omega
        obtain ⟨is, his⟩ : ∃ is, bl[i] = is := ⟨_, rfl⟩
        have HIS := Lib.hid his
        have HCI : Hid (∀ w', Below w.heap.size w w' → _) := Lib.hid (fun w' hb => HC.out i hlt hij w' hb)
        rw [HBI.out i hlt hib, his] at HCI
        have hcj1 := (hB1.cell (p := ⟨b3, o3 + i, none⟩) hb3).trans (HCJ.out i hij)
        obtain ⟨jj, hjj⟩ : ∃ jj, js[i] = jj := ⟨_, rfl⟩
        rw [hjj] at hcj1 HCI
        have hna : Hid ((bl.take (i + 1)).all id = (av && is)) := Lib.hid (by rw [take_all bl i hib, HAV.out, his])
        have hns : Hid ((bl.take (i + 1)).any id = (sv || is)) := Lib.hid (by rw [take_any bl i hib, HSV.out, his])
        have q1 := Q1.b1
        have q2 := Q1.b2
        have q3 := Q1.b3
        have HR := Below.refl wr.heap.size wr
        have hb31 : b3 < wr.heap.size := by omega
        clear his hjj
        go_wp2_with fail
        refine wp_region_held_drew (S := (fun w' => w'.cell? ⟨w.heap.size, 0, none⟩ = some (.slice (some ⟨b, o, none⟩) n c) ∧ w'.cell? ⟨w.heap.size, 1, none⟩ = some (.int .i64 sz) ∧ w'.cell? ⟨w.heap.size, 2, none⟩ = some (.int .i64 dp) ∧ w'.cell? ⟨w.heap.size + 1, 0, none⟩ = some (.int .i64 q) ∧ w'.cell? ⟨w.heap.size + 1, 1, none⟩ = some (.int .i64 t) ∧ w'.cell? ⟨w.heap.size + 1, 2, none⟩ = some (str d) ∧ w'.cell? ⟨w.heap.size + 1 + 1, 4, none⟩ = some (.slice (some ⟨b3, o3, none⟩) n3 c3') ∧ w'.cell? ⟨b3, o3 + i, none⟩ = some (.int .i64 (jj : Nat)))) (by kernel_rfl) ?_ (fun hHeld => ?_)
        · replace q1 := Blk.drew q1; replace q2 := Blk.drew q2; replace q3 := Blk.drew q3; replace HR := Below.drew HR; (try dsimp only); exact ⟨q1.cell_ 0 rfl, q1.cell_ 1 rfl, q1.cell_ 2 rfl, q2.cell_ 0 rfl, q2.cell_ 1 rfl, q2.cell_ 2 rfl, q3.cell_ 4 rfl, (HR.cell (p := ⟨b3, o3 + i, none⟩) hb31).trans hcj1⟩
        replace q1 := Blk.drew q1
        replace q2 := Blk.drew q2
        replace q3 := Blk.drew q3
        replace HR := Below.drew HR
        have zHR := HR.size
        refine take_op (v := ?vu3x0) 0 (Op.load 33 (Operand.tmp 3)) 33 rfl rfl rfl rfl rfl (by kernel_rfl) (by kernel_rfl) (by kernel_rfl) (fun _ _ _ h => h) ?yu3x0 (by assumption) ?ru3x0
        case yu3x0 => (intro w' hSw; (try dsimp only at hSw); go_simp; try (with_reducible rfl))
        simp only [List.setIfInBounds_toArray, List.set_cons_zero, List.set_cons_succ]
        refine take_op (v := ?vu3x1) 1 (Op.fieldAddr 71 (Operand.tmp 7) 3) 0 rfl rfl rfl rfl rfl (by kernel_rfl) (by kernel_rfl) (by kernel_rfl) (fun _ _ _ h => h) ?yu3x1 (by assumption) ?ru3x1
        case yu3x1 => (intro w' hSw; (try dsimp only at hSw); go_simp; try (with_reducible rfl))
        simp only [List.setIfInBounds_toArray, List.set_cons_zero, List.set_cons_succ]
        refine take_op (v := ?vu3x2) 2 (Op.load 69 (Operand.tmp 69)) 69 rfl rfl rfl rfl rfl (by kernel_rfl) (by kernel_rfl) (by kernel_rfl) (fun _ _ _ h => h) ?yu3x2 (by assumption) ?ru3x2
        case yu3x2 => (intro w' hSw; (try dsimp only at hSw); go_simp; try (with_reducible rfl))
        simp only [List.setIfInBounds_toArray, List.set_cons_zero, List.set_cons_succ]
        refine take_movev (v := ?vu3x3) 3 (Operand.tmp 10) rfl rfl (by first | exact .inl rfl | exact .inr rfl) rfl (by kernel_rfl) (by kernel_rfl) (by kernel_rfl) (fun _ _ _ h => h) (by assumption) ?yu3x3 ?ru3x3
        case yu3x3 => (go_simp; try (with_reducible rfl))
        simp only [List.setIfInBounds_toArray, List.set_cons_zero, List.set_cons_succ]
        refine take_op (v := ?vu3x4) 4 (Op.indexAddr 69 (Operand.tmp 70) (Operand.tmp 71)) 0 rfl rfl rfl rfl rfl (by kernel_rfl) (by kernel_rfl) (by kernel_rfl) (fun _ _ _ h => h) ?yu3x4 (by assumption) ?ru3x4
        case yu3x4 => (intro w' hSw; (try dsimp only at hSw); go_simp; try (with_reducible rfl))
        simp only [List.setIfInBounds_toArray, List.set_cons_zero, List.set_cons_succ]
        refine take_op (v := ?vu3x5) 5 (Op.load 3 (Operand.tmp 72)) 3 rfl rfl rfl rfl rfl (by kernel_rfl) (by kernel_rfl) (by kernel_rfl) (fun _ _ _ h => h) ?yu3x5 (by assumption) ?ru3x5
        case yu3x5 => (intro w' hSw; (try dsimp only at hSw); go_simp; try (with_reducible rfl))
        simp only [List.setIfInBounds_toArray, List.set_cons_zero, List.set_cons_succ]
        refine take_op (v := ?vu3x6) 6 (Op.load 23 (Operand.tmp 5)) 23 rfl rfl rfl rfl rfl (by kernel_rfl) (by kernel_rfl) (by kernel_rfl) (fun _ _ _ h => h) ?yu3x6 (by assumption) ?ru3x6
        case yu3x6 => (intro w' hSw; (try dsimp only at hSw); go_simp; try (with_reducible rfl))
        simp only [List.setIfInBounds_toArray, List.set_cons_zero, List.set_cons_succ]
        refine wpAnyH_ready (rs := [7]) (by kernel_rfl) (by simp) (AllReadyH.cons rfl (fun K7 hK7 => ?ku3x7) AllReadyH.nil)
        refine take_calls 7 8 [Operand.tmp 68, Operand.tmp 73, Operand.tmp 74] #[33, 3, 23] rfl rfl (by kernel_rfl) (fun args w => run_enter Tryz.func8 (by kernel_rfl) rfl args w) ?_
        refine (HCI.out _ (hB1.trans (HR.mono hB1.size))).mono ?_
        rintro e w7 ⟨rfl, hb7⟩
        refine ⟨_, rfl, ?_⟩
        have z7 := hb7.size
        try simp only [World.size_drew] at z7
        replace q1 := Blk.below q1 hb7 (by first | exact Nat.le_refl _ | (simp only [World.size_alloc, World.size_setCell, World.size_drew] at *; omega) | omega)
        replace q2 := Blk.below q2 hb7 (by first | exact Nat.le_refl _ | (simp only [World.size_alloc, World.size_setCell, World.size_drew] at *; omega) | omega)
        replace q3 := Blk.below q3 hb7 (by first | exact Nat.le_refl _ | (simp only [World.size_alloc, World.size_setCell, World.size_drew] at *; omega) | omega)
        replace HR := HR.trans (hb7.mono (by first | exact HR.size | omega))
        have zHR7 := HR.size
        refine hK7.out _ _ ?su3x7 (fun hHeld => ?ru3x7)
        case su3x7 => ((try dsimp only); exact ⟨q1.cell_ 0 rfl, q1.cell_ 1 rfl, q1.cell_ 2 rfl, q2.cell_ 0 rfl, q2.cell_ 1 rfl, q2.cell_ 2 rfl, q3.cell_ 4 rfl, (HR.cell (p := ⟨b3, o3 + i, none⟩) hb31).trans hcj1⟩)
        try simp only [List.setIfInBounds_toArray, List.set_cons_zero, List.set_cons_succ]
        refine take_op (v := ?vu3x8) 8 (Op.assign (Operand.tmp 75)) 4 rfl rfl rfl rfl rfl (by kernel_rfl) (by kernel_rfl) (by kernel_rfl) (fun _ _ _ h => h) ?yu3x8 (by assumption) ?ru3x8
        case yu3x8 => (intro w' hSw; (try dsimp only at hSw); go_simp; try (with_reducible rfl))
        simp only [List.setIfInBounds_toArray, List.set_cons_zero, List.set_cons_succ]
        refine wpAnyH_done (by kernel_rfl) ?_ _
        have Q2 := Q1.below HR
        cases av <;> cases sv <;> cases is
        all_goals
          go_wp2_with fail
          go_roundw
          case rel => exact ⟨i + 1, by omega, by go_num, by rw [hna.out]; rfl, by rw [hns.out]; rfl, Q2⟩
          case measure => simp [intOf]; omega
      · have hiI : ¬ (i : Int) < (n3 : Int) := by omega
        have hbt : bl.take i = bl := List.take_of_length_le (by have := HBL.out; omega)
        have HA := HAV.out
        have HSS := HSV.out
        rw [hbt] at HA HSS
        have HA2 := Lib.hid HA
        have HS2 := Lib.hid HSS
        clear HA HSS hbt
        cases av <;> cases sv
        all_goals
          go_wp2_with fail
          go_ret
          exact ⟨ret_bool (by rw [HS2.out]), hB1⟩
mutual
theorem rme_any (q t : Int) (d : List UInt8) (hd : d.length ≤ 100000) : ∀ n : Nd, wfN n → szN n ≤ 1000 → RMe q t d n
  | .within kk lo hi, hw, _ => rme_within q t d kk lo hi hw.1
  | .has u, hw, _ => rme_has q t d hd u hw.2
  | .all, _, _ => rme_all q t d
  | .not x, hw, hz => rme_not q t d x (rme_any q t d hd x hw (by simp only [szN] at hz; omega))
  | .row o l, hw, hz => by
    have hl := len_sz o l hw.2
    simp only [szN] at hz
    exact rme_row q t d o l hw.1 (by omega) (rme_list q t d hd o l hw.2 hz)
theorem rme_list (q t : Int) (d : List UInt8) (hd : d.length ≤ 100000) (o : Bool) : ∀ l : List Nd, wfL o l → szL l ≤ 1000 → ∀ i (h : i < l.length), RMe q t d l[i]
  | [], _, _, i, h => by simp at h
  | a :: l, hw, hz, i, h => by
    simp only [szL] at hz
    cases i with
    | zero => exact rme_any q t d hd a hw.1 (by omega)
    | succ i => exact rme_list q t d hd o l hw.2.2 (by omega) i (by simp at h; omega)
end
end SieW
end Go.Proofs.YtdeiehgghhiijaaGreatDoor
