/- Walks of package sieve: what is asked of a sentence. -/
import Derived.Test.YtdeiehgghhiijaaDoorSieG
import Derived.Test.YtdeiehgghhiijaaDoorSieF
namespace Go.Proofs.YtdeiehgghhiijaaDoor
set_option linter.unusedVariables false
set_option linter.unusedSimpArgs false
set_option linter.unnecessarySimpa false
open Go.RowKit
namespace SieW

/-- A sentence that a call made lies at block g. -/
structure Sv (w : World) (g : Nat) (n : Nd) (sz : Nat) : Prop where
  at_ : ∃ v, Blk w g 43 #[v, .int .i64 sz] ∧ NdV w (fun _ => True) n v
  wf : wfN n
  few : szN n ≤ 200
  size : sz ≤ 1000
theorem Sv.below {w w' : World} {g : Nat} {n : Nd} {sz : Nat} (h : Sv w g n sz) (hb : Below w.heap.size w w') : Sv w' g n sz := by
  obtain ⟨⟨v, b, hv⟩, h2, h3, h4⟩ := h
  exact ⟨⟨v, b.below hb b.lt, hv.keep (fun b _ hbl => ⟨hb.block b hbl, trivial⟩) _ _⟩, h2, h3, h4⟩
theorem neq_iface (T : TypeId) (x : Value) (w : World) : (binOp .neq 41 (.iface T x) .nilIface).run Tryd.prog w = .ok (.bool true) w := by kernel_rfl
theorem made_yes (w : World) (g : Nat) (n : Nd) (sz : Nat) (h : Sv w g n sz) :
    Calls Tryd.prog 23 #[.pointer (some ⟨g, 0, none⟩)] w fun e w' => e = .returned (.bool true) ∧ Below w.heap.size w w' := by
  obtain ⟨⟨v, b, hv⟩, _⟩ := h
  obtain ⟨T, x, rfl⟩ := hv.iface
  obtain ⟨c0, c1, _⟩ := blk2 b
  have hq := neq_iface
  go_enter Tryd.func23, Tryd.ntmps23
  go_wp2_with fail
  go_ret
  exact ⟨rfl, Below.refl _ _⟩
theorem made_nil (w : World) :
    Calls Tryd.prog 23 #[.pointer none] w fun e w' => e = .returned (.bool false) ∧ Below w.heap.size w w' := by
  go_enter Tryd.func23, Tryd.ntmps23
  go_wp2_with fail
  go_ret
  exact ⟨rfl, Below.refl _ _⟩
theorem made_zero (w : World) (g : Nat) (a : Value) (b : Blk w g 43 #[.nilIface, a]) :
    Calls Tryd.prog 23 #[.pointer (some ⟨g, 0, none⟩)] w fun e w' => e = .returned (.bool false) ∧ Below w.heap.size w w' := by
  obtain ⟨c0, c1, _⟩ := blk2 b
  go_enter Tryd.func23, Tryd.ntmps23
  go_wp2_with fail
  go_ret
  exact ⟨rfl, Below.refl _ _⟩
theorem size_yes (w : World) (g : Nat) (n : Nd) (sz : Nat) (h : Sv w g n sz) :
    Calls Tryd.prog 12 #[.pointer (some ⟨g, 0, none⟩)] w fun e w' => e = .returned (.int .i64 sz) ∧ Below w.heap.size w w' := by
  have h0 := h
  obtain ⟨⟨v, b, hv⟩, _⟩ := h
  go_enter Tryd.func12, Tryd.ntmps12
  go_wp2_with fail
  refine (made_yes w g n sz h0).mono ?_
  rintro e w1 ⟨rfl, hb1⟩
  obtain ⟨c0, c1, _⟩ := blk2 (b.below hb1 b.lt)
  go_wp2_with fail
  go_ret
  exact ⟨rfl, hb1⟩
theorem size_no (w : World) (p : Value) (C : Calls Tryd.prog 23 #[p] w fun e w' => e = .returned (.bool false) ∧ Below w.heap.size w w') :
    Calls Tryd.prog 12 #[p] w fun e w' => e = .returned (.int .i64 0) ∧ Below w.heap.size w w' := by
  go_enter Tryd.func12, Tryd.ntmps12
  go_wp2_with fail
  refine C.mono ?_
  rintro e w1 ⟨rfl, hb1⟩
  go_wp2_with fail
  go_ret
  exact ⟨rfl, hb1⟩
theorem show_yes (w : World) (g : Nat) (n : Nd) (sz : Nat) (h : Sv w g n sz) (hW : WanW.Wo w) (t : List UInt8) (ht : shN 0 n = t) :
    Calls Tryd.prog 10 #[.pointer (some ⟨g, 0, none⟩)] w fun e w' => e = .returned (str t) ∧ Below w.heap.size w w' := by
  have h0 := h
  obtain ⟨⟨v, b, hv⟩, h2, h3, h4⟩ := h
  have C := shown_any w _ hW n v 0 h2 (by omega) hv
  rw [ht] at C
  have HC := Lib.hid C
  clear C ht
  go_enter Tryd.func10, Tryd.ntmps10
  go_wp2_with fail
  refine (made_yes w g n sz h0).mono ?_
  rintro e w1 ⟨rfl, hb1⟩
  obtain ⟨c0, c1, _⟩ := blk2 (b.below hb1 b.lt)
  go_wp2_with fail
  refine (HC.out w1 hb1).mono ?_
  rintro e w2 ⟨rfl, hb2⟩
  go_wp2_with fail
  go_ret
  exact ⟨rfl, hb1.trans (hb2.mono hb1.size)⟩
theorem show_no (w : World) (p : Value) (C : Calls Tryd.prog 23 #[p] w fun e w' => e = .returned (.bool false) ∧ Below w.heap.size w w') :
    Calls Tryd.prog 10 #[p] w fun e w' => e = .returned (str []) ∧ Below w.heap.size w w' := by
  go_enter Tryd.func10, Tryd.ntmps10
  go_wp2_with fail
  refine C.mono ?_
  rintro e w1 ⟨rfl, hb1⟩
  go_wp2_with fail
  go_ret
  exact ⟨rfl, hb1⟩
set_option maxRecDepth 100000 in
set_option maxHeartbeats 2000000 in
theorem Meets_yes (w : World) (g : Nat) (n : Nd) (sz : Nat) (h : Sv w g n sz) (q t : Int) (d : List UInt8) (hd : d.length ≤ 100000) (r : Bool) (hr : meetN q t d n = r) :
    Calls Tryd.prog 14 #[.pointer (some ⟨g, 0, none⟩), rcv q t d] w fun e w' => e = .returned (.bool r) ∧ Below w.heap.size w w' := by
  have h0 := h
  obtain ⟨⟨v, b, hv⟩, h2, h3, h4⟩ := h
  have M := meets_any q t d hd w _ n v h2 hv
  rw [hr] at M
  obtain ⟨T, x, K, rfl, hm, hf, hM⟩ := M
  have HM := Lib.hid hM
  clear hM hr
  have HB := (Below.refl w.heap.size w).alloc (Nat.le_refl _) (.cells #[.int .i64 q, .int .i64 t, str d] 37)
  have b1 := b.alloc (.cells #[.int .i64 q, .int .i64 t, str d] 37)
  have b2 := Blk.new w 37 #[.int .i64 q, .int .i64 t, str d]
  have hS := h0.below HB
  go_enter Tryd.func14, Tryd.ntmps14
  go_wp2_with fail
  have hl2 := b2.lt
  generalize w.alloc (.cells #[.int .i64 q, .int .i64 t, str d] 37) = w1 at *
  have hgl := b.lt
  refine wp_region_held_drew (S := (fun w' => w'.cell? ⟨g, 0, none⟩ = some (.iface T x) ∧ w'.cell? ⟨w.heap.size, 0, none⟩ = some (.int .i64 q) ∧ w'.cell? ⟨w.heap.size, 1, none⟩ = some (.int .i64 t) ∧ w'.cell? ⟨w.heap.size, 2, none⟩ = some (str d))) (by kernel_rfl) ?_ (fun hHeld => ?_)
  · replace b1 := Blk.drew b1; replace b2 := Blk.drew b2; replace HB := Below.drew HB; (try dsimp only); exact ⟨b1.cell_ 0 rfl, b2.cell_ 0 rfl, b2.cell_ 1 rfl, b2.cell_ 2 rfl⟩
  replace b1 := Blk.drew b1
  replace b2 := Blk.drew b2
  replace HB := Below.drew HB
  have zHB := HB.size
  refine take_movev (v := ?vu1x0) 0 (Operand.tmp 0) rfl rfl (by first | exact .inl rfl | exact .inr rfl) rfl (by kernel_rfl) (by kernel_rfl) (by kernel_rfl) (fun _ _ _ h => h) (by assumption) ?yu1x0 ?ru1x0
  case yu1x0 => (go_simp; try (with_reducible rfl))
  simp only [List.setIfInBounds_toArray, List.set_cons_zero, List.set_cons_succ]
  refine wpAnyH_ready (rs := [1]) (by kernel_rfl) (by simp) (AllReadyH.cons rfl (fun K1 hK1 => ?ku1x1) AllReadyH.nil)
  refine take_calls 1 23 [Operand.tmp 5] #[23] rfl rfl (by kernel_rfl) (fun args w => run_enter Tryd.func23 (by kernel_rfl) rfl args w) ?_
  refine (made_yes _ g n sz (hS.below (Below.refl _ _).drew)).mono ?_
  rintro e w1 ⟨rfl, hb1⟩
  refine ⟨_, rfl, ?_⟩
  have z1 := hb1.size
  try simp only [World.size_drew] at z1
  replace b1 := Blk.below b1 hb1 (by first | exact Nat.le_refl _ | (simp only [World.size_alloc, World.size_setCell, World.size_drew] at *; omega) | omega)
  replace b2 := Blk.below b2 hb1 (by first | exact Nat.le_refl _ | (simp only [World.size_alloc, World.size_setCell, World.size_drew] at *; omega) | omega)
  replace HB := HB.trans (hb1.mono (by first | exact HB.size | omega))
  have zHB1 := HB.size
  refine hK1.out _ _ ?su1x1 (fun hHeld => ?ru1x1)
  case su1x1 => ((try dsimp only); exact ⟨b1.cell_ 0 rfl, b2.cell_ 0 rfl, b2.cell_ 1 rfl, b2.cell_ 2 rfl⟩)
  try simp only [List.setIfInBounds_toArray, List.set_cons_zero, List.set_cons_succ]
  refine take_movev (v := ?vu1x2) 2 (Operand.tmp 6) rfl rfl (by first | exact .inl rfl | exact .inr rfl) rfl (by kernel_rfl) (by kernel_rfl) (by kernel_rfl) (fun _ _ _ h => h) (by assumption) ?yu1x2 ?ru1x2
  case yu1x2 => (go_simp; try (with_reducible rfl))
  simp only [List.setIfInBounds_toArray, List.set_cons_zero, List.set_cons_succ]
  refine take_movev (v := ?vu1x3) 3 (Operand.tmp 0) rfl rfl (by first | exact .inl rfl | exact .inr rfl) rfl (by kernel_rfl) (by kernel_rfl) (by kernel_rfl) (fun _ _ _ h => h) (by assumption) ?yu1x3 ?ru1x3
  case yu1x3 => (go_simp; try (with_reducible rfl))
  simp only [List.setIfInBounds_toArray, List.set_cons_zero, List.set_cons_succ]
  refine take_op (v := ?vu1x4) 4 (Op.nilCheck (Operand.tmp 8)) 0 rfl rfl rfl rfl rfl (by kernel_rfl) (by kernel_rfl) (by kernel_rfl) (fun _ _ _ h => h) ?yu1x4 (by assumption) ?ru1x4
  case yu1x4 => (intro w' hSw; (try dsimp only at hSw); go_simp; try (with_reducible rfl))
  simp only [List.setIfInBounds_toArray, List.set_cons_zero, List.set_cons_succ]
  refine take_op (v := ?vu1x5) 5 (Op.fieldAddr 43 (Operand.tmp 9) 0) 0 rfl rfl rfl rfl rfl (by kernel_rfl) (by kernel_rfl) (by kernel_rfl) (fun _ _ _ h => h) ?yu1x5 (by assumption) ?ru1x5
  case yu1x5 => (intro w' hSw; (try dsimp only at hSw); go_simp; try (with_reducible rfl))
  simp only [List.setIfInBounds_toArray, List.set_cons_zero, List.set_cons_succ]
  refine take_op (v := ?vu1x6) 6 (Op.load 41 (Operand.tmp 10)) 41 rfl rfl rfl rfl rfl (by kernel_rfl) (by kernel_rfl) (by kernel_rfl) (fun _ _ _ h => h) ?yu1x6 (by assumption) ?ru1x6
  case yu1x6 => (intro w' hSw; (try dsimp only at hSw); go_simp; try (with_reducible rfl))
  simp only [List.setIfInBounds_toArray, List.set_cons_zero, List.set_cons_succ]
  refine take_op (v := ?vu1x7) 7 (Op.load 37 (Operand.tmp 3)) 37 rfl rfl rfl rfl rfl (by kernel_rfl) (by kernel_rfl) (by kernel_rfl) (fun _ _ _ h => h) ?yu1x7 (by assumption) ?ru1x7
  case yu1x7 => (intro w' hSw; (try dsimp only at hSw); go_simp; try (with_reducible rfl))
  simp only [List.setIfInBounds_toArray, List.set_cons_zero, List.set_cons_succ]
  refine wpAnyH_ready (rs := [8]) (by kernel_rfl) (by simp) (AllReadyH.cons rfl (fun K8 hK8 => ?ku1x8) AllReadyH.nil)
  refine take_calli 8 K #[x, rcv q t d] (Op.call { callee := Callee.invoke (Operand.tmp 11) "varve/sieve.meets", args := #[Operand.tmp 12], argTypes := #[37] }) 4 rfl rfl rfl (by kernel_rfl) (by go_simp; try (first | with_reducible rfl | exact ⟨rfl, rfl⟩)) ?_
  refine (HM.out _ HB).mono ?_
  rintro e w8 ⟨rfl, hb8⟩
  replace b1 := b1.below hb8 b1.lt
  replace b2 := b2.below hb8 b2.lt
  replace HB := HB.trans (hb8.mono HB.size)
  refine ⟨_, rfl, ?_⟩
  refine hK8.out _ _ ?su1x8 (fun hHeld => ?ru1x8)
  case su1x8 => ((try dsimp only); exact ⟨b1.cell_ 0 rfl, b2.cell_ 0 rfl, b2.cell_ 1 rfl, b2.cell_ 2 rfl⟩)
  try simp only [List.setIfInBounds_toArray, List.set_cons_zero, List.set_cons_succ]
  refine take_op (v := ?vu1x9) 9 (Op.pick (Operand.tmp 7) (Operand.tmp 13) (Operand.const (Value.bool false))) 4 rfl rfl rfl rfl rfl (by kernel_rfl) (by kernel_rfl) (by kernel_rfl) (fun _ _ _ h => h) ?yu1x9 (by assumption) ?ru1x9
  case yu1x9 => (intro w' hSw; (try dsimp only at hSw); go_simp; try (with_reducible rfl))
  simp only [List.setIfInBounds_toArray, List.set_cons_zero, List.set_cons_succ]
  refine take_op (v := ?vu1x10) 10 (Op.assign (Operand.tmp 14)) 4 rfl rfl rfl rfl rfl (by kernel_rfl) (by kernel_rfl) (by kernel_rfl) (fun _ _ _ h => h) ?yu1x10 (by assumption) ?ru1x10
  case yu1x10 => (intro w' hSw; (try dsimp only at hSw); go_simp; try (with_reducible rfl))
  simp only [List.setIfInBounds_toArray, List.set_cons_zero, List.set_cons_succ]
  refine wpAnyH_done (by kernel_rfl) ?_ _
  go_wp2_with fail
  go_ret
  exact ⟨rfl, HB⟩
set_option maxRecDepth 100000 in
set_option maxHeartbeats 2000000 in
theorem Meets_no (w : World) (p : Value) (q t : Int) (d : List UInt8) (C : ∀ w2, Below w.heap.size w w2 → Calls Tryd.prog 23 #[p] w2 fun e w' => e = .returned (.bool false) ∧ Below w2.heap.size w2 w') :
    Calls Tryd.prog 14 #[p, rcv q t d] w fun e w' => e = .returned (.bool false) ∧ Below w.heap.size w w' := by
  have HB := (Below.refl w.heap.size w).alloc (Nat.le_refl _) (.cells #[.int .i64 q, .int .i64 t, str d] 37)
  have HC := Lib.hid C
  clear C
  go_enter Tryd.func14, Tryd.ntmps14
  go_wp2_with fail
  generalize w.alloc (.cells #[.int .i64 q, .int .i64 t, str d] 37) = w1 at *
  refine wp_region_held_drew (S := (fun _ => True)) (by kernel_rfl) ?_ (fun hHeld => ?_)
  · replace HB := Below.drew HB; (try dsimp only); try trivial
  replace HB := Below.drew HB
  have zHB := HB.size
  refine take_movev (v := ?vu2x0) 0 (Operand.tmp 0) rfl rfl (by first | exact .inl rfl | exact .inr rfl) rfl (by kernel_rfl) (by kernel_rfl) (by kernel_rfl) (fun _ _ _ h => h) (by assumption) ?yu2x0 ?ru2x0
  case yu2x0 => (go_simp; try (with_reducible rfl))
  simp only [List.setIfInBounds_toArray, List.set_cons_zero, List.set_cons_succ]
  refine wpAnyH_ready (rs := [1]) (by kernel_rfl) (by simp) (AllReadyH.cons rfl (fun K1 hK1 => ?ku2x1) AllReadyH.nil)
  refine take_calls 1 23 [Operand.tmp 5] #[23] rfl rfl (by kernel_rfl) (fun args w => run_enter Tryd.func23 (by kernel_rfl) rfl args w) ?_
  refine (HC.out _ HB).mono ?_
  rintro e w1 ⟨rfl, hb1⟩
  refine ⟨_, rfl, ?_⟩
  have z1 := hb1.size
  try simp only [World.size_drew] at z1
  replace HB := HB.trans (hb1.mono (by first | exact HB.size | omega))
  have zHB1 := HB.size
  refine hK1.out _ _ ?su2x1 (fun hHeld => ?ru2x1)
  case su2x1 => ((try dsimp only); try trivial)
  try simp only [List.setIfInBounds_toArray, List.set_cons_zero, List.set_cons_succ]
  refine take_movev (v := ?vu2x2) 2 (Operand.tmp 6) rfl rfl (by first | exact .inl rfl | exact .inr rfl) rfl (by kernel_rfl) (by kernel_rfl) (by kernel_rfl) (fun _ _ _ h => h) (by assumption) ?yu2x2 ?ru2x2
  case yu2x2 => (go_simp; try (with_reducible rfl))
  simp only [List.setIfInBounds_toArray, List.set_cons_zero, List.set_cons_succ]
  refine take_skip 3 rfl rfl rfl (by kernel_rfl) (by kernel_rfl) (by kernel_rfl) (fun _ _ _ h => h) (by assumption) ?_
  simp only [List.setIfInBounds_toArray, List.set_cons_zero, List.set_cons_succ]
  refine take_skip 4 rfl rfl rfl (by kernel_rfl) (by kernel_rfl) (by kernel_rfl) (fun _ _ _ h => h) (by assumption) ?_
  simp only [List.setIfInBounds_toArray, List.set_cons_zero, List.set_cons_succ]
  refine take_skip 5 rfl rfl rfl (by kernel_rfl) (by kernel_rfl) (by kernel_rfl) (fun _ _ _ h => h) (by assumption) ?_
  simp only [List.setIfInBounds_toArray, List.set_cons_zero, List.set_cons_succ]
  refine take_skip 6 rfl rfl rfl (by kernel_rfl) (by kernel_rfl) (by kernel_rfl) (fun _ _ _ h => h) (by assumption) ?_
  simp only [List.setIfInBounds_toArray, List.set_cons_zero, List.set_cons_succ]
  refine take_skip 7 rfl rfl rfl (by kernel_rfl) (by kernel_rfl) (by kernel_rfl) (fun _ _ _ h => h) (by assumption) ?_
  simp only [List.setIfInBounds_toArray, List.set_cons_zero, List.set_cons_succ]
  refine take_skip 8 rfl rfl rfl (by kernel_rfl) (by kernel_rfl) (by kernel_rfl) (fun _ _ _ h => h) (by assumption) ?_
  simp only [List.setIfInBounds_toArray, List.set_cons_zero, List.set_cons_succ]
  refine take_op (v := ?vu2x9) 9 (Op.pick (Operand.tmp 7) (Operand.tmp 13) (Operand.const (Value.bool false))) 4 rfl rfl rfl rfl rfl (by kernel_rfl) (by kernel_rfl) (by kernel_rfl) (fun _ _ _ h => h) ?yu2x9 (by assumption) ?ru2x9
  case yu2x9 => (intro w' hSw; (try dsimp only at hSw); go_simp; try (with_reducible rfl))
  simp only [List.setIfInBounds_toArray, List.set_cons_zero, List.set_cons_succ]
  refine take_op (v := ?vu2x10) 10 (Op.assign (Operand.tmp 14)) 4 rfl rfl rfl rfl rfl (by kernel_rfl) (by kernel_rfl) (by kernel_rfl) (fun _ _ _ h => h) ?yu2x10 (by assumption) ?ru2x10
  case yu2x10 => (intro w' hSw; (try dsimp only at hSw); go_simp; try (with_reducible rfl))
  simp only [List.setIfInBounds_toArray, List.set_cons_zero, List.set_cons_succ]
  refine wpAnyH_done (by kernel_rfl) ?_ _
  go_wp2_with fail
  go_ret
  exact ⟨rfl, HB⟩
set_option maxRecDepth 100000 in
set_option maxHeartbeats 2000000 in
theorem Not_yes (w : World) (g : Nat) (n : Nd) (sz : Nat) (h : Sv w g n sz) (hs : sz < 100) (hz : szN n ≤ 100) :
    Calls Tryd.prog 13 #[.pointer (some ⟨g, 0, none⟩)] w fun e w' => ∃ g', e = .returned (.tuple #[.pointer (some ⟨g', 0, none⟩), .int .i64 0]) ∧ Sv w' g' (.not n) (sz + 1) ∧ Below w.heap.size w w' := by
  have h0 := h
  obtain ⟨⟨v, b, hv⟩, h2, h3, h4⟩ := h
  obtain ⟨T, x, rfl⟩ := hv.iface
  go_enter Tryd.func13, Tryd.ntmps13
  go_wp2_with fail
  refine (made_yes w g n sz h0).mono ?_
  rintro e w1 ⟨rfl, hb1⟩
  have b1 := b.below hb1 b.lt
  have hS := h0.below hb1
  obtain ⟨c0, c1, _⟩ := blk2 b1
  go_wp2_with fail
  refine wp_region_held_drew (S := (fun w' => w'.cell? ⟨g, 0, none⟩ = some (.iface T x) ∧ w'.cell? ⟨g, 1, none⟩ = some (.int .i64 (sz : Nat)))) (by kernel_rfl) ?_ (fun hHeld => ?_)
  · replace b1 := Blk.drew b1; (try dsimp only); first | exact ⟨b1.cell_ 0 rfl, b1.cell_ 1 rfl⟩ | exact ⟨(b1.alloc _).cell_ 0 rfl, (b1.alloc _).cell_ 1 rfl⟩
  replace b1 := Blk.drew b1
  refine take_movev (v := ?vu3x0) 0 (Operand.tmp 0) rfl rfl (by first | exact .inl rfl | exact .inr rfl) rfl (by kernel_rfl) (by kernel_rfl) (by kernel_rfl) (fun _ _ _ h => h) (by assumption) ?yu3x0 ?ru3x0
  case yu3x0 => (go_simp; try (with_reducible rfl))
  simp only [List.setIfInBounds_toArray, List.set_cons_zero, List.set_cons_succ]
  refine take_op (v := ?vu3x1) 1 (Op.nilCheck (Operand.tmp 14)) 0 rfl rfl rfl rfl rfl (by kernel_rfl) (by kernel_rfl) (by kernel_rfl) (fun _ _ _ h => h) ?yu3x1 (by assumption) ?ru3x1
  case yu3x1 => (intro w' hSw; (try dsimp only at hSw); go_simp; try (with_reducible rfl))
  simp only [List.setIfInBounds_toArray, List.set_cons_zero, List.set_cons_succ]
  refine take_op (v := ?vu3x2) 2 (Op.fieldAddr 43 (Operand.tmp 15) 0) 0 rfl rfl rfl rfl rfl (by kernel_rfl) (by kernel_rfl) (by kernel_rfl) (fun _ _ _ h => h) ?yu3x2 (by assumption) ?ru3x2
  case yu3x2 => (intro w' hSw; (try dsimp only at hSw); go_simp; try (with_reducible rfl))
  simp only [List.setIfInBounds_toArray, List.set_cons_zero, List.set_cons_succ]
  refine take_op (v := ?vu3x3) 3 (Op.load 41 (Operand.tmp 16)) 41 rfl rfl rfl rfl rfl (by kernel_rfl) (by kernel_rfl) (by kernel_rfl) (fun _ _ _ h => h) ?yu3x3 (by assumption) ?ru3x3
  case yu3x3 => (intro w' hSw; (try dsimp only at hSw); go_simp; try (with_reducible rfl))
  simp only [List.setIfInBounds_toArray, List.set_cons_zero, List.set_cons_succ]
  refine take_op (v := ?vu3x4) 4 (Op.build 79 #[(0, Operand.tmp 17)]) 79 rfl rfl rfl rfl rfl (by kernel_rfl) (by kernel_rfl) (by kernel_rfl) (fun _ _ _ h => h) ?yu3x4 (by assumption) ?ru3x4
  case yu3x4 => (intro w' hSw; (try dsimp only at hSw); go_simp; try (with_reducible rfl))
  simp only [List.setIfInBounds_toArray, List.set_cons_zero, List.set_cons_succ]
  refine take_op (v := ?vu3x5) 5 (Op.makeInterface 79 (Operand.tmp 18)) 41 rfl rfl rfl rfl rfl (by kernel_rfl) (by kernel_rfl) (by kernel_rfl) (fun _ _ _ h => h) ?yu3x5 (by assumption) ?ru3x5
  case yu3x5 => (intro w' hSw; (try dsimp only at hSw); go_simp; try (with_reducible rfl))
  simp only [List.setIfInBounds_toArray, List.set_cons_zero, List.set_cons_succ]
  refine take_movev (v := ?vu3x6) 6 (Operand.tmp 0) rfl rfl (by first | exact .inl rfl | exact .inr rfl) rfl (by kernel_rfl) (by kernel_rfl) (by kernel_rfl) (fun _ _ _ h => h) (by assumption) ?yu3x6 ?ru3x6
  case yu3x6 => (go_simp; try (with_reducible rfl))
  simp only [List.setIfInBounds_toArray, List.set_cons_zero, List.set_cons_succ]
  refine take_op (v := ?vu3x7) 7 (Op.nilCheck (Operand.tmp 20)) 0 rfl rfl rfl rfl rfl (by kernel_rfl) (by kernel_rfl) (by kernel_rfl) (fun _ _ _ h => h) ?yu3x7 (by assumption) ?ru3x7
  case yu3x7 => (intro w' hSw; (try dsimp only at hSw); go_simp; try (with_reducible rfl))
  simp only [List.setIfInBounds_toArray, List.set_cons_zero, List.set_cons_succ]
  refine take_op (v := ?vu3x8) 8 (Op.fieldAddr 43 (Operand.tmp 21) 1) 0 rfl rfl rfl rfl rfl (by kernel_rfl) (by kernel_rfl) (by kernel_rfl) (fun _ _ _ h => h) ?yu3x8 (by assumption) ?ru3x8
  case yu3x8 => (intro w' hSw; (try dsimp only at hSw); go_simp; try (with_reducible rfl))
  simp only [List.setIfInBounds_toArray, List.set_cons_zero, List.set_cons_succ]
  refine take_op (v := ?vu3x9) 9 (Op.load 3 (Operand.tmp 22)) 3 rfl rfl rfl rfl rfl (by kernel_rfl) (by kernel_rfl) (by kernel_rfl) (fun _ _ _ h => h) ?yu3x9 (by assumption) ?ru3x9
  case yu3x9 => (intro w' hSw; (try dsimp only at hSw); go_simp; try (with_reducible rfl))
  simp only [List.setIfInBounds_toArray, List.set_cons_zero, List.set_cons_succ]
  refine take_op (v := ?vu3x10) 10 (Op.binOp BinOp.add 3 (Operand.tmp 23) (Operand.const (Value.int IntKind.i64 1)) 3) 3 rfl rfl rfl rfl rfl (by kernel_rfl) (by kernel_rfl) (by kernel_rfl) (fun _ _ _ h => h) ?yu3x10 (by assumption) ?ru3x10
  case yu3x10 => (intro w' hSw; (try dsimp only at hSw); go_simp; try (with_reducible rfl))
  simp only [List.setIfInBounds_toArray, List.set_cons_zero, List.set_cons_succ]
  refine take_op (v := ?vu3x11) 11 (Op.build 43 #[(0, Operand.tmp 19), (1, Operand.tmp 24)]) 43 rfl rfl rfl rfl rfl (by kernel_rfl) (by kernel_rfl) (by kernel_rfl) (fun _ _ _ h => h) ?yu3x11 (by assumption) ?ru3x11
  case yu3x11 => (intro w' hSw; (try dsimp only at hSw); go_simp; try (with_reducible rfl))
  simp only [List.setIfInBounds_toArray, List.set_cons_zero, List.set_cons_succ]
  refine' take_run 12 (Op.box 43 (Operand.tmp 25)) 23 (by kernel_rfl) rfl rfl rfl rfl rfl ?eu3x12 ?su3x12 (fun hHeld => ?ru3x12)
  case eu3x12 => (go_simp; try (first | with_reducible rfl | exact ⟨rfl, rfl⟩))
  case su3x12 => ((try dsimp only); first | exact ⟨b1.cell_ 0 rfl, b1.cell_ 1 rfl⟩ | exact ⟨(b1.alloc _).cell_ 0 rfl, (b1.alloc _).cell_ 1 rfl⟩)
  simp only [List.setIfInBounds_toArray, List.set_cons_zero, List.set_cons_succ]
  refine take_op (v := ?vu3x13) 13 (Op.assign (Operand.tmp 26)) 23 rfl rfl rfl rfl rfl (by kernel_rfl) (by kernel_rfl) (by kernel_rfl) (fun _ _ _ h => h) ?yu3x13 (by assumption) ?ru3x13
  case yu3x13 => (intro w' hSw; (try dsimp only at hSw); go_simp; try (with_reducible rfl))
  simp only [List.setIfInBounds_toArray, List.set_cons_zero, List.set_cons_succ]
  refine take_op (v := ?vu3x14) 14 (Op.assign (Operand.const (Value.int IntKind.i64 0))) 24 rfl rfl rfl rfl rfl (by kernel_rfl) (by kernel_rfl) (by kernel_rfl) (fun _ _ _ h => h) ?yu3x14 (by assumption) ?ru3x14
  case yu3x14 => (intro w' hSw; (try dsimp only at hSw); go_simp; try (with_reducible rfl))
  simp only [List.setIfInBounds_toArray, List.set_cons_zero, List.set_cons_succ]
  refine wpAnyH_done (by kernel_rfl) ?_ _
  have hwz : IntKind.i64.wrap ((sz : Int) + 1) = ((sz + 1 : Nat) : Int) := by rw [IntWalk.i64_in _ (by omega)]; rfl
  rw [hwz]
  have bN := (Blk.new w1 43 #[.iface 79 (.agg #[.iface T x]), .int .i64 ((sz + 1 : Nat) : Int)]).drew
  have HBN := (hb1.alloc hb1.size (.cells #[.iface 79 (.agg #[.iface T x]), .int .i64 ((sz + 1 : Nat) : Int)] 43)).drew
  have hvN : NdV (w1.alloc (.cells #[.iface 79 (.agg #[.iface T x]), .int .i64 ((sz + 1 : Nat) : Int)] 43)).drew (fun _ => True) n (.iface T x) := hv.keep (w' := (w1.alloc (.cells #[.iface 79 (.agg #[.iface T x]), .int .i64 ((sz + 1 : Nat) : Int)] 43)).drew) (fun b _ hbl => ⟨(Below.heap_alloc _ _ b (Nat.lt_of_lt_of_le hbl hb1.size)).trans (hb1.block b hbl), trivial⟩) _ _
  generalize (w1.alloc (.cells #[.iface 79 (.agg #[.iface T x]), .int .i64 ((sz + 1 : Nat) : Int)] 43)).drew = w2 at *
  clear hwz hHeld
  go_wp2_with fail
  go_ret2
  exact ⟨w1.heap.size, rfl, ⟨⟨_, bN, ⟨_, rfl, hvN⟩⟩, h2, by simp only [szN]; omega, by omega⟩, HBN⟩
theorem Not_big (w : World) (g : Nat) (n : Nd) (sz : Nat) (h : Sv w g n sz) (hs : 100 ≤ sz) :
    Calls Tryd.prog 13 #[.pointer (some ⟨g, 0, none⟩)] w fun e w' => e = .returned (.tuple #[.pointer none, .int .i64 3]) ∧ Below w.heap.size w w' := by
  have h0 := h
  obtain ⟨⟨v, b, hv⟩, h2, h3, h4⟩ := h
  have hsI : (100 : Int) ≤ (sz : Int) := by omega
  go_enter Tryd.func13, Tryd.ntmps13
  go_wp2_with fail
  refine (made_yes w g n sz h0).mono ?_
  rintro e w1 ⟨rfl, hb1⟩
  have b1 := b.below hb1 b.lt
  obtain ⟨c0, c1, _⟩ := blk2 b1
  go_wp2_with fail
  go_ret2
  exact ⟨rfl, hb1⟩
theorem Not_no (w : World) (p : Value) (C : Calls Tryd.prog 23 #[p] w fun e w' => e = .returned (.bool false) ∧ Below w.heap.size w w') :
    Calls Tryd.prog 13 #[p] w fun e w' => e = .returned (.tuple #[.pointer none, .int .i64 1]) ∧ Below w.heap.size w w' := by
  go_enter Tryd.func13, Tryd.ntmps13
  go_wp2_with fail
  refine C.mono ?_
  rintro e w1 ⟨rfl, hb1⟩
  go_wp2_with fail
  go_ret2
  exact ⟨rfl, hb1⟩
end SieW
end Go.Proofs.YtdeiehgghhiijaaDoor
