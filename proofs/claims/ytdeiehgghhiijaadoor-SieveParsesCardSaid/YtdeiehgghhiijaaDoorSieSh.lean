/- Walks of the reference of package sieve: how a part is written. -/
import Derived.Test.YtdeiehgghhiijaaDoorSieY
import Derived.Test.YtdeiehgghhiijaaDoorSieG
namespace Go.Proofs.YtdeiehgghhiijaaDoor
set_option linter.unusedVariables false
set_option linter.unusedSimpArgs false
set_option linter.unnecessarySimpa false
open Go.RowKit
namespace SieW
open WanW (w64k)

def RSw (nd : Nd) : Prop := ∀ (cl : Nat) (A : Option Addr) (n c : Nat) (sz dp : Int) (ps : List RP) (k : Nat) (S : Nat → Prop) (w : World), cl ≤ 2 → PsAt w S A n ps → Rep ps nd k →
  Calls Tryd.prog 11 #[.agg #[.slice A n c, .int .i64 sz, .int .i64 dp], .int .i64 k, .int .i64 cl] w fun e w' => e = .returned (str (shN cl nd)) ∧ Below w.heap.size w w'
/-- What stands in memory where a part is to be written: the sentence, the part. -/
structure Shows (w wr : World) (B : Nat) (sent : Array Value) (p : RP) (v : Value) : Prop where
  b1 : Blk wr B 29 sent
  b3 : Blk wr (B + 1) 75 (pv p.word p.lo p.hi p.what v)
  bel : Below B w wr
  hz : B + 1 + 1 ≤ wr.heap.size
theorem Shows.new (w : World) (sent : Array Value) (p : RP) (v : Value) :
    Shows w ((w.alloc (.cells sent 29)).alloc (.cells (pv p.word p.lo p.hi p.what v) 75)) w.heap.size sent p v := by
  have q3 := Blk.new (w.alloc (.cells sent 29)) 75 (pv p.word p.lo p.hi p.what v)
  simp only [World.size_alloc] at q3
  exact ⟨(Blk.new w _ _).alloc _, q3, ((Below.refl _ w).alloc (Nat.le_refl _) _).alloc (by simp) _, by simp⟩
theorem Shows.below {w wr w' : World} {B : Nat} {sent : Array Value} {p : RP} {v : Value} (h : Shows w wr B sent p v) (hb : Below wr.heap.size wr w') : Shows w w' B sent p v :=
  ⟨h.b1.below hb h.b1.lt, h.b3.below hb h.b3.lt, h.bel.trans (hb.mono (by have := h.hz; omega)), by have := h.hz; have := hb.size; omega⟩
theorem digRef (a : Int) (h0 : 0 ≤ a) (h1 : a ≤ 1000000001) (x : List UInt8) (hx : WanW.decL a.toNat = x) (w : World) :
    Calls Tryd.prog 26 #[.int .i64 a] w fun e w' => e = .returned (str x) ∧ Below w.heap.size w w' := by
  have := WanW.digits_any 9 a.toNat w (by omega) (by omega)
  rw [show ((a.toNat : Nat) : Int) = a by omega, hx] at this
  exact this
/-- What is written of the first i of some. -/
def jn (sep : List UInt8) (ts : List (List UInt8)) : Nat → List UInt8
  | 0 => []
  | i + 1 => (if i = 0 then [] else jn sep ts i ++ sep) ++ ts[i]?.getD []
theorem jn_join (sep : List UInt8) (ts : List (List UInt8)) (i : Nat) (h : i ≤ ts.length) : jn sep ts i = Lib.join (ts.take i) sep := by
  induction i with
  | zero => simp [jn, Lib.join_nil]
  | succ i ih =>
    have hlt : i < ts.length := by omega
    rw [jn, List.getElem?_eq_getElem hlt, Option.getD_some, List.take_succ_eq_append_getElem hlt]
    by_cases h0 : i = 0
    · subst h0
      simp [Lib.join_one]
    · rw [if_neg h0, ih (by omega)]
      obtain ⟨a, l, e⟩ : ∃ a l, ts.take i = a :: l := by
        cases hh : ts.take i with
        | nil => have e2 := congrArg List.length hh; rw [List.length_take, List.length_nil] at e2; omega
        | cons a l => exact ⟨a, l, rfl⟩
      rw [e, List.cons_append, Lib.join_cons, Lib.join_cons]
      simp [Lib.joinTail]
theorem jn_up (sep : List UInt8) (ts : List (List UInt8)) (i : Nat) : (jn sep ts i).length ≤ (jn sep ts (i + 1)).length := by
  rw [jn]
  split
  · next h => subst h; simp [jn]
  · simp only [List.length_append]; omega
theorem jn_le (sep : List UInt8) (ts : List (List UInt8)) (i k : Nat) : (jn sep ts i).length ≤ (jn sep ts (i + k)).length := by
  induction k with
  | zero => exact Nat.le_refl _
  | succ k ih => exact Nat.le_trans ih (jn_up sep ts (i + k))
set_option maxRecDepth 100000 in
set_option maxHeartbeats 8000000 in
theorem rsw_within (kk : Nat) (lo hi : Int) (hk : wfN (.within kk lo hi)) : RSw (.within kk lo hi) := by
  intro cl A n c sz dp ps k S w hcl hp hr
  obtain ⟨k2, l0, l1, h0, h1⟩ := hk
  have hr : ps[k]? = some ⟨kwS kk, lo, hi, [], []⟩ := hr
  obtain ⟨b, o, v, rfl, hS, hb, c0, c1, c2, c3, c4, hof⟩ := hp.at_ hr
  obtain ⟨A3, n3, c3', rfl, hn3, hm3, r3⟩ := hof
  have hln := hp.len
  have hkn : k < n := by have := (List.getElem?_eq_some_iff.1 hr).1; omega
  have hkI : (k : Int) < (n : Int) := by omega
  have hk0 : (0 : Int) ≤ (k : Int) := by omega
  have hne : b ≠ w.heap.size := by omega
  have Q := Shows.new w #[.slice (some ⟨b, o, none⟩) n c, .int .i64 sz, .int .i64 dp] ⟨kwS kk, lo, hi, [], []⟩ (.slice A3 n3 c3')
  have Qz := Q.hz
  have HB := Q.bel
  have hk4 : (kwS kk).length ≤ 4 := by unfold kwS; split <;> (try split) <;> decide
  have hl1 := decL_len lo.toNat (by omega)
  have hl2 := decL_len hi.toNat (by omega)
  obtain ⟨D1, hD1⟩ : ∃ x, WanW.decL lo.toNat = x := ⟨_, rfl⟩
  obtain ⟨D2, hD2⟩ : ∃ x, WanW.decL hi.toNat = x := ⟨_, rfl⟩
  rw [hD1] at hl1
  rw [hD2] at hl2
  have HD1 := Lib.hid (digRef lo l0 l1 D1 hD1)
  have HD2 := Lib.hid (digRef hi h0 h1 D2 hD2)
  have HSH : Hid (shN cl (.within kk lo hi) = kwS kk ++ 32 :: (D1 ++ 45 :: D2)) := Lib.hid (by rw [shN, rngL, hD1, hD2])
  have hre : ps[k]? = some ⟨kwS kk, lo, hi, [], []⟩ := hr
  clear hD1 hD2 hln hp hr hre
  obtain ⟨w1, hw1⟩ : ∃ w1, (w.alloc (.cells #[.slice (some ⟨b, o, none⟩) n c, .int .i64 sz, .int .i64 dp] 29)).alloc (.cells (pv (kwS kk) lo hi [] (.slice A3 n3 c3')) 75) = w1 := ⟨_, rfl⟩
  dsimp only at Q HB Qz
  rw [hw1] at Q HB Qz
  obtain ⟨x0, x1, x2, _⟩ := blk3 Q.b1
  obtain ⟨z0, z1, z2, z3, z4, _⟩ := blk5 Q.b3
  rw [HSH.out]
  have k3 : kk = 0 ∨ kk = 1 ∨ kk = 2 := by omega
  rcases k3 with rfl | rfl | rfl
  · go_enter Tryd.func11, Tryd.ntmps11
    have ha0 : ¬ 9223372036854775807 < (kwS 0).length + 1 := by omega
    have ha2 : ¬ 9223372036854775807 < (kwS 0).length + 1 + D1.length := by omega
    have ha3 : ¬ 9223372036854775807 < (kwS 0).length + 1 + D1.length + 1 := by omega
    have ha4 : ¬ 9223372036854775807 < (kwS 0).length + 1 + D1.length + 1 + D2.length := by omega
    go_wp2_with fail
    have q3 := Q.b3
    have HR := Below.refl w1.heap.size w1
    refine wp_region_held_drew (S := (fun w' => w'.cell? ⟨w.heap.size + 1, 0, none⟩ = some (str (kwS 0)) ∧ w'.cell? ⟨w.heap.size + 1, 1, none⟩ = some (.int .i64 lo) ∧ w'.cell? ⟨w.heap.size + 1, 2, none⟩ = some (.int .i64 hi))) (by kernel_rfl) ?_ (fun hHeld => ?_)
    · replace q3 := Blk.drew q3; replace HR := Below.drew HR; (try dsimp only); exact ⟨q3.cell_ 0 rfl, q3.cell_ 1 rfl, q3.cell_ 2 rfl⟩
    replace q3 := Blk.drew q3
    replace HR := Below.drew HR
    have zHR := HR.size
    refine take_op (v := ?vu1x0) 0 (Op.fieldAddr 75 (Operand.tmp 7) 0) 0 rfl rfl rfl rfl rfl (by kernel_rfl) (by kernel_rfl) (by kernel_rfl) (fun _ _ _ h => h) ?yu1x0 (by assumption) ?ru1x0
    case yu1x0 => (intro w' hSw; (try dsimp only at hSw); go_simp; try (with_reducible rfl))
    simp only [List.setIfInBounds_toArray, List.set_cons_zero, List.set_cons_succ]
    refine take_op (v := ?vu1x1) 1 (Op.load 9 (Operand.tmp 18)) 9 rfl rfl rfl rfl rfl (by kernel_rfl) (by kernel_rfl) (by kernel_rfl) (fun _ _ _ h => h) ?yu1x1 (by assumption) ?ru1x1
    case yu1x1 => (intro w' hSw; (try dsimp only at hSw); go_simp; try (with_reducible rfl))
    simp only [List.setIfInBounds_toArray, List.set_cons_zero, List.set_cons_succ]
    refine take_op (v := ?vu1x2) 2 (Op.binOp BinOp.add 9 (Operand.tmp 19) (Operand.const (Value.string { data := #[32] })) 9) 9 rfl rfl rfl rfl rfl (by kernel_rfl) (by kernel_rfl) (by kernel_rfl) (fun _ _ _ h => h) ?yu1x2 (by assumption) ?ru1x2
    case yu1x2 => (intro w' hSw; (try dsimp only at hSw); go_simp; try (with_reducible rfl))
    simp only [List.setIfInBounds_toArray, List.set_cons_zero, List.set_cons_succ]
    refine take_op (v := ?vu1x3) 3 (Op.fieldAddr 75 (Operand.tmp 7) 1) 0 rfl rfl rfl rfl rfl (by kernel_rfl) (by kernel_rfl) (by kernel_rfl) (fun _ _ _ h => h) ?yu1x3 (by assumption) ?ru1x3
    case yu1x3 => (intro w' hSw; (try dsimp only at hSw); go_simp; try (with_reducible rfl))
    simp only [List.setIfInBounds_toArray, List.set_cons_zero, List.set_cons_succ]
    refine take_op (v := ?vu1x4) 4 (Op.fieldAddr 72 (Operand.tmp 21) 0) 0 rfl rfl rfl rfl rfl (by kernel_rfl) (by kernel_rfl) (by kernel_rfl) (fun _ _ _ h => h) ?yu1x4 (by assumption) ?ru1x4
    case yu1x4 => (intro w' hSw; (try dsimp only at hSw); go_simp; try (with_reducible rfl))
    simp only [List.setIfInBounds_toArray, List.set_cons_zero, List.set_cons_succ]
    refine take_op (v := ?vu1x5) 5 (Op.load 3 (Operand.tmp 22)) 3 rfl rfl rfl rfl rfl (by kernel_rfl) (by kernel_rfl) (by kernel_rfl) (fun _ _ _ h => h) ?yu1x5 (by assumption) ?ru1x5
    case yu1x5 => (intro w' hSw; (try dsimp only at hSw); go_simp; try (with_reducible rfl))
    simp only [List.setIfInBounds_toArray, List.set_cons_zero, List.set_cons_succ]
    refine take_op (v := ?vu1x9) 9 (Op.fieldAddr 75 (Operand.tmp 7) 1) 0 rfl rfl rfl rfl rfl (by kernel_rfl) (by kernel_rfl) (by kernel_rfl) (fun _ _ _ h => h) ?yu1x9 (by assumption) ?ru1x9
    case yu1x9 => (intro w' hSw; (try dsimp only at hSw); go_simp; try (with_reducible rfl))
    simp only [List.setIfInBounds_toArray, List.set_cons_zero, List.set_cons_succ]
    refine take_op (v := ?vu1x10) 10 (Op.fieldAddr 72 (Operand.tmp 27) 1) 0 rfl rfl rfl rfl rfl (by kernel_rfl) (by kernel_rfl) (by kernel_rfl) (fun _ _ _ h => h) ?yu1x10 (by assumption) ?ru1x10
    case yu1x10 => (intro w' hSw; (try dsimp only at hSw); go_simp; try (with_reducible rfl))
    simp only [List.setIfInBounds_toArray, List.set_cons_zero, List.set_cons_succ]
    refine take_op (v := ?vu1x11) 11 (Op.load 3 (Operand.tmp 28)) 3 rfl rfl rfl rfl rfl (by kernel_rfl) (by kernel_rfl) (by kernel_rfl) (fun _ _ _ h => h) ?yu1x11 (by assumption) ?ru1x11
    case yu1x11 => (intro w' hSw; (try dsimp only at hSw); go_simp; try (with_reducible rfl))
    simp only [List.setIfInBounds_toArray, List.set_cons_zero, List.set_cons_succ]
    refine wpAnyH_ready (rs := [6]) (by kernel_rfl) (by simp) (AllReadyH.cons rfl (fun K6 hK6 => ?ku1x6) AllReadyH.nil)
    refine take_calls 6 26 [Operand.tmp 23] #[3] rfl rfl (by kernel_rfl) (fun args w => run_enter Tryd.func26 (by kernel_rfl) rfl args w) ?_
    refine (HD1.out _).mono ?_
    rintro e w6 ⟨rfl, hb6⟩
    refine ⟨_, rfl, ?_⟩
    have z6 := hb6.size
    try simp only [World.size_drew] at z6
    replace q3 := Blk.below q3 hb6 (by first | exact Nat.le_refl _ | (simp only [World.size_alloc, World.size_setCell, World.size_drew] at *; omega) | omega)
    replace HR := HR.trans (hb6.mono (by first | exact HR.size | omega))
    have zHR6 := HR.size
    refine hK6.out _ _ ?su1x6 (fun hHeld => ?ru1x6)
    case su1x6 => ((try dsimp only); exact ⟨q3.cell_ 0 rfl, q3.cell_ 1 rfl, q3.cell_ 2 rfl⟩)
    try simp only [List.setIfInBounds_toArray, List.set_cons_zero, List.set_cons_succ]
    refine take_op (v := ?vu1x7) 7 (Op.binOp BinOp.add 9 (Operand.tmp 20) (Operand.tmp 24) 9) 9 rfl rfl rfl rfl rfl (by kernel_rfl) (by kernel_rfl) (by kernel_rfl) (fun _ _ _ h => h) ?yu1x7 (by assumption) ?ru1x7
    case yu1x7 => (intro w' hSw; (try dsimp only at hSw); go_simp; try (with_reducible rfl))
    simp only [List.setIfInBounds_toArray, List.set_cons_zero, List.set_cons_succ]
    refine take_op (v := ?vu1x8) 8 (Op.binOp BinOp.add 9 (Operand.tmp 25) (Operand.const (Value.string { data := #[45] })) 9) 9 rfl rfl rfl rfl rfl (by kernel_rfl) (by kernel_rfl) (by kernel_rfl) (fun _ _ _ h => h) ?yu1x8 (by assumption) ?ru1x8
    case yu1x8 => (intro w' hSw; (try dsimp only at hSw); go_simp; try (with_reducible rfl))
    simp only [List.setIfInBounds_toArray, List.set_cons_zero, List.set_cons_succ]
    refine wpAnyH_ready (rs := [12]) (by kernel_rfl) (by simp) (AllReadyH.cons rfl (fun K12 hK12 => ?ku1x12) AllReadyH.nil)
    refine take_calls 12 26 [Operand.tmp 29] #[3] rfl rfl (by kernel_rfl) (fun args w => run_enter Tryd.func26 (by kernel_rfl) rfl args w) ?_
    refine (HD2.out _).mono ?_
    rintro e w12 ⟨rfl, hb12⟩
    refine ⟨_, rfl, ?_⟩
    have z12 := hb12.size
    try simp only [World.size_drew] at z12
    replace q3 := Blk.below q3 hb12 (by first | exact Nat.le_refl _ | (simp only [World.size_alloc, World.size_setCell, World.size_drew] at *; omega) | omega)
    replace HR := HR.trans (hb12.mono (by first | exact HR.size | omega))
    have zHR12 := HR.size
    refine hK12.out _ _ ?su1x12 (fun hHeld => ?ru1x12)
    case su1x12 => ((try dsimp only); exact ⟨q3.cell_ 0 rfl, q3.cell_ 1 rfl, q3.cell_ 2 rfl⟩)
    try simp only [List.setIfInBounds_toArray, List.set_cons_zero, List.set_cons_succ]
    refine take_op (v := ?vu1x13) 13 (Op.binOp BinOp.add 9 (Operand.tmp 26) (Operand.tmp 30) 9) 9 rfl rfl rfl rfl rfl (by kernel_rfl) (by kernel_rfl) (by kernel_rfl) (fun _ _ _ h => h) ?yu1x13 (by assumption) ?ru1x13
    case yu1x13 => (intro w' hSw; (try dsimp only at hSw); go_simp; try (with_reducible rfl))
    simp only [List.setIfInBounds_toArray, List.set_cons_zero, List.set_cons_succ]
    refine take_op (v := ?vu1x14) 14 (Op.assign (Operand.tmp 31)) 9 rfl rfl rfl rfl rfl (by kernel_rfl) (by kernel_rfl) (by kernel_rfl) (fun _ _ _ h => h) ?yu1x14 (by assumption) ?ru1x14
    case yu1x14 => (intro w' hSw; (try dsimp only at hSw); go_simp; try (with_reducible rfl))
    simp only [List.setIfInBounds_toArray, List.set_cons_zero, List.set_cons_succ]
    refine wpAnyH_done (by kernel_rfl) ?_ _
    go_wp2_with fail
    go_ret
    refine ⟨?_, HB.trans (HR.mono HB.size)⟩
    show Ending.returned (.string _) = _
    rw [ba_cat2, ba_cat2, ba_cat2, ba_cat2]
    simp
  · go_enter Tryd.func11, Tryd.ntmps11
    have ha0 : ¬ 9223372036854775807 < (kwS 1).length + 1 := by omega
    have ha2 : ¬ 9223372036854775807 < (kwS 1).length + 1 + D1.length := by omega
    have ha3 : ¬ 9223372036854775807 < (kwS 1).length + 1 + D1.length + 1 := by omega
    have ha4 : ¬ 9223372036854775807 < (kwS 1).length + 1 + D1.length + 1 + D2.length := by omega
    go_wp2_with fail
    have q3 := Q.b3
    have HR := Below.refl w1.heap.size w1
    refine wp_region_held_drew (S := (fun w' => w'.cell? ⟨w.heap.size + 1, 0, none⟩ = some (str (kwS 1)) ∧ w'.cell? ⟨w.heap.size + 1, 1, none⟩ = some (.int .i64 lo) ∧ w'.cell? ⟨w.heap.size + 1, 2, none⟩ = some (.int .i64 hi))) (by kernel_rfl) ?_ (fun hHeld => ?_)
    · replace q3 := Blk.drew q3; replace HR := Below.drew HR; (try dsimp only); exact ⟨q3.cell_ 0 rfl, q3.cell_ 1 rfl, q3.cell_ 2 rfl⟩
    replace q3 := Blk.drew q3
    replace HR := Below.drew HR
    have zHR := HR.size
    refine take_op (v := ?vu2x0) 0 (Op.fieldAddr 75 (Operand.tmp 7) 0) 0 rfl rfl rfl rfl rfl (by kernel_rfl) (by kernel_rfl) (by kernel_rfl) (fun _ _ _ h => h) ?yu2x0 (by assumption) ?ru2x0
    case yu2x0 => (intro w' hSw; (try dsimp only at hSw); go_simp; try (with_reducible rfl))
    simp only [List.setIfInBounds_toArray, List.set_cons_zero, List.set_cons_succ]
    refine take_op (v := ?vu2x1) 1 (Op.load 9 (Operand.tmp 18)) 9 rfl rfl rfl rfl rfl (by kernel_rfl) (by kernel_rfl) (by kernel_rfl) (fun _ _ _ h => h) ?yu2x1 (by assumption) ?ru2x1
    case yu2x1 => (intro w' hSw; (try dsimp only at hSw); go_simp; try (with_reducible rfl))
    simp only [List.setIfInBounds_toArray, List.set_cons_zero, List.set_cons_succ]
    refine take_op (v := ?vu2x2) 2 (Op.binOp BinOp.add 9 (Operand.tmp 19) (Operand.const (Value.string { data := #[32] })) 9) 9 rfl rfl rfl rfl rfl (by kernel_rfl) (by kernel_rfl) (by kernel_rfl) (fun _ _ _ h => h) ?yu2x2 (by assumption) ?ru2x2
    case yu2x2 => (intro w' hSw; (try dsimp only at hSw); go_simp; try (with_reducible rfl))
    simp only [List.setIfInBounds_toArray, List.set_cons_zero, List.set_cons_succ]
    refine take_op (v := ?vu2x3) 3 (Op.fieldAddr 75 (Operand.tmp 7) 1) 0 rfl rfl rfl rfl rfl (by kernel_rfl) (by kernel_rfl) (by kernel_rfl) (fun _ _ _ h => h) ?yu2x3 (by assumption) ?ru2x3
    case yu2x3 => (intro w' hSw; (try dsimp only at hSw); go_simp; try (with_reducible rfl))
    simp only [List.setIfInBounds_toArray, List.set_cons_zero, List.set_cons_succ]
    refine take_op (v := ?vu2x4) 4 (Op.fieldAddr 72 (Operand.tmp 21) 0) 0 rfl rfl rfl rfl rfl (by kernel_rfl) (by kernel_rfl) (by kernel_rfl) (fun _ _ _ h => h) ?yu2x4 (by assumption) ?ru2x4
    case yu2x4 => (intro w' hSw; (try dsimp only at hSw); go_simp; try (with_reducible rfl))
    simp only [List.setIfInBounds_toArray, List.set_cons_zero, List.set_cons_succ]
    refine take_op (v := ?vu2x5) 5 (Op.load 3 (Operand.tmp 22)) 3 rfl rfl rfl rfl rfl (by kernel_rfl) (by kernel_rfl) (by kernel_rfl) (fun _ _ _ h => h) ?yu2x5 (by assumption) ?ru2x5
    case yu2x5 => (intro w' hSw; (try dsimp only at hSw); go_simp; try (with_reducible rfl))
    simp only [List.setIfInBounds_toArray, List.set_cons_zero, List.set_cons_succ]
    refine take_op (v := ?vu2x9) 9 (Op.fieldAddr 75 (Operand.tmp 7) 1) 0 rfl rfl rfl rfl rfl (by kernel_rfl) (by kernel_rfl) (by kernel_rfl) (fun _ _ _ h => h) ?yu2x9 (by assumption) ?ru2x9
    case yu2x9 => (intro w' hSw; (try dsimp only at hSw); go_simp; try (with_reducible rfl))
    simp only [List.setIfInBounds_toArray, List.set_cons_zero, List.set_cons_succ]
    refine take_op (v := ?vu2x10) 10 (Op.fieldAddr 72 (Operand.tmp 27) 1) 0 rfl rfl rfl rfl rfl (by kernel_rfl) (by kernel_rfl) (by kernel_rfl) (fun _ _ _ h => h) ?yu2x10 (by assumption) ?ru2x10
    case yu2x10 => (intro w' hSw; (try dsimp only at hSw); go_simp; try (with_reducible rfl))
    simp only [List.setIfInBounds_toArray, List.set_cons_zero, List.set_cons_succ]
    refine take_op (v := ?vu2x11) 11 (Op.load 3 (Operand.tmp 28)) 3 rfl rfl rfl rfl rfl (by kernel_rfl) (by kernel_rfl) (by kernel_rfl) (fun _ _ _ h => h) ?yu2x11 (by assumption) ?ru2x11
    case yu2x11 => (intro w' hSw; (try dsimp only at hSw); go_simp; try (with_reducible rfl))
    simp only [List.setIfInBounds_toArray, List.set_cons_zero, List.set_cons_succ]
    refine wpAnyH_ready (rs := [6]) (by kernel_rfl) (by simp) (AllReadyH.cons rfl (fun K6 hK6 => ?ku2x6) AllReadyH.nil)
    refine take_calls 6 26 [Operand.tmp 23] #[3] rfl rfl (by kernel_rfl) (fun args w => run_enter Tryd.func26 (by kernel_rfl) rfl args w) ?_
    refine (HD1.out _).mono ?_
    rintro e w6 ⟨rfl, hb6⟩
    refine ⟨_, rfl, ?_⟩
    have z6 := hb6.size
    try simp only [World.size_drew] at z6
    replace q3 := Blk.below q3 hb6 (by first | exact Nat.le_refl _ | (simp only [World.size_alloc, World.size_setCell, World.size_drew] at *; omega) | omega)
    replace HR := HR.trans (hb6.mono (by first | exact HR.size | omega))
    have zHR6 := HR.size
    refine hK6.out _ _ ?su2x6 (fun hHeld => ?ru2x6)
    case su2x6 => ((try dsimp only); exact ⟨q3.cell_ 0 rfl, q3.cell_ 1 rfl, q3.cell_ 2 rfl⟩)
    try simp only [List.setIfInBounds_toArray, List.set_cons_zero, List.set_cons_succ]
    refine take_op (v := ?vu2x7) 7 (Op.binOp BinOp.add 9 (Operand.tmp 20) (Operand.tmp 24) 9) 9 rfl rfl rfl rfl rfl (by kernel_rfl) (by kernel_rfl) (by kernel_rfl) (fun _ _ _ h => h) ?yu2x7 (by assumption) ?ru2x7
    case yu2x7 => (intro w' hSw; (try dsimp only at hSw); go_simp; try (with_reducible rfl))
    simp only [List.setIfInBounds_toArray, List.set_cons_zero, List.set_cons_succ]
    refine take_op (v := ?vu2x8) 8 (Op.binOp BinOp.add 9 (Operand.tmp 25) (Operand.const (Value.string { data := #[45] })) 9) 9 rfl rfl rfl rfl rfl (by kernel_rfl) (by kernel_rfl) (by kernel_rfl) (fun _ _ _ h => h) ?yu2x8 (by assumption) ?ru2x8
    case yu2x8 => (intro w' hSw; (try dsimp only at hSw); go_simp; try (with_reducible rfl))
    simp only [List.setIfInBounds_toArray, List.set_cons_zero, List.set_cons_succ]
    refine wpAnyH_ready (rs := [12]) (by kernel_rfl) (by simp) (AllReadyH.cons rfl (fun K12 hK12 => ?ku2x12) AllReadyH.nil)
    refine take_calls 12 26 [Operand.tmp 29] #[3] rfl rfl (by kernel_rfl) (fun args w => run_enter Tryd.func26 (by kernel_rfl) rfl args w) ?_
    refine (HD2.out _).mono ?_
    rintro e w12 ⟨rfl, hb12⟩
    refine ⟨_, rfl, ?_⟩
    have z12 := hb12.size
    try simp only [World.size_drew] at z12
    replace q3 := Blk.below q3 hb12 (by first | exact Nat.le_refl _ | (simp only [World.size_alloc, World.size_setCell, World.size_drew] at *; omega) | omega)
    replace HR := HR.trans (hb12.mono (by first | exact HR.size | omega))
    have zHR12 := HR.size
    refine hK12.out _ _ ?su2x12 (fun hHeld => ?ru2x12)
    case su2x12 => ((try dsimp only); exact ⟨q3.cell_ 0 rfl, q3.cell_ 1 rfl, q3.cell_ 2 rfl⟩)
    try simp only [List.setIfInBounds_toArray, List.set_cons_zero, List.set_cons_succ]
    refine take_op (v := ?vu2x13) 13 (Op.binOp BinOp.add 9 (Operand.tmp 26) (Operand.tmp 30) 9) 9 rfl rfl rfl rfl rfl (by kernel_rfl) (by kernel_rfl) (by kernel_rfl) (fun _ _ _ h => h) ?yu2x13 (by assumption) ?ru2x13
    case yu2x13 => (intro w' hSw; (try dsimp only at hSw); go_simp; try (with_reducible rfl))
    simp only [List.setIfInBounds_toArray, List.set_cons_zero, List.set_cons_succ]
    refine take_op (v := ?vu2x14) 14 (Op.assign (Operand.tmp 31)) 9 rfl rfl rfl rfl rfl (by kernel_rfl) (by kernel_rfl) (by kernel_rfl) (fun _ _ _ h => h) ?yu2x14 (by assumption) ?ru2x14
    case yu2x14 => (intro w' hSw; (try dsimp only at hSw); go_simp; try (with_reducible rfl))
    simp only [List.setIfInBounds_toArray, List.set_cons_zero, List.set_cons_succ]
    refine wpAnyH_done (by kernel_rfl) ?_ _
    go_wp2_with fail
    go_ret
    refine ⟨?_, HB.trans (HR.mono HB.size)⟩
    show Ending.returned (.string _) = _
    rw [ba_cat2, ba_cat2, ba_cat2, ba_cat2]
    simp
  · go_enter Tryd.func11, Tryd.ntmps11
    have ha0 : ¬ 9223372036854775807 < (kwS 2).length + 1 := by omega
    have ha2 : ¬ 9223372036854775807 < (kwS 2).length + 1 + D1.length := by omega
    have ha3 : ¬ 9223372036854775807 < (kwS 2).length + 1 + D1.length + 1 := by omega
    have ha4 : ¬ 9223372036854775807 < (kwS 2).length + 1 + D1.length + 1 + D2.length := by omega
    go_wp2_with fail
    have q3 := Q.b3
    have HR := Below.refl w1.heap.size w1
    refine wp_region_held_drew (S := (fun w' => w'.cell? ⟨w.heap.size + 1, 0, none⟩ = some (str (kwS 2)) ∧ w'.cell? ⟨w.heap.size + 1, 1, none⟩ = some (.int .i64 lo) ∧ w'.cell? ⟨w.heap.size + 1, 2, none⟩ = some (.int .i64 hi))) (by kernel_rfl) ?_ (fun hHeld => ?_)
    · replace q3 := Blk.drew q3; replace HR := Below.drew HR; (try dsimp only); exact ⟨q3.cell_ 0 rfl, q3.cell_ 1 rfl, q3.cell_ 2 rfl⟩
    replace q3 := Blk.drew q3
    replace HR := Below.drew HR
    have zHR := HR.size
    refine take_op (v := ?vu3x0) 0 (Op.fieldAddr 75 (Operand.tmp 7) 0) 0 rfl rfl rfl rfl rfl (by kernel_rfl) (by kernel_rfl) (by kernel_rfl) (fun _ _ _ h => h) ?yu3x0 (by assumption) ?ru3x0
    case yu3x0 => (intro w' hSw; (try dsimp only at hSw); go_simp; try (with_reducible rfl))
    simp only [List.setIfInBounds_toArray, List.set_cons_zero, List.set_cons_succ]
    refine take_op (v := ?vu3x1) 1 (Op.load 9 (Operand.tmp 18)) 9 rfl rfl rfl rfl rfl (by kernel_rfl) (by kernel_rfl) (by kernel_rfl) (fun _ _ _ h => h) ?yu3x1 (by assumption) ?ru3x1
    case yu3x1 => (intro w' hSw; (try dsimp only at hSw); go_simp; try (with_reducible rfl))
    simp only [List.setIfInBounds_toArray, List.set_cons_zero, List.set_cons_succ]
    refine take_op (v := ?vu3x2) 2 (Op.binOp BinOp.add 9 (Operand.tmp 19) (Operand.const (Value.string { data := #[32] })) 9) 9 rfl rfl rfl rfl rfl (by kernel_rfl) (by kernel_rfl) (by kernel_rfl) (fun _ _ _ h => h) ?yu3x2 (by assumption) ?ru3x2
    case yu3x2 => (intro w' hSw; (try dsimp only at hSw); go_simp; try (with_reducible rfl))
    simp only [List.setIfInBounds_toArray, List.set_cons_zero, List.set_cons_succ]
    refine take_op (v := ?vu3x3) 3 (Op.fieldAddr 75 (Operand.tmp 7) 1) 0 rfl rfl rfl rfl rfl (by kernel_rfl) (by kernel_rfl) (by kernel_rfl) (fun _ _ _ h => h) ?yu3x3 (by assumption) ?ru3x3
    case yu3x3 => (intro w' hSw; (try dsimp only at hSw); go_simp; try (with_reducible rfl))
    simp only [List.setIfInBounds_toArray, List.set_cons_zero, List.set_cons_succ]
    refine take_op (v := ?vu3x4) 4 (Op.fieldAddr 72 (Operand.tmp 21) 0) 0 rfl rfl rfl rfl rfl (by kernel_rfl) (by kernel_rfl) (by kernel_rfl) (fun _ _ _ h => h) ?yu3x4 (by assumption) ?ru3x4
    case yu3x4 => (intro w' hSw; (try dsimp only at hSw); go_simp; try (with_reducible rfl))
    simp only [List.setIfInBounds_toArray, List.set_cons_zero, List.set_cons_succ]
    refine take_op (v := ?vu3x5) 5 (Op.load 3 (Operand.tmp 22)) 3 rfl rfl rfl rfl rfl (by kernel_rfl) (by kernel_rfl) (by kernel_rfl) (fun _ _ _ h => h) ?yu3x5 (by assumption) ?ru3x5
    case yu3x5 => (intro w' hSw; (try dsimp only at hSw); go_simp; try (with_reducible rfl))
    simp only [List.setIfInBounds_toArray, List.set_cons_zero, List.set_cons_succ]
    refine take_op (v := ?vu3x9) 9 (Op.fieldAddr 75 (Operand.tmp 7) 1) 0 rfl rfl rfl rfl rfl (by kernel_rfl) (by kernel_rfl) (by kernel_rfl) (fun _ _ _ h => h) ?yu3x9 (by assumption) ?ru3x9
    case yu3x9 => (intro w' hSw; (try dsimp only at hSw); go_simp; try (with_reducible rfl))
    simp only [List.setIfInBounds_toArray, List.set_cons_zero, List.set_cons_succ]
    refine take_op (v := ?vu3x10) 10 (Op.fieldAddr 72 (Operand.tmp 27) 1) 0 rfl rfl rfl rfl rfl (by kernel_rfl) (by kernel_rfl) (by kernel_rfl) (fun _ _ _ h => h) ?yu3x10 (by assumption) ?ru3x10
    case yu3x10 => (intro w' hSw; (try dsimp only at hSw); go_simp; try (with_reducible rfl))
    simp only [List.setIfInBounds_toArray, List.set_cons_zero, List.set_cons_succ]
    refine take_op (v := ?vu3x11) 11 (Op.load 3 (Operand.tmp 28)) 3 rfl rfl rfl rfl rfl (by kernel_rfl) (by kernel_rfl) (by kernel_rfl) (fun _ _ _ h => h) ?yu3x11 (by assumption) ?ru3x11
    case yu3x11 => (intro w' hSw; (try dsimp only at hSw); go_simp; try (with_reducible rfl))
    simp only [List.setIfInBounds_toArray, List.set_cons_zero, List.set_cons_succ]
    refine wpAnyH_ready (rs := [6]) (by kernel_rfl) (by simp) (AllReadyH.cons rfl (fun K6 hK6 => ?ku3x6) AllReadyH.nil)
    refine take_calls 6 26 [Operand.tmp 23] #[3] rfl rfl (by kernel_rfl) (fun args w => run_enter Tryd.func26 (by kernel_rfl) rfl args w) ?_
    refine (HD1.out _).mono ?_
    rintro e w6 ⟨rfl, hb6⟩
    refine ⟨_, rfl, ?_⟩
    have z6 := hb6.size
    try simp only [World.size_drew] at z6
    replace q3 := Blk.below q3 hb6 (by first | exact Nat.le_refl _ | (simp only [World.size_alloc, World.size_setCell, World.size_drew] at *; omega) | omega)
    replace HR := HR.trans (hb6.mono (by first | exact HR.size | omega))
    have zHR6 := HR.size
    refine hK6.out _ _ ?su3x6 (fun hHeld => ?ru3x6)
    case su3x6 => ((try dsimp only); exact ⟨q3.cell_ 0 rfl, q3.cell_ 1 rfl, q3.cell_ 2 rfl⟩)
    try simp only [List.setIfInBounds_toArray, List.set_cons_zero, List.set_cons_succ]
    refine take_op (v := ?vu3x7) 7 (Op.binOp BinOp.add 9 (Operand.tmp 20) (Operand.tmp 24) 9) 9 rfl rfl rfl rfl rfl (by kernel_rfl) (by kernel_rfl) (by kernel_rfl) (fun _ _ _ h => h) ?yu3x7 (by assumption) ?ru3x7
    case yu3x7 => (intro w' hSw; (try dsimp only at hSw); go_simp; try (with_reducible rfl))
    simp only [List.setIfInBounds_toArray, List.set_cons_zero, List.set_cons_succ]
    refine take_op (v := ?vu3x8) 8 (Op.binOp BinOp.add 9 (Operand.tmp 25) (Operand.const (Value.string { data := #[45] })) 9) 9 rfl rfl rfl rfl rfl (by kernel_rfl) (by kernel_rfl) (by kernel_rfl) (fun _ _ _ h => h) ?yu3x8 (by assumption) ?ru3x8
    case yu3x8 => (intro w' hSw; (try dsimp only at hSw); go_simp; try (with_reducible rfl))
    simp only [List.setIfInBounds_toArray, List.set_cons_zero, List.set_cons_succ]
    refine wpAnyH_ready (rs := [12]) (by kernel_rfl) (by simp) (AllReadyH.cons rfl (fun K12 hK12 => ?ku3x12) AllReadyH.nil)
    refine take_calls 12 26 [Operand.tmp 29] #[3] rfl rfl (by kernel_rfl) (fun args w => run_enter Tryd.func26 (by kernel_rfl) rfl args w) ?_
    refine (HD2.out _).mono ?_
    rintro e w12 ⟨rfl, hb12⟩
    refine ⟨_, rfl, ?_⟩
    have z12 := hb12.size
    try simp only [World.size_drew] at z12
    replace q3 := Blk.below q3 hb12 (by first | exact Nat.le_refl _ | (simp only [World.size_alloc, World.size_setCell, World.size_drew] at *; omega) | omega)
    replace HR := HR.trans (hb12.mono (by first | exact HR.size | omega))
    have zHR12 := HR.size
    refine hK12.out _ _ ?su3x12 (fun hHeld => ?ru3x12)
    case su3x12 => ((try dsimp only); exact ⟨q3.cell_ 0 rfl, q3.cell_ 1 rfl, q3.cell_ 2 rfl⟩)
    try simp only [List.setIfInBounds_toArray, List.set_cons_zero, List.set_cons_succ]
    refine take_op (v := ?vu3x13) 13 (Op.binOp BinOp.add 9 (Operand.tmp 26) (Operand.tmp 30) 9) 9 rfl rfl rfl rfl rfl (by kernel_rfl) (by kernel_rfl) (by kernel_rfl) (fun _ _ _ h => h) ?yu3x13 (by assumption) ?ru3x13
    case yu3x13 => (intro w' hSw; (try dsimp only at hSw); go_simp; try (with_reducible rfl))
    simp only [List.setIfInBounds_toArray, List.set_cons_zero, List.set_cons_succ]
    refine take_op (v := ?vu3x14) 14 (Op.assign (Operand.tmp 31)) 9 rfl rfl rfl rfl rfl (by kernel_rfl) (by kernel_rfl) (by kernel_rfl) (fun _ _ _ h => h) ?yu3x14 (by assumption) ?ru3x14
    case yu3x14 => (intro w' hSw; (try dsimp only at hSw); go_simp; try (with_reducible rfl))
    simp only [List.setIfInBounds_toArray, List.set_cons_zero, List.set_cons_succ]
    refine wpAnyH_done (by kernel_rfl) ?_ _
    go_wp2_with fail
    go_ret
    refine ⟨?_, HB.trans (HR.mono HB.size)⟩
    show Ending.returned (.string _) = _
    rw [ba_cat2, ba_cat2, ba_cat2, ba_cat2]
    simp
set_option maxRecDepth 100000 in
set_option maxHeartbeats 8000000 in
theorem rsw_has (u : List UInt8) (hu : u.length ≤ 1000) : RSw (.has u) := by
  intro cl A n c sz dp ps k S w hcl hp hr
  have hr : ps[k]? = some ⟨sHas, 0, 0, u, []⟩ := hr
  obtain ⟨b, o, v, rfl, hS, hb, c0, c1, c2, c3, c4, hof⟩ := hp.at_ hr
  obtain ⟨A3, n3, c3', rfl, hn3, hm3, r3⟩ := hof
  have hln := hp.len
  have hkn : k < n := by have := (List.getElem?_eq_some_iff.1 hr).1; omega
  have hkI : (k : Int) < (n : Int) := by omega
  have hk0 : (0 : Int) ≤ (k : Int) := by omega
  have hne : b ≠ w.heap.size := by omega
  have Q := Shows.new w #[.slice (some ⟨b, o, none⟩) n c, .int .i64 sz, .int .i64 dp] ⟨sHas, 0, 0, u, []⟩ (.slice A3 n3 c3')
  have Qz := Q.hz
  have HB := Q.bel
  have hl1 := WanW.hexL_len u
  obtain ⟨H, hH⟩ : ∃ x, WanW.hexL u = x := ⟨_, rfl⟩
  rw [hH] at hl1
  have HH := Lib.hid (fun w => WanW.refHex_any u w (by omega))
  rw [hH] at HH
  have HSH : Hid (shN cl (.has u) = sHas ++ 32 :: H) := Lib.hid (by rw [shN, hH])
  clear hH hln hp hr
  obtain ⟨w1, hw1⟩ : ∃ w1, (w.alloc (.cells #[.slice (some ⟨b, o, none⟩) n c, .int .i64 sz, .int .i64 dp] 29)).alloc (.cells (pv sHas 0 0 u (.slice A3 n3 c3')) 75) = w1 := ⟨_, rfl⟩
  dsimp only at Q HB Qz
  rw [hw1] at Q HB Qz
  obtain ⟨x0, x1, x2, _⟩ := blk3 Q.b1
  obtain ⟨z0, z1, z2, z3, z4, _⟩ := blk5 Q.b3
  rw [HSH.out]
  go_enter Tryd.func11, Tryd.ntmps11
  go_wp2_with fail
  refine (HH.out _).mono ?_
  rintro e w2 ⟨rfl, hb2⟩
  have ha0 : ¬ 9223372036854775807 < 4 + H.length := by omega
  go_wp2_with fail
  go_ret
  refine ⟨?_, HB.trans (hb2.mono HB.size)⟩
  show Ending.returned (.string _) = _
  rw [ba_cat2]
  simp [sHas]
set_option maxRecDepth 100000 in
set_option maxHeartbeats 8000000 in
theorem rsw_all : RSw .all := by
  intro cl A n c sz dp ps k S w hcl hp hr
  have hr : ps[k]? = some ⟨sAll, 0, 0, [], []⟩ := hr
  obtain ⟨b, o, v, rfl, hS, hb, c0, c1, c2, c3, c4, hof⟩ := hp.at_ hr
  obtain ⟨A3, n3, c3', rfl, hn3, hm3, r3⟩ := hof
  have hln := hp.len
  have hkn : k < n := by have := (List.getElem?_eq_some_iff.1 hr).1; omega
  have hkI : (k : Int) < (n : Int) := by omega
  have hk0 : (0 : Int) ≤ (k : Int) := by omega
  have hne : b ≠ w.heap.size := by omega
  have Q := Shows.new w #[.slice (some ⟨b, o, none⟩) n c, .int .i64 sz, .int .i64 dp] ⟨sAll, 0, 0, [], []⟩ (.slice A3 n3 c3')
  have Qz := Q.hz
  have HB := Q.bel
  clear hln hp hr
  obtain ⟨w1, hw1⟩ : ∃ w1, (w.alloc (.cells #[.slice (some ⟨b, o, none⟩) n c, .int .i64 sz, .int .i64 dp] 29)).alloc (.cells (pv sAll 0 0 [] (.slice A3 n3 c3')) 75) = w1 := ⟨_, rfl⟩
  dsimp only at Q HB Qz
  rw [hw1] at Q HB Qz
  obtain ⟨x0, x1, x2, _⟩ := blk3 Q.b1
  obtain ⟨z0, z1, z2, z3, z4, _⟩ := blk5 Q.b3
  go_enter Tryd.func11, Tryd.ntmps11
  go_wp2_with fail
  go_ret
  exact ⟨rfl, HB⟩
set_option maxRecDepth 100000 in
set_option maxHeartbeats 8000000 in
theorem rsw_not (x : Nd) (ih : RSw x) (hx : (shN 2 x).length ≤ 1000000) : RSw (.not x) := by
  intro cl A n c sz dp ps k S w hcl hp hr
  obtain ⟨j, hr, hj, hrep⟩ := hr
  obtain ⟨b, o, v, rfl, hS, hb, c0, c1, c2, c3, c4, hof⟩ := hp.at_ hr
  obtain ⟨A3, n3, c3', rfl, hn3, hm3, r3⟩ := hof
  have hln := hp.len
  have hkn : k < n := by have := (List.getElem?_eq_some_iff.1 hr).1; omega
  have hkI : (k : Int) < (n : Int) := by omega
  have hk0 : (0 : Int) ≤ (k : Int) := by omega
  have hne : b ≠ w.heap.size := by omega
  have Q := Shows.new w #[.slice (some ⟨b, o, none⟩) n c, .int .i64 sz, .int .i64 dp] ⟨sNot, 0, 0, [], [j]⟩ (.slice A3 n3 c3')
  have Qz := Q.hz
  have HB := Q.bel
  have hn31 : n3 = 1 := by have e : (nats [j]).length = n3 * 1 := r3.1; rw [nats_len] at e; simpa using e.symm
  subst hn31
  obtain ⟨b3, o3, rfl, hS3, hb3, hc3⟩ := r3.2 (by omega)
  have hcj0 : w.cell? ⟨b3, o3 + 0, none⟩ = some (.int .i64 (j : Nat)) := hc3 0 (by simp [nats, ints])
  rw [Nat.add_zero] at hcj0
  have hb3n : b3 ≠ w.heap.size := by omega
  obtain ⟨T, hT⟩ : ∃ T, shN 2 x = T := ⟨_, rfl⟩
  have HSH : Hid (shN cl (.not x) = sNot ++ 32 :: T) := Lib.hid (by rw [shN, hT])
  have HC := Lib.hid (fun w' (hb : Below w.heap.size w w') => ih 2 (some ⟨b, o, none⟩) n c sz dp ps j _ w' (by omega) (hp.below hb) hrep)
  rw [hT] at HC hx
  have hcj := (HB.cell (p := ⟨b3, o3, none⟩) hb3).trans hcj0
  clear hln hp hr hrep hc3 r3 ih hcj0 hT
  obtain ⟨w1, hw1⟩ : ∃ w1, (w.alloc (.cells #[.slice (some ⟨b, o, none⟩) n c, .int .i64 sz, .int .i64 dp] 29)).alloc (.cells (pv sNot 0 0 [] (.slice (some ⟨b3, o3, none⟩) 1 c3')) 75) = w1 := ⟨_, rfl⟩
  dsimp only at Q HB Qz hcj
  rw [hw1] at Q HB Qz hcj
  obtain ⟨x0, x1, x2, _⟩ := blk3 Q.b1
  obtain ⟨z0, z1, z2, z3, z4, _⟩ := blk5 Q.b3
  rw [HSH.out]
  have ha0 : ¬ 9223372036854775807 < 4 + T.length := by omega
  go_enter Tryd.func11, Tryd.ntmps11
  go_wp2_with fail
  have q1 := Q.b1
  have q3 := Q.b3
  have HR := Below.refl w1.heap.size w1
  have hb31 : b3 < w1.heap.size := by omega
  refine wp_region_held_drew (S := (fun w' => w'.cell? ⟨w.heap.size, 0, none⟩ = some (.slice (some ⟨b, o, none⟩) n c) ∧ w'.cell? ⟨w.heap.size, 1, none⟩ = some (.int .i64 sz) ∧ w'.cell? ⟨w.heap.size, 2, none⟩ = some (.int .i64 dp) ∧ w'.cell? ⟨w.heap.size + 1, 4, none⟩ = some (.slice (some ⟨b3, o3, none⟩) 1 c3') ∧ w'.cell? ⟨b3, o3, none⟩ = some (.int .i64 (j : Nat)))) (by kernel_rfl) ?_ (fun hHeld => ?_)
  · replace q1 := Blk.drew q1; replace q3 := Blk.drew q3; replace HR := Below.drew HR; (try dsimp only); exact ⟨q1.cell_ 0 rfl, q1.cell_ 1 rfl, q1.cell_ 2 rfl, q3.cell_ 4 rfl, (HR.cell (p := ⟨b3, o3, none⟩) hb31).trans hcj⟩
  replace q1 := Blk.drew q1
  replace q3 := Blk.drew q3
  replace HR := Below.drew HR
  have zHR := HR.size
  refine take_op (v := ?vu4x0) 0 (Op.load 29 (Operand.tmp 3)) 29 rfl rfl rfl rfl rfl (by kernel_rfl) (by kernel_rfl) (by kernel_rfl) (fun _ _ _ h => h) ?yu4x0 (by assumption) ?ru4x0
  case yu4x0 => (intro w' hSw; (try dsimp only at hSw); go_simp; try (with_reducible rfl))
  simp only [List.setIfInBounds_toArray, List.set_cons_zero, List.set_cons_succ]
  refine take_op (v := ?vu4x1) 1 (Op.fieldAddr 75 (Operand.tmp 7) 3) 0 rfl rfl rfl rfl rfl (by kernel_rfl) (by kernel_rfl) (by kernel_rfl) (fun _ _ _ h => h) ?yu4x1 (by assumption) ?ru4x1
  case yu4x1 => (intro w' hSw; (try dsimp only at hSw); go_simp; try (with_reducible rfl))
  simp only [List.setIfInBounds_toArray, List.set_cons_zero, List.set_cons_succ]
  refine take_op (v := ?vu4x2) 2 (Op.load 73 (Operand.tmp 43)) 73 rfl rfl rfl rfl rfl (by kernel_rfl) (by kernel_rfl) (by kernel_rfl) (fun _ _ _ h => h) ?yu4x2 (by assumption) ?ru4x2
  case yu4x2 => (intro w' hSw; (try dsimp only at hSw); go_simp; try (with_reducible rfl))
  simp only [List.setIfInBounds_toArray, List.set_cons_zero, List.set_cons_succ]
  refine take_op (v := ?vu4x3) 3 (Op.indexAddr 73 (Operand.tmp 44) (Operand.const (Value.int IntKind.i64 0))) 0 rfl rfl rfl rfl rfl (by kernel_rfl) (by kernel_rfl) (by kernel_rfl) (fun _ _ _ h => h) ?yu4x3 (by assumption) ?ru4x3
  case yu4x3 => (intro w' hSw; (try dsimp only at hSw); go_simp; try (with_reducible rfl))
  simp only [List.setIfInBounds_toArray, List.set_cons_zero, List.set_cons_succ]
  refine take_op (v := ?vu4x4) 4 (Op.load 3 (Operand.tmp 45)) 3 rfl rfl rfl rfl rfl (by kernel_rfl) (by kernel_rfl) (by kernel_rfl) (fun _ _ _ h => h) ?yu4x4 (by assumption) ?ru4x4
  case yu4x4 => (intro w' hSw; (try dsimp only at hSw); go_simp; try (with_reducible rfl))
  simp only [List.setIfInBounds_toArray, List.set_cons_zero, List.set_cons_succ]
  refine wpAnyH_ready (rs := [5]) (by kernel_rfl) (by simp) (AllReadyH.cons rfl (fun K5 hK5 => ?ku4x5) AllReadyH.nil)
  refine take_calls 5 11 [Operand.tmp 42, Operand.tmp 46, Operand.const (Value.int IntKind.i64 2)] #[29, 3, 3] rfl rfl (by kernel_rfl) (fun args w => run_enter Tryd.func11 (by kernel_rfl) rfl args w) ?_
  refine (HC.out _ (HB.trans (HR.mono HB.size))).mono ?_
  rintro e w5 ⟨rfl, hb5⟩
  refine ⟨_, rfl, ?_⟩
  have z5 := hb5.size
  try simp only [World.size_drew] at z5
  replace q1 := Blk.below q1 hb5 (by first | exact Nat.le_refl _ | (simp only [World.size_alloc, World.size_setCell, World.size_drew] at *; omega) | omega)
  replace q3 := Blk.below q3 hb5 (by first | exact Nat.le_refl _ | (simp only [World.size_alloc, World.size_setCell, World.size_drew] at *; omega) | omega)
  replace HR := HR.trans (hb5.mono (by first | exact HR.size | omega))
  have zHR5 := HR.size
  refine hK5.out _ _ ?su4x5 (fun hHeld => ?ru4x5)
  case su4x5 => ((try dsimp only); exact ⟨q1.cell_ 0 rfl, q1.cell_ 1 rfl, q1.cell_ 2 rfl, q3.cell_ 4 rfl, (HR.cell (p := ⟨b3, o3, none⟩) hb31).trans hcj⟩)
  try simp only [List.setIfInBounds_toArray, List.set_cons_zero, List.set_cons_succ]
  refine take_op (v := ?vu4x6) 6 (Op.binOp BinOp.add 9 (Operand.const (Value.string { data := #[110, 111, 116, 32] })) (Operand.tmp 47) 9) 9 rfl rfl rfl rfl rfl (by kernel_rfl) (by kernel_rfl) (by kernel_rfl) (fun _ _ _ h => h) ?yu4x6 (by assumption) ?ru4x6
  case yu4x6 => (intro w' hSw; (try dsimp only at hSw); go_simp; try (with_reducible rfl))
  simp only [List.setIfInBounds_toArray, List.set_cons_zero, List.set_cons_succ]
  refine take_op (v := ?vu4x7) 7 (Op.assign (Operand.tmp 48)) 9 rfl rfl rfl rfl rfl (by kernel_rfl) (by kernel_rfl) (by kernel_rfl) (fun _ _ _ h => h) ?yu4x7 (by assumption) ?ru4x7
  case yu4x7 => (intro w' hSw; (try dsimp only at hSw); go_simp; try (with_reducible rfl))
  simp only [List.setIfInBounds_toArray, List.set_cons_zero, List.set_cons_succ]
  refine wpAnyH_done (by kernel_rfl) ?_ _
  go_wp2_with fail
  go_ret
  refine ⟨?_, HB.trans (HR.mono HB.size)⟩
  show Ending.returned (.string _) = _
  rw [ba_cat2]
  simp [sNot]
set_option maxRecDepth 100000 in
set_option maxHeartbeats 8000000 in
theorem rsw_row (oo : Bool) (l : List Nd) (hl : 2 ≤ l.length) (hl2 : l.length ≤ 1000) (hx : (Lib.join (l.map (shN (ownS oo))) (sepW oo)).length ≤ 1000000) (hsh : ∀ cl, shN cl (.row oo l) = if ownS oo < cl then 40 :: (Lib.join (l.map (shN (ownS oo))) (sepW oo) ++ [41]) else Lib.join (l.map (shN (ownS oo))) (sepW oo))
    (ih : ∀ i (h : i < l.length), RSw l[i]) : RSw (.row oo l) := by
  intro cl A n c sz dp ps k S w hcl hp hr
  obtain ⟨js, hr, hj, hreps⟩ := hr
  obtain ⟨b, o, v, rfl, hS, hb, c0, c1, c2, c3, c4, hof⟩ := hp.at_ hr
  obtain ⟨A3, n3, c3', rfl, hn3, hm3, r3⟩ := hof
  have hln := hp.len
  have hkn : k < n := by have := (List.getElem?_eq_some_iff.1 hr).1; omega
  have hkI : (k : Int) < (n : Int) := by omega
  have hk0 : (0 : Int) ≤ (k : Int) := by omega
  have hne : b ≠ w.heap.size := by omega
  have Q := Shows.new w #[.slice (some ⟨b, o, none⟩) n c, .int .i64 sz, .int .i64 dp] ⟨byW oo, 0, 0, [], js⟩ (.slice A3 n3 c3')
  have Qz := Q.hz
  have HB := Q.bel
  have hjl := hreps.len
  have hn31 : n3 = l.length := by have e : (nats js).length = n3 * 1 := r3.1; rw [nats_len] at e; omega
  obtain ⟨b3, o3, rfl, hS3, hb3, hc3⟩ := r3.2 (by omega)
  have hcj0 : ∀ i (h : i < js.length), w.cell? ⟨b3, o3 + i, none⟩ = some (.int .i64 (js[i] : Nat)) := fun i h => by
    have h2 : i < (nats js).length := by rw [nats_len]; exact h
    have e := nats_at js i h
    rw [List.getElem?_eq_getElem h2] at e
    rw [hc3 i h2]; exact e
  have hb3n : b3 ≠ w.heap.size := by omega
  obtain ⟨ts, hts⟩ : ∃ ts, l.map (shN (ownS oo)) = ts := ⟨_, rfl⟩
  have htl : ts.length = l.length := by rw [← hts]; simp
  have hti : ∀ i (h : i < l.length), ts[i]?.getD [] = shN (ownS oo) l[i] := fun i h => by rw [← hts]; simp [h]
  rw [hts] at hx
  have hjn : jn (sepW oo) ts l.length = Lib.join ts (sepW oo) := by rw [← htl, jn_join _ _ _ (Nat.le_refl _), List.take_length]
  have HSH := Lib.hid (hsh cl)
  rw [hts, ← hjn] at HSH
  rw [← hjn] at hx
  have HLE : Hid (∀ i, i ≤ l.length → (jn (sepW oo) ts i).length ≤ 1000000) := Lib.hid (fun i hi => by
    have := jn_le (sepW oo) ts i (l.length - i)
    rw [show i + (l.length - i) = l.length by omega] at this
    omega)
  have HC : Hid (∀ i (h : i < l.length) (h2 : i < js.length) w' (hb : Below w.heap.size w w'), Calls Tryd.prog 11 #[.agg #[.slice (some ⟨b, o, none⟩) n c, .int .i64 sz, .int .i64 dp], .int .i64 (js[i] : Nat), .int .i64 (ownS oo : Nat)] w' fun e w'' => e = .returned (str (ts[i]?.getD [])) ∧ Below w'.heap.size w' w'') := Lib.hid (fun i h h2 w' hb => by
    rw [hti i h]
    exact ih i h (ownS oo) (some ⟨b, o, none⟩) n c sz dp ps js[i] _ w' (by cases oo <;> decide) (hp.below hb) (hreps.at_ i h h2))
  have HCJ := Lib.hid hcj0
  have HJL := Lib.hid hjl
  have hn3a : n3 ≤ l.length := by omega
  have hn3b : l.length ≤ n3 := by omega
  clear hln hp hr hreps hc3 r3 ih hcj0 hj hjl hn31 hts htl hti hjn hsh hx
  obtain ⟨w1, hw1⟩ : ∃ w1, (w.alloc (.cells #[.slice (some ⟨b, o, none⟩) n c, .int .i64 sz, .int .i64 dp] 29)).alloc (.cells (pv (byW oo) 0 0 [] (.slice (some ⟨b3, o3, none⟩) n3 c3')) 75) = w1 := ⟨_, rfl⟩
  dsimp only at Q HB Qz
  rw [hw1] at Q HB Qz
  obtain ⟨x0, x1, x2, _⟩ := blk3 Q.b1
  obtain ⟨z0, z1, z2, z3, z4, _⟩ := blk5 Q.b3
  obtain ⟨RR, hRR⟩ : ∃ RR, shN cl (.row oo l) = RR := ⟨_, rfl⟩
  rw [hRR] at HSH ⊢
  clear hRR
  cases oo
  · have kw0 : (byW false == [104, 97, 115]) = false := by decide
    have kw1 : (byW false == [97, 108, 108]) = false := by decide
    have kw2 : (byW false == [110, 111, 116]) = false := by decide
    have how : ownS false = 1 := rfl
    rw [how] at HC HSH
    have hbl : (byW false).length ≤ 3 := by decide
    go_enter Tryd.func11, Tryd.ntmps11
    go_wp2_with fail
    clear x0 x1 x2 z0 z1 z2 z3 z4
    go_loopw [9, 10] (fun ov iv wr => ∃ i : Nat, i ≤ l.length ∧ iv = .int .i64 (i : Nat) ∧ ov = str (jn (sepW false) ts i) ∧ Shows w wr w.heap.size #[.slice (some ⟨b, o, none⟩) n c, .int .i64 sz, .int .i64 dp] ⟨byW false, 0, 0, [], js⟩ (.slice (some ⟨b3, o3, none⟩) n3 c3')) (fun _ iv _ => l.length - (intOf iv).toNat)
    case atStart => exact ⟨0, by omega, rfl, rfl, Q⟩
    case round =>
      obtain ⟨i, hi, rfl, rfl, Q1⟩ := hrel
      obtain ⟨x0, x1, x2, _⟩ := blk3 Q1.b1
      obtain ⟨z0, z1, z2, z3, z4, _⟩ := blk5 Q1.b3
      have hB1 := Q1.bel
      have hQz := Q1.hz
      have hJl := HLE.out i hi
      by_cases hlt : i < l.length
      · have hiI : (i : Int) < (n3 : Int) := by omega
        have hi0 : (0 : Int) ≤ (i : Int) := by omega
        have hi1 : IntKind.i64.wrap ((i : Int) + 1) = (i : Int) + 1 := w64k (by omega) (by omega)
        have hij : i < js.length := by have := HJL.out; omega
        have hJl1 := HLE.out (i + 1) (by omega)
        have HJ1 : Hid (jn (sepW false) ts (i + 1) = (if i = 0 then [] else jn (sepW false) ts i ++ sepW false) ++ ts[i]?.getD []) := Lib.hid (by rw [jn])
        have HCI : Hid (∀ w', Below w.heap.size w w' → _) := Lib.hid (fun w' hb => HC.out i hlt hij w' hb)
        have hcj1 := (hB1.cell (p := ⟨b3, o3 + i, none⟩) hb3).trans (HCJ.out i hij)
        obtain ⟨jj, hjj⟩ : ∃ jj, js[i] = jj := ⟨_, rfl⟩
        obtain ⟨Ti, hTi⟩ : ∃ Ti, ts[i]?.getD [] = Ti := ⟨_, rfl⟩
        rw [hjj] at hcj1 HCI
        rw [hTi] at HCI HJ1
        obtain ⟨J, hJ⟩ : ∃ J, jn (sepW false) ts i = J := ⟨_, rfl⟩
        obtain ⟨J1, hJ1⟩ : ∃ J1, jn (sepW false) ts (i + 1) = J1 := ⟨_, rfl⟩
        rw [hJ] at HJ1 hJl
        rw [hJ1] at HJ1 hJl1
        have HJ := Lib.hid hJ
        have HJ1' := Lib.hid hJ1
        rw [HJ.out]
        have q1 := Q1.b1
        have q3 := Q1.b3
        have HR := Below.refl wr.heap.size wr
        have hb31 : b3 < wr.heap.size := by omega
        clear hjj hTi hJ hJ1
        by_cases hi00 : i = 0
        · have hig : ¬ (0 : Int) < (i : Int) := by omega
          have hJ0 : J = [] := by rw [← HJ.out, hi00]; rfl
          have hJT : J1 = J ++ Ti := by rw [HJ1.out, if_pos hi00, hJ0]
          have HJT := Lib.hid hJT
          have ha1 : ¬ 9223372036854775807 < J.length + Ti.length := by have := congrArg List.length hJT; rw [List.length_append] at this; omega
          clear hJT hJ0 hi00
          go_wp2_with fail
          refine wp_region_held_drew (S := (fun w' => w'.cell? ⟨w.heap.size, 0, none⟩ = some (.slice (some ⟨b, o, none⟩) n c) ∧ w'.cell? ⟨w.heap.size, 1, none⟩ = some (.int .i64 sz) ∧ w'.cell? ⟨w.heap.size, 2, none⟩ = some (.int .i64 dp) ∧ w'.cell? ⟨w.heap.size + 1, 4, none⟩ = some (.slice (some ⟨b3, o3, none⟩) n3 c3') ∧ w'.cell? ⟨b3, o3 + i, none⟩ = some (.int .i64 (jj : Nat)))) (by kernel_rfl) ?_ (fun hHeld => ?_)
          · replace q1 := Blk.drew q1; replace q3 := Blk.drew q3; replace HR := Below.drew HR; (try dsimp only); exact ⟨q1.cell_ 0 rfl, q1.cell_ 1 rfl, q1.cell_ 2 rfl, q3.cell_ 4 rfl, (HR.cell (p := ⟨b3, o3 + i, none⟩) hb31).trans hcj1⟩
          replace q1 := Blk.drew q1
          replace q3 := Blk.drew q3
          replace HR := Below.drew HR
          have zHR := HR.size
          refine take_movev (v := ?vu5x0) 0 (Operand.tmp 9) rfl rfl (by first | exact .inl rfl | exact .inr rfl) rfl (by kernel_rfl) (by kernel_rfl) (by kernel_rfl) (fun _ _ _ h => h) (by assumption) ?yu5x0 ?ru5x0
          case yu5x0 => (go_simp; try (with_reducible rfl))
          simp only [List.setIfInBounds_toArray, List.set_cons_zero, List.set_cons_succ]
          refine take_op (v := ?vu5x1) 1 (Op.load 29 (Operand.tmp 3)) 29 rfl rfl rfl rfl rfl (by kernel_rfl) (by kernel_rfl) (by kernel_rfl) (fun _ _ _ h => h) ?yu5x1 (by assumption) ?ru5x1
          case yu5x1 => (intro w' hSw; (try dsimp only at hSw); go_simp; try (with_reducible rfl))
          simp only [List.setIfInBounds_toArray, List.set_cons_zero, List.set_cons_succ]
          refine take_op (v := ?vu5x2) 2 (Op.fieldAddr 75 (Operand.tmp 7) 3) 0 rfl rfl rfl rfl rfl (by kernel_rfl) (by kernel_rfl) (by kernel_rfl) (fun _ _ _ h => h) ?yu5x2 (by assumption) ?ru5x2
          case yu5x2 => (intro w' hSw; (try dsimp only at hSw); go_simp; try (with_reducible rfl))
          simp only [List.setIfInBounds_toArray, List.set_cons_zero, List.set_cons_succ]
          refine take_op (v := ?vu5x3) 3 (Op.load 73 (Operand.tmp 72)) 73 rfl rfl rfl rfl rfl (by kernel_rfl) (by kernel_rfl) (by kernel_rfl) (fun _ _ _ h => h) ?yu5x3 (by assumption) ?ru5x3
          case yu5x3 => (intro w' hSw; (try dsimp only at hSw); go_simp; try (with_reducible rfl))
          simp only [List.setIfInBounds_toArray, List.set_cons_zero, List.set_cons_succ]
          refine take_movev (v := ?vu5x4) 4 (Operand.tmp 10) rfl rfl (by first | exact .inl rfl | exact .inr rfl) rfl (by kernel_rfl) (by kernel_rfl) (by kernel_rfl) (fun _ _ _ h => h) (by assumption) ?yu5x4 ?ru5x4
          case yu5x4 => (go_simp; try (with_reducible rfl))
          simp only [List.setIfInBounds_toArray, List.set_cons_zero, List.set_cons_succ]
          refine take_op (v := ?vu5x5) 5 (Op.indexAddr 73 (Operand.tmp 73) (Operand.tmp 74)) 0 rfl rfl rfl rfl rfl (by kernel_rfl) (by kernel_rfl) (by kernel_rfl) (fun _ _ _ h => h) ?yu5x5 (by assumption) ?ru5x5
          case yu5x5 => (intro w' hSw; (try dsimp only at hSw); go_simp; try (with_reducible rfl))
          simp only [List.setIfInBounds_toArray, List.set_cons_zero, List.set_cons_succ]
          refine take_op (v := ?vu5x6) 6 (Op.load 3 (Operand.tmp 75)) 3 rfl rfl rfl rfl rfl (by kernel_rfl) (by kernel_rfl) (by kernel_rfl) (fun _ _ _ h => h) ?yu5x6 (by assumption) ?ru5x6
          case yu5x6 => (intro w' hSw; (try dsimp only at hSw); go_simp; try (with_reducible rfl))
          simp only [List.setIfInBounds_toArray, List.set_cons_zero, List.set_cons_succ]
          refine take_movev (v := ?vu5x7) 7 (Operand.tmp 8) rfl rfl (by first | exact .inl rfl | exact .inr rfl) rfl (by kernel_rfl) (by kernel_rfl) (by kernel_rfl) (fun _ _ _ h => h) (by assumption) ?yu5x7 ?ru5x7
          case yu5x7 => (go_simp; try (with_reducible rfl))
          simp only [List.setIfInBounds_toArray, List.set_cons_zero, List.set_cons_succ]
          refine wpAnyH_ready (rs := [8]) (by kernel_rfl) (by simp) (AllReadyH.cons rfl (fun K8 hK8 => ?ku5x8) AllReadyH.nil)
          refine take_calls 8 11 [Operand.tmp 71, Operand.tmp 76, Operand.tmp 77] #[29, 3, 3] rfl rfl (by kernel_rfl) (fun args w => run_enter Tryd.func11 (by kernel_rfl) rfl args w) ?_
          refine (HCI.out _ (hB1.trans (HR.mono hB1.size))).mono ?_
          rintro e w8 ⟨rfl, hb8⟩
          refine ⟨_, rfl, ?_⟩
          have z8 := hb8.size
          try simp only [World.size_drew] at z8
          replace q1 := Blk.below q1 hb8 (by first | exact Nat.le_refl _ | (simp only [World.size_alloc, World.size_setCell, World.size_drew] at *; omega) | omega)
          replace q3 := Blk.below q3 hb8 (by first | exact Nat.le_refl _ | (simp only [World.size_alloc, World.size_setCell, World.size_drew] at *; omega) | omega)
          replace HR := HR.trans (hb8.mono (by first | exact HR.size | omega))
          have zHR8 := HR.size
          refine hK8.out _ _ ?su5x8 (fun hHeld => ?ru5x8)
          case su5x8 => ((try dsimp only); exact ⟨q1.cell_ 0 rfl, q1.cell_ 1 rfl, q1.cell_ 2 rfl, q3.cell_ 4 rfl, (HR.cell (p := ⟨b3, o3 + i, none⟩) hb31).trans hcj1⟩)
          try simp only [List.setIfInBounds_toArray, List.set_cons_zero, List.set_cons_succ]
          refine take_op (v := ?vu5x9) 9 (Op.binOp BinOp.add 9 (Operand.tmp 70) (Operand.tmp 78) 9) 9 rfl rfl rfl rfl rfl (by kernel_rfl) (by kernel_rfl) (by kernel_rfl) (fun _ _ _ h => h) ?yu5x9 (by assumption) ?ru5x9
          case yu5x9 => (intro w' hSw; (try dsimp only at hSw); go_simp; try (with_reducible rfl))
          simp only [List.setIfInBounds_toArray, List.set_cons_zero, List.set_cons_succ]
          refine take_op (v := ?vu5x10) 10 (Op.assign (Operand.tmp 79)) 9 rfl rfl rfl rfl rfl (by kernel_rfl) (by kernel_rfl) (by kernel_rfl) (fun _ _ _ h => h) ?yu5x10 (by assumption) ?ru5x10
          case yu5x10 => (intro w' hSw; (try dsimp only at hSw); go_simp; try (with_reducible rfl))
          simp only [List.setIfInBounds_toArray, List.set_cons_zero, List.set_cons_succ]
          refine wpAnyH_done (by kernel_rfl) ?_ _
          have Q2 := Q1.below HR
          have hcat : (⟨J.toArray⟩ : ByteArray) ++ ⟨Ti.toArray⟩ = ⟨J1.toArray⟩ := by rw [ba_cat2, HJT.out]; simp
          go_wp2_with fail
          go_roundw
          case rel => exact ⟨i + 1, by omega, by go_num, by rw [HJ1'.out]; first | rfl | (show Value.string _ = _; rw [hcat]), Q2⟩
          case measure => simp [intOf]; omega
        · have hig : (0 : Int) < (i : Int) := by omega
          have hJT : J1 = J ++ sepW false ++ Ti := by rw [HJ1.out, if_neg hi00]
          have hlen1 := congrArg List.length hJT
          simp only [List.length_append] at hlen1
          obtain ⟨V1, hV1⟩ : ∃ V, J ++ [32] = V := ⟨_, rfl⟩
          have hl1 : V1.length = J.length + 1 := by rw [← hV1]; simp
          obtain ⟨V2, hV2⟩ : ∃ V, V1 ++ byW false = V := ⟨_, rfl⟩
          have hl2' : V2.length = V1.length + (byW false).length := by rw [← hV2]; simp
          obtain ⟨V3, hV3⟩ : ∃ V, V2 ++ [32] = V := ⟨_, rfl⟩
          have hl3 : V3.length = V2.length + 1 := by rw [← hV3]; simp
          have hJT2 : J1 = V3 ++ Ti := by rw [hJT, ← hV3, ← hV2, ← hV1]; simp [sepW]
          have t1 : (⟨J.toArray⟩ : ByteArray) ++ ⟨#[32]⟩ = ⟨V1.toArray⟩ := by rw [ba_cat2, ← hV1]; simp
          have t2 : (⟨V1.toArray⟩ : ByteArray) ++ ⟨(byW false).toArray⟩ = ⟨V2.toArray⟩ := by rw [ba_cat2, ← hV2]; simp
          have t3 : (⟨V2.toArray⟩ : ByteArray) ++ ⟨#[32]⟩ = ⟨V3.toArray⟩ := by rw [ba_cat2, ← hV3]; simp
          have t4 : (⟨V3.toArray⟩ : ByteArray) ++ ⟨Ti.toArray⟩ = ⟨J1.toArray⟩ := by rw [ba_cat2, hJT2]; simp
          have a1 : ¬ 9223372036854775807 < J.length + 1 := by omega
          have a2 : ¬ 9223372036854775807 < V1.length + (byW false).length := by omega
          have a3 : ¬ 9223372036854775807 < V2.length + 1 := by omega
          have a4 : ¬ 9223372036854775807 < V3.length + Ti.length := by have := congrArg List.length hJT2; rw [List.length_append] at this; omega
          clear hJT hJT2 hlen1 hV1 hV2 hV3 hl1 hl2' hl3 hi00
          go_wp2_with fail
          refine wp_region_held_drew (S := (fun w' => w'.cell? ⟨w.heap.size, 0, none⟩ = some (.slice (some ⟨b, o, none⟩) n c) ∧ w'.cell? ⟨w.heap.size, 1, none⟩ = some (.int .i64 sz) ∧ w'.cell? ⟨w.heap.size, 2, none⟩ = some (.int .i64 dp) ∧ w'.cell? ⟨w.heap.size + 1, 4, none⟩ = some (.slice (some ⟨b3, o3, none⟩) n3 c3') ∧ w'.cell? ⟨b3, o3 + i, none⟩ = some (.int .i64 (jj : Nat)))) (by kernel_rfl) ?_ (fun hHeld => ?_)
          · replace q1 := Blk.drew q1; replace q3 := Blk.drew q3; replace HR := Below.drew HR; (try dsimp only); exact ⟨q1.cell_ 0 rfl, q1.cell_ 1 rfl, q1.cell_ 2 rfl, q3.cell_ 4 rfl, (HR.cell (p := ⟨b3, o3 + i, none⟩) hb31).trans hcj1⟩
          replace q1 := Blk.drew q1
          replace q3 := Blk.drew q3
          replace HR := Below.drew HR
          have zHR := HR.size
          refine take_movev (v := ?vu6x0) 0 (Operand.tmp 9) rfl rfl (by first | exact .inl rfl | exact .inr rfl) rfl (by kernel_rfl) (by kernel_rfl) (by kernel_rfl) (fun _ _ _ h => h) (by assumption) ?yu6x0 ?ru6x0
          case yu6x0 => (go_simp; try (with_reducible rfl))
          simp only [List.setIfInBounds_toArray, List.set_cons_zero, List.set_cons_succ]
          refine take_op (v := ?vu6x1) 1 (Op.load 29 (Operand.tmp 3)) 29 rfl rfl rfl rfl rfl (by kernel_rfl) (by kernel_rfl) (by kernel_rfl) (fun _ _ _ h => h) ?yu6x1 (by assumption) ?ru6x1
          case yu6x1 => (intro w' hSw; (try dsimp only at hSw); go_simp; try (with_reducible rfl))
          simp only [List.setIfInBounds_toArray, List.set_cons_zero, List.set_cons_succ]
          refine take_op (v := ?vu6x2) 2 (Op.fieldAddr 75 (Operand.tmp 7) 3) 0 rfl rfl rfl rfl rfl (by kernel_rfl) (by kernel_rfl) (by kernel_rfl) (fun _ _ _ h => h) ?yu6x2 (by assumption) ?ru6x2
          case yu6x2 => (intro w' hSw; (try dsimp only at hSw); go_simp; try (with_reducible rfl))
          simp only [List.setIfInBounds_toArray, List.set_cons_zero, List.set_cons_succ]
          refine take_op (v := ?vu6x3) 3 (Op.load 73 (Operand.tmp 72)) 73 rfl rfl rfl rfl rfl (by kernel_rfl) (by kernel_rfl) (by kernel_rfl) (fun _ _ _ h => h) ?yu6x3 (by assumption) ?ru6x3
          case yu6x3 => (intro w' hSw; (try dsimp only at hSw); go_simp; try (with_reducible rfl))
          simp only [List.setIfInBounds_toArray, List.set_cons_zero, List.set_cons_succ]
          refine take_movev (v := ?vu6x4) 4 (Operand.tmp 10) rfl rfl (by first | exact .inl rfl | exact .inr rfl) rfl (by kernel_rfl) (by kernel_rfl) (by kernel_rfl) (fun _ _ _ h => h) (by assumption) ?yu6x4 ?ru6x4
          case yu6x4 => (go_simp; try (with_reducible rfl))
          simp only [List.setIfInBounds_toArray, List.set_cons_zero, List.set_cons_succ]
          refine take_op (v := ?vu6x5) 5 (Op.indexAddr 73 (Operand.tmp 73) (Operand.tmp 74)) 0 rfl rfl rfl rfl rfl (by kernel_rfl) (by kernel_rfl) (by kernel_rfl) (fun _ _ _ h => h) ?yu6x5 (by assumption) ?ru6x5
          case yu6x5 => (intro w' hSw; (try dsimp only at hSw); go_simp; try (with_reducible rfl))
          simp only [List.setIfInBounds_toArray, List.set_cons_zero, List.set_cons_succ]
          refine take_op (v := ?vu6x6) 6 (Op.load 3 (Operand.tmp 75)) 3 rfl rfl rfl rfl rfl (by kernel_rfl) (by kernel_rfl) (by kernel_rfl) (fun _ _ _ h => h) ?yu6x6 (by assumption) ?ru6x6
          case yu6x6 => (intro w' hSw; (try dsimp only at hSw); go_simp; try (with_reducible rfl))
          simp only [List.setIfInBounds_toArray, List.set_cons_zero, List.set_cons_succ]
          refine take_movev (v := ?vu6x7) 7 (Operand.tmp 8) rfl rfl (by first | exact .inl rfl | exact .inr rfl) rfl (by kernel_rfl) (by kernel_rfl) (by kernel_rfl) (fun _ _ _ h => h) (by assumption) ?yu6x7 ?ru6x7
          case yu6x7 => (go_simp; try (with_reducible rfl))
          simp only [List.setIfInBounds_toArray, List.set_cons_zero, List.set_cons_succ]
          refine wpAnyH_ready (rs := [8]) (by kernel_rfl) (by simp) (AllReadyH.cons rfl (fun K8 hK8 => ?ku6x8) AllReadyH.nil)
          refine take_calls 8 11 [Operand.tmp 71, Operand.tmp 76, Operand.tmp 77] #[29, 3, 3] rfl rfl (by kernel_rfl) (fun args w => run_enter Tryd.func11 (by kernel_rfl) rfl args w) ?_
          refine (HCI.out _ (hB1.trans (HR.mono hB1.size))).mono ?_
          rintro e w8 ⟨rfl, hb8⟩
          refine ⟨_, rfl, ?_⟩
          have z8 := hb8.size
          try simp only [World.size_drew] at z8
          replace q1 := Blk.below q1 hb8 (by first | exact Nat.le_refl _ | (simp only [World.size_alloc, World.size_setCell, World.size_drew] at *; omega) | omega)
          replace q3 := Blk.below q3 hb8 (by first | exact Nat.le_refl _ | (simp only [World.size_alloc, World.size_setCell, World.size_drew] at *; omega) | omega)
          replace HR := HR.trans (hb8.mono (by first | exact HR.size | omega))
          have zHR8 := HR.size
          refine hK8.out _ _ ?su6x8 (fun hHeld => ?ru6x8)
          case su6x8 => ((try dsimp only); exact ⟨q1.cell_ 0 rfl, q1.cell_ 1 rfl, q1.cell_ 2 rfl, q3.cell_ 4 rfl, (HR.cell (p := ⟨b3, o3 + i, none⟩) hb31).trans hcj1⟩)
          try simp only [List.setIfInBounds_toArray, List.set_cons_zero, List.set_cons_succ]
          refine take_op (v := ?vu6x9) 9 (Op.binOp BinOp.add 9 (Operand.tmp 70) (Operand.tmp 78) 9) 9 rfl rfl rfl rfl rfl (by kernel_rfl) (by kernel_rfl) (by kernel_rfl) (fun _ _ _ h => h) ?yu6x9 (by assumption) ?ru6x9
          case yu6x9 => (intro w' hSw; (try dsimp only at hSw); go_simp; try (with_reducible rfl))
          simp only [List.setIfInBounds_toArray, List.set_cons_zero, List.set_cons_succ]
          refine take_op (v := ?vu6x10) 10 (Op.assign (Operand.tmp 79)) 9 rfl rfl rfl rfl rfl (by kernel_rfl) (by kernel_rfl) (by kernel_rfl) (fun _ _ _ h => h) ?yu6x10 (by assumption) ?ru6x10
          case yu6x10 => (intro w' hSw; (try dsimp only at hSw); go_simp; try (with_reducible rfl))
          simp only [List.setIfInBounds_toArray, List.set_cons_zero, List.set_cons_succ]
          refine wpAnyH_done (by kernel_rfl) ?_ _
          have Q2 := Q1.below HR
          go_wp2_with fail
          go_roundw
          case rel => exact ⟨i + 1, by omega, by go_num, by rw [HJ1'.out], Q2⟩
          case measure => simp [intOf]; omega
      · have hiI : ¬ (i : Int) < (n3 : Int) := by omega
        have hie : i = l.length := by omega
        rw [hie] at hJl ⊢
        obtain ⟨T, hT⟩ : ∃ T, jn (sepW false) ts l.length = T := ⟨_, rfl⟩
        rw [hT] at hJl HSH ⊢
        have ha3 : ¬ 9223372036854775807 < 1 + T.length := by omega
        have ha4 : ¬ 9223372036854775807 < 1 + T.length + 1 := by omega
        have HIE := Lib.hid hie
        clear hie hT hlt
        by_cases hc1 : 1 < cl
        · have hcI : (1 : Int) < (cl : Int) := by omega
          have hRR := HSH.out
          rw [if_pos hc1] at hRR
          have HRR := Lib.hid hRR
          clear hc1 hRR
          go_wp2_with fail
          go_ret
          refine ⟨?_, hB1⟩
          show Ending.returned (.string _) = _
          rw [ba_cat2, ba_cat2, HRR.out]
          simp
        · have hcI : ¬ (1 : Int) < (cl : Int) := by omega
          have hRR := HSH.out
          rw [if_neg hc1] at hRR
          have HRR := Lib.hid hRR
          clear hc1 hRR
          go_wp2_with fail
          go_ret
          rw [HRR.out]
          exact ⟨rfl, hB1⟩
  · have kw0 : (byW true == [104, 97, 115]) = false := by decide
    have kw1 : (byW true == [97, 108, 108]) = false := by decide
    have kw2 : (byW true == [110, 111, 116]) = false := by decide
    have how : ownS true = 0 := rfl
    rw [how] at HC HSH
    have hbl : (byW true).length ≤ 3 := by decide
    go_enter Tryd.func11, Tryd.ntmps11
    go_wp2_with fail
    clear x0 x1 x2 z0 z1 z2 z3 z4
    go_loopw [9, 10] (fun ov iv wr => ∃ i : Nat, i ≤ l.length ∧ iv = .int .i64 (i : Nat) ∧ ov = str (jn (sepW true) ts i) ∧ Shows w wr w.heap.size #[.slice (some ⟨b, o, none⟩) n c, .int .i64 sz, .int .i64 dp] ⟨byW true, 0, 0, [], js⟩ (.slice (some ⟨b3, o3, none⟩) n3 c3')) (fun _ iv _ => l.length - (intOf iv).toNat)
    case atStart => exact ⟨0, by omega, rfl, rfl, Q⟩
    case round =>
      obtain ⟨i, hi, rfl, rfl, Q1⟩ := hrel
      obtain ⟨x0, x1, x2, _⟩ := blk3 Q1.b1
      obtain ⟨z0, z1, z2, z3, z4, _⟩ := blk5 Q1.b3
      have hB1 := Q1.bel
      have hQz := Q1.hz
      have hJl := HLE.out i hi
      by_cases hlt : i < l.length
      · have hiI : (i : Int) < (n3 : Int) := by omega
        have hi0 : (0 : Int) ≤ (i : Int) := by omega
        have hi1 : IntKind.i64.wrap ((i : Int) + 1) = (i : Int) + 1 := w64k (by omega) (by omega)
        have hij : i < js.length := by have := HJL.out; omega
        have hJl1 := HLE.out (i + 1) (by omega)
        have HJ1 : Hid (jn (sepW true) ts (i + 1) = (if i = 0 then [] else jn (sepW true) ts i ++ sepW true) ++ ts[i]?.getD []) := Lib.hid (by rw [jn])
        have HCI : Hid (∀ w', Below w.heap.size w w' → _) := Lib.hid (fun w' hb => HC.out i hlt hij w' hb)
        have hcj1 := (hB1.cell (p := ⟨b3, o3 + i, none⟩) hb3).trans (HCJ.out i hij)
        obtain ⟨jj, hjj⟩ : ∃ jj, js[i] = jj := ⟨_, rfl⟩
        obtain ⟨Ti, hTi⟩ : ∃ Ti, ts[i]?.getD [] = Ti := ⟨_, rfl⟩
        rw [hjj] at hcj1 HCI
        rw [hTi] at HCI HJ1
        obtain ⟨J, hJ⟩ : ∃ J, jn (sepW true) ts i = J := ⟨_, rfl⟩
        obtain ⟨J1, hJ1⟩ : ∃ J1, jn (sepW true) ts (i + 1) = J1 := ⟨_, rfl⟩
        rw [hJ] at HJ1 hJl
        rw [hJ1] at HJ1 hJl1
        have HJ := Lib.hid hJ
        have HJ1' := Lib.hid hJ1
        rw [HJ.out]
        have q1 := Q1.b1
        have q3 := Q1.b3
        have HR := Below.refl wr.heap.size wr
        have hb31 : b3 < wr.heap.size := by omega
        clear hjj hTi hJ hJ1
        by_cases hi00 : i = 0
        · have hig : ¬ (0 : Int) < (i : Int) := by omega
          have hJ0 : J = [] := by rw [← HJ.out, hi00]; rfl
          have hJT : J1 = J ++ Ti := by rw [HJ1.out, if_pos hi00, hJ0]
          have HJT := Lib.hid hJT
          have ha1 : ¬ 9223372036854775807 < J.length + Ti.length := by have := congrArg List.length hJT; rw [List.length_append] at this; omega
          clear hJT hJ0 hi00
          go_wp2_with fail
          refine wp_region_held_drew (S := (fun w' => w'.cell? ⟨w.heap.size, 0, none⟩ = some (.slice (some ⟨b, o, none⟩) n c) ∧ w'.cell? ⟨w.heap.size, 1, none⟩ = some (.int .i64 sz) ∧ w'.cell? ⟨w.heap.size, 2, none⟩ = some (.int .i64 dp) ∧ w'.cell? ⟨w.heap.size + 1, 4, none⟩ = some (.slice (some ⟨b3, o3, none⟩) n3 c3') ∧ w'.cell? ⟨b3, o3 + i, none⟩ = some (.int .i64 (jj : Nat)))) (by kernel_rfl) ?_ (fun hHeld => ?_)
          · replace q1 := Blk.drew q1; replace q3 := Blk.drew q3; replace HR := Below.drew HR; (try dsimp only); exact ⟨q1.cell_ 0 rfl, q1.cell_ 1 rfl, q1.cell_ 2 rfl, q3.cell_ 4 rfl, (HR.cell (p := ⟨b3, o3 + i, none⟩) hb31).trans hcj1⟩
          replace q1 := Blk.drew q1
          replace q3 := Blk.drew q3
          replace HR := Below.drew HR
          have zHR := HR.size
          refine take_movev (v := ?vu7x0) 0 (Operand.tmp 9) rfl rfl (by first | exact .inl rfl | exact .inr rfl) rfl (by kernel_rfl) (by kernel_rfl) (by kernel_rfl) (fun _ _ _ h => h) (by assumption) ?yu7x0 ?ru7x0
          case yu7x0 => (go_simp; try (with_reducible rfl))
          simp only [List.setIfInBounds_toArray, List.set_cons_zero, List.set_cons_succ]
          refine take_op (v := ?vu7x1) 1 (Op.load 29 (Operand.tmp 3)) 29 rfl rfl rfl rfl rfl (by kernel_rfl) (by kernel_rfl) (by kernel_rfl) (fun _ _ _ h => h) ?yu7x1 (by assumption) ?ru7x1
          case yu7x1 => (intro w' hSw; (try dsimp only at hSw); go_simp; try (with_reducible rfl))
          simp only [List.setIfInBounds_toArray, List.set_cons_zero, List.set_cons_succ]
          refine take_op (v := ?vu7x2) 2 (Op.fieldAddr 75 (Operand.tmp 7) 3) 0 rfl rfl rfl rfl rfl (by kernel_rfl) (by kernel_rfl) (by kernel_rfl) (fun _ _ _ h => h) ?yu7x2 (by assumption) ?ru7x2
          case yu7x2 => (intro w' hSw; (try dsimp only at hSw); go_simp; try (with_reducible rfl))
          simp only [List.setIfInBounds_toArray, List.set_cons_zero, List.set_cons_succ]
          refine take_op (v := ?vu7x3) 3 (Op.load 73 (Operand.tmp 72)) 73 rfl rfl rfl rfl rfl (by kernel_rfl) (by kernel_rfl) (by kernel_rfl) (fun _ _ _ h => h) ?yu7x3 (by assumption) ?ru7x3
          case yu7x3 => (intro w' hSw; (try dsimp only at hSw); go_simp; try (with_reducible rfl))
          simp only [List.setIfInBounds_toArray, List.set_cons_zero, List.set_cons_succ]
          refine take_movev (v := ?vu7x4) 4 (Operand.tmp 10) rfl rfl (by first | exact .inl rfl | exact .inr rfl) rfl (by kernel_rfl) (by kernel_rfl) (by kernel_rfl) (fun _ _ _ h => h) (by assumption) ?yu7x4 ?ru7x4
          case yu7x4 => (go_simp; try (with_reducible rfl))
          simp only [List.setIfInBounds_toArray, List.set_cons_zero, List.set_cons_succ]
          refine take_op (v := ?vu7x5) 5 (Op.indexAddr 73 (Operand.tmp 73) (Operand.tmp 74)) 0 rfl rfl rfl rfl rfl (by kernel_rfl) (by kernel_rfl) (by kernel_rfl) (fun _ _ _ h => h) ?yu7x5 (by assumption) ?ru7x5
          case yu7x5 => (intro w' hSw; (try dsimp only at hSw); go_simp; try (with_reducible rfl))
          simp only [List.setIfInBounds_toArray, List.set_cons_zero, List.set_cons_succ]
          refine take_op (v := ?vu7x6) 6 (Op.load 3 (Operand.tmp 75)) 3 rfl rfl rfl rfl rfl (by kernel_rfl) (by kernel_rfl) (by kernel_rfl) (fun _ _ _ h => h) ?yu7x6 (by assumption) ?ru7x6
          case yu7x6 => (intro w' hSw; (try dsimp only at hSw); go_simp; try (with_reducible rfl))
          simp only [List.setIfInBounds_toArray, List.set_cons_zero, List.set_cons_succ]
          refine take_movev (v := ?vu7x7) 7 (Operand.tmp 8) rfl rfl (by first | exact .inl rfl | exact .inr rfl) rfl (by kernel_rfl) (by kernel_rfl) (by kernel_rfl) (fun _ _ _ h => h) (by assumption) ?yu7x7 ?ru7x7
          case yu7x7 => (go_simp; try (with_reducible rfl))
          simp only [List.setIfInBounds_toArray, List.set_cons_zero, List.set_cons_succ]
          refine wpAnyH_ready (rs := [8]) (by kernel_rfl) (by simp) (AllReadyH.cons rfl (fun K8 hK8 => ?ku7x8) AllReadyH.nil)
          refine take_calls 8 11 [Operand.tmp 71, Operand.tmp 76, Operand.tmp 77] #[29, 3, 3] rfl rfl (by kernel_rfl) (fun args w => run_enter Tryd.func11 (by kernel_rfl) rfl args w) ?_
          refine (HCI.out _ (hB1.trans (HR.mono hB1.size))).mono ?_
          rintro e w8 ⟨rfl, hb8⟩
          refine ⟨_, rfl, ?_⟩
          have z8 := hb8.size
          try simp only [World.size_drew] at z8
          replace q1 := Blk.below q1 hb8 (by first | exact Nat.le_refl _ | (simp only [World.size_alloc, World.size_setCell, World.size_drew] at *; omega) | omega)
          replace q3 := Blk.below q3 hb8 (by first | exact Nat.le_refl _ | (simp only [World.size_alloc, World.size_setCell, World.size_drew] at *; omega) | omega)
          replace HR := HR.trans (hb8.mono (by first | exact HR.size | omega))
          have zHR8 := HR.size
          refine hK8.out _ _ ?su7x8 (fun hHeld => ?ru7x8)
          case su7x8 => ((try dsimp only); exact ⟨q1.cell_ 0 rfl, q1.cell_ 1 rfl, q1.cell_ 2 rfl, q3.cell_ 4 rfl, (HR.cell (p := ⟨b3, o3 + i, none⟩) hb31).trans hcj1⟩)
          try simp only [List.setIfInBounds_toArray, List.set_cons_zero, List.set_cons_succ]
          refine take_op (v := ?vu7x9) 9 (Op.binOp BinOp.add 9 (Operand.tmp 70) (Operand.tmp 78) 9) 9 rfl rfl rfl rfl rfl (by kernel_rfl) (by kernel_rfl) (by kernel_rfl) (fun _ _ _ h => h) ?yu7x9 (by assumption) ?ru7x9
          case yu7x9 => (intro w' hSw; (try dsimp only at hSw); go_simp; try (with_reducible rfl))
          simp only [List.setIfInBounds_toArray, List.set_cons_zero, List.set_cons_succ]
          refine take_op (v := ?vu7x10) 10 (Op.assign (Operand.tmp 79)) 9 rfl rfl rfl rfl rfl (by kernel_rfl) (by kernel_rfl) (by kernel_rfl) (fun _ _ _ h => h) ?yu7x10 (by assumption) ?ru7x10
          case yu7x10 => (intro w' hSw; (try dsimp only at hSw); go_simp; try (with_reducible rfl))
          simp only [List.setIfInBounds_toArray, List.set_cons_zero, List.set_cons_succ]
          refine wpAnyH_done (by kernel_rfl) ?_ _
          have Q2 := Q1.below HR
          have hcat : (⟨J.toArray⟩ : ByteArray) ++ ⟨Ti.toArray⟩ = ⟨J1.toArray⟩ := by rw [ba_cat2, HJT.out]; simp
          go_wp2_with fail
          go_roundw
          case rel => exact ⟨i + 1, by omega, by go_num, by rw [HJ1'.out]; first | rfl | (show Value.string _ = _; rw [hcat]), Q2⟩
          case measure => simp [intOf]; omega
        · have hig : (0 : Int) < (i : Int) := by omega
          have hJT : J1 = J ++ sepW true ++ Ti := by rw [HJ1.out, if_neg hi00]
          have hlen1 := congrArg List.length hJT
          simp only [List.length_append] at hlen1
          obtain ⟨V1, hV1⟩ : ∃ V, J ++ [32] = V := ⟨_, rfl⟩
          have hl1 : V1.length = J.length + 1 := by rw [← hV1]; simp
          obtain ⟨V2, hV2⟩ : ∃ V, V1 ++ byW true = V := ⟨_, rfl⟩
          have hl2' : V2.length = V1.length + (byW true).length := by rw [← hV2]; simp
          obtain ⟨V3, hV3⟩ : ∃ V, V2 ++ [32] = V := ⟨_, rfl⟩
          have hl3 : V3.length = V2.length + 1 := by rw [← hV3]; simp
          have hJT2 : J1 = V3 ++ Ti := by rw [hJT, ← hV3, ← hV2, ← hV1]; simp [sepW]
          have t1 : (⟨J.toArray⟩ : ByteArray) ++ ⟨#[32]⟩ = ⟨V1.toArray⟩ := by rw [ba_cat2, ← hV1]; simp
          have t2 : (⟨V1.toArray⟩ : ByteArray) ++ ⟨(byW true).toArray⟩ = ⟨V2.toArray⟩ := by rw [ba_cat2, ← hV2]; simp
          have t3 : (⟨V2.toArray⟩ : ByteArray) ++ ⟨#[32]⟩ = ⟨V3.toArray⟩ := by rw [ba_cat2, ← hV3]; simp
          have t4 : (⟨V3.toArray⟩ : ByteArray) ++ ⟨Ti.toArray⟩ = ⟨J1.toArray⟩ := by rw [ba_cat2, hJT2]; simp
          have a1 : ¬ 9223372036854775807 < J.length + 1 := by omega
          have a2 : ¬ 9223372036854775807 < V1.length + (byW true).length := by omega
          have a3 : ¬ 9223372036854775807 < V2.length + 1 := by omega
          have a4 : ¬ 9223372036854775807 < V3.length + Ti.length := by have := congrArg List.length hJT2; rw [List.length_append] at this; omega
          clear hJT hJT2 hlen1 hV1 hV2 hV3 hl1 hl2' hl3 hi00
          go_wp2_with fail
          refine wp_region_held_drew (S := (fun w' => w'.cell? ⟨w.heap.size, 0, none⟩ = some (.slice (some ⟨b, o, none⟩) n c) ∧ w'.cell? ⟨w.heap.size, 1, none⟩ = some (.int .i64 sz) ∧ w'.cell? ⟨w.heap.size, 2, none⟩ = some (.int .i64 dp) ∧ w'.cell? ⟨w.heap.size + 1, 4, none⟩ = some (.slice (some ⟨b3, o3, none⟩) n3 c3') ∧ w'.cell? ⟨b3, o3 + i, none⟩ = some (.int .i64 (jj : Nat)))) (by kernel_rfl) ?_ (fun hHeld => ?_)
          · replace q1 := Blk.drew q1; replace q3 := Blk.drew q3; replace HR := Below.drew HR; (try dsimp only); exact ⟨q1.cell_ 0 rfl, q1.cell_ 1 rfl, q1.cell_ 2 rfl, q3.cell_ 4 rfl, (HR.cell (p := ⟨b3, o3 + i, none⟩) hb31).trans hcj1⟩
          replace q1 := Blk.drew q1
          replace q3 := Blk.drew q3
          replace HR := Below.drew HR
          have zHR := HR.size
          refine take_movev (v := ?vu8x0) 0 (Operand.tmp 9) rfl rfl (by first | exact .inl rfl | exact .inr rfl) rfl (by kernel_rfl) (by kernel_rfl) (by kernel_rfl) (fun _ _ _ h => h) (by assumption) ?yu8x0 ?ru8x0
          case yu8x0 => (go_simp; try (with_reducible rfl))
          simp only [List.setIfInBounds_toArray, List.set_cons_zero, List.set_cons_succ]
          refine take_op (v := ?vu8x1) 1 (Op.load 29 (Operand.tmp 3)) 29 rfl rfl rfl rfl rfl (by kernel_rfl) (by kernel_rfl) (by kernel_rfl) (fun _ _ _ h => h) ?yu8x1 (by assumption) ?ru8x1
          case yu8x1 => (intro w' hSw; (try dsimp only at hSw); go_simp; try (with_reducible rfl))
          simp only [List.setIfInBounds_toArray, List.set_cons_zero, List.set_cons_succ]
          refine take_op (v := ?vu8x2) 2 (Op.fieldAddr 75 (Operand.tmp 7) 3) 0 rfl rfl rfl rfl rfl (by kernel_rfl) (by kernel_rfl) (by kernel_rfl) (fun _ _ _ h => h) ?yu8x2 (by assumption) ?ru8x2
          case yu8x2 => (intro w' hSw; (try dsimp only at hSw); go_simp; try (with_reducible rfl))
          simp only [List.setIfInBounds_toArray, List.set_cons_zero, List.set_cons_succ]
          refine take_op (v := ?vu8x3) 3 (Op.load 73 (Operand.tmp 72)) 73 rfl rfl rfl rfl rfl (by kernel_rfl) (by kernel_rfl) (by kernel_rfl) (fun _ _ _ h => h) ?yu8x3 (by assumption) ?ru8x3
          case yu8x3 => (intro w' hSw; (try dsimp only at hSw); go_simp; try (with_reducible rfl))
          simp only [List.setIfInBounds_toArray, List.set_cons_zero, List.set_cons_succ]
          refine take_movev (v := ?vu8x4) 4 (Operand.tmp 10) rfl rfl (by first | exact .inl rfl | exact .inr rfl) rfl (by kernel_rfl) (by kernel_rfl) (by kernel_rfl) (fun _ _ _ h => h) (by assumption) ?yu8x4 ?ru8x4
          case yu8x4 => (go_simp; try (with_reducible rfl))
          simp only [List.setIfInBounds_toArray, List.set_cons_zero, List.set_cons_succ]
          refine take_op (v := ?vu8x5) 5 (Op.indexAddr 73 (Operand.tmp 73) (Operand.tmp 74)) 0 rfl rfl rfl rfl rfl (by kernel_rfl) (by kernel_rfl) (by kernel_rfl) (fun _ _ _ h => h) ?yu8x5 (by assumption) ?ru8x5
          case yu8x5 => (intro w' hSw; (try dsimp only at hSw); go_simp; try (with_reducible rfl))
          simp only [List.setIfInBounds_toArray, List.set_cons_zero, List.set_cons_succ]
          refine take_op (v := ?vu8x6) 6 (Op.load 3 (Operand.tmp 75)) 3 rfl rfl rfl rfl rfl (by kernel_rfl) (by kernel_rfl) (by kernel_rfl) (fun _ _ _ h => h) ?yu8x6 (by assumption) ?ru8x6
          case yu8x6 => (intro w' hSw; (try dsimp only at hSw); go_simp; try (with_reducible rfl))
          simp only [List.setIfInBounds_toArray, List.set_cons_zero, List.set_cons_succ]
          refine take_movev (v := ?vu8x7) 7 (Operand.tmp 8) rfl rfl (by first | exact .inl rfl | exact .inr rfl) rfl (by kernel_rfl) (by kernel_rfl) (by kernel_rfl) (fun _ _ _ h => h) (by assumption) ?yu8x7 ?ru8x7
          case yu8x7 => (go_simp; try (with_reducible rfl))
          simp only [List.setIfInBounds_toArray, List.set_cons_zero, List.set_cons_succ]
          refine wpAnyH_ready (rs := [8]) (by kernel_rfl) (by simp) (AllReadyH.cons rfl (fun K8 hK8 => ?ku8x8) AllReadyH.nil)
          refine take_calls 8 11 [Operand.tmp 71, Operand.tmp 76, Operand.tmp 77] #[29, 3, 3] rfl rfl (by kernel_rfl) (fun args w => run_enter Tryd.func11 (by kernel_rfl) rfl args w) ?_
          refine (HCI.out _ (hB1.trans (HR.mono hB1.size))).mono ?_
          rintro e w8 ⟨rfl, hb8⟩
          refine ⟨_, rfl, ?_⟩
          have z8 := hb8.size
          try simp only [World.size_drew] at z8
          replace q1 := Blk.below q1 hb8 (by first | exact Nat.le_refl _ | (simp only [World.size_alloc, World.size_setCell, World.size_drew] at *; omega) | omega)
          replace q3 := Blk.below q3 hb8 (by first | exact Nat.le_refl _ | (simp only [World.size_alloc, World.size_setCell, World.size_drew] at *; omega) | omega)
          replace HR := HR.trans (hb8.mono (by first | exact HR.size | omega))
          have zHR8 := HR.size
          refine hK8.out _ _ ?su8x8 (fun hHeld => ?ru8x8)
          case su8x8 => ((try dsimp only); exact ⟨q1.cell_ 0 rfl, q1.cell_ 1 rfl, q1.cell_ 2 rfl, q3.cell_ 4 rfl, (HR.cell (p := ⟨b3, o3 + i, none⟩) hb31).trans hcj1⟩)
          try simp only [List.setIfInBounds_toArray, List.set_cons_zero, List.set_cons_succ]
          refine take_op (v := ?vu8x9) 9 (Op.binOp BinOp.add 9 (Operand.tmp 70) (Operand.tmp 78) 9) 9 rfl rfl rfl rfl rfl (by kernel_rfl) (by kernel_rfl) (by kernel_rfl) (fun _ _ _ h => h) ?yu8x9 (by assumption) ?ru8x9
          case yu8x9 => (intro w' hSw; (try dsimp only at hSw); go_simp; try (with_reducible rfl))
          simp only [List.setIfInBounds_toArray, List.set_cons_zero, List.set_cons_succ]
          refine take_op (v := ?vu8x10) 10 (Op.assign (Operand.tmp 79)) 9 rfl rfl rfl rfl rfl (by kernel_rfl) (by kernel_rfl) (by kernel_rfl) (fun _ _ _ h => h) ?yu8x10 (by assumption) ?ru8x10
          case yu8x10 => (intro w' hSw; (try dsimp only at hSw); go_simp; try (with_reducible rfl))
          simp only [List.setIfInBounds_toArray, List.set_cons_zero, List.set_cons_succ]
          refine wpAnyH_done (by kernel_rfl) ?_ _
          have Q2 := Q1.below HR
          go_wp2_with fail
          go_roundw
          case rel => exact ⟨i + 1, by omega, by go_num, by rw [HJ1'.out], Q2⟩
          case measure => simp [intOf]; omega
      · have hiI : ¬ (i : Int) < (n3 : Int) := by omega
        have hie : i = l.length := by omega
        rw [hie] at hJl ⊢
        obtain ⟨T, hT⟩ : ∃ T, jn (sepW true) ts l.length = T := ⟨_, rfl⟩
        rw [hT] at hJl HSH ⊢
        have ha3 : ¬ 9223372036854775807 < 1 + T.length := by omega
        have ha4 : ¬ 9223372036854775807 < 1 + T.length + 1 := by omega
        have HIE := Lib.hid hie
        clear hie hT hlt
        by_cases hc1 : 0 < cl
        · have hcI : (0 : Int) < (cl : Int) := by omega
          have hRR := HSH.out
          rw [if_pos hc1] at hRR
          have HRR := Lib.hid hRR
          clear hc1 hRR
          go_wp2_with fail
          go_ret
          refine ⟨?_, hB1⟩
          show Ending.returned (.string _) = _
          rw [ba_cat2, ba_cat2, HRR.out]
          simp
        · have hcI : ¬ (0 : Int) < (cl : Int) := by omega
          have hRR := HSH.out
          rw [if_neg hc1] at hRR
          have HRR := Lib.hid hRR
          clear hc1 hRR
          go_wp2_with fail
          go_ret
          rw [HRR.out]
          exact ⟨rfl, hB1⟩
theorem row_sh (o : Bool) (l : List Nd) (hl : 2 ≤ l.length) (cl : Nat) : shN cl (.row o l) = if ownS o < cl then 40 :: (Lib.join (l.map (shN (ownS o))) (sepW o) ++ [41]) else Lib.join (l.map (shN (ownS o))) (sepW o) := by
  cases l with
  | nil => simp at hl
  | cons a l => rw [join_row, shN]; simp
mutual
theorem rsw_any : ∀ n : Nd, wfN n → szN n ≤ 400 → RSw n
  | .within kk lo hi, hw, _ => rsw_within kk lo hi hw
  | .has u, hw, _ => rsw_has u hw.2
  | .all, _, _ => rsw_all
  | .not x, hw, hz => by
    have h1 := shN_len x 2 hw
    simp only [szN] at hz
    exact rsw_not x (rsw_any x hw (by omega)) (by omega)
  | .row o l, hw, hz => by
    have hl := len_sz o l hw.2
    have h1 := shN_len (.row o l) 0 hw
    simp only [szN] at hz h1
    have e := row_sh o l hw.1 0
    rw [if_neg (by omega)] at e
    rw [e] at h1
    exact rsw_row o l hw.1 (by omega) (by omega) (row_sh o l hw.1) (rsw_list o l hw.2 hz)
theorem rsw_list (o : Bool) : ∀ l : List Nd, wfL o l → szL l ≤ 400 → ∀ i (h : i < l.length), RSw l[i]
  | [], _, _, i, h => by simp at h
  | a :: l, hw, hz, i, h => by
    simp only [szL] at hz
    cases i with
    | zero => exact rsw_any a hw.1 (by omega)
    | succ i => exact rsw_list o l hw.2.2 (by omega) i (by simp at h; omega)
end
end SieW
end Go.Proofs.YtdeiehgghhiijaaDoor
