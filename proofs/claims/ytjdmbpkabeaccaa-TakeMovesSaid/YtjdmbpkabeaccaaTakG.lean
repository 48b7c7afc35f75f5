/- Walks over take's reference: one piece. -/
import Derived.Test.YtjdmbpkabeaccaaTakV
namespace Go.Proofs.Ytjdmbpkabeaccaa
set_option linter.unusedVariables false
set_option linter.unusedSimpArgs false
set_option linter.unnecessarySimpa false
open Go.RowKit
namespace TakW

theorem results_cell_row2 {P : Program} {fn : Func} {p u v : Tmp} {ty : TypeId} (h : fn.results = #[.cell p ty, .tmp u, .tmp v]) (tmps : Array Value) (w : World) (g : Nat) (t : TypeId) (cs : Array Value) (fr : Nat × Nat) (d : TypeDesc)
    (hp : tmps.getD p undef = .pointer (some ⟨g, 0, none⟩)) (hg : w.heap[g]? = some (.cells cs t fr))
    (hu : P.underlying ty = some d) (hd : (match d with | .struct _ | .array _ _ => true | _ => false) = true) (hi : (P.info? ty).map (·.size) = some cs.size) :
    (results fn tmps).run P w = .ok (.tuple #[.agg cs, tmps.getD u undef, tmps.getD v undef]) w := by
  have hp' : tmps[p]?.getD undef = .pointer (some ⟨g, 0, none⟩) := by simpa using hp
  simp [results, h, hp', asAddr, run_loadVar_row w g t ty cs fr d hg hu hd hi]

abbrev tup (y : (Int × List UInt8) × Int × Int) : Value := .tuple #[gt y.1.1 y.1.2, .int .i64 y.2.1, .int .i64 y.2.2]

theorem one_start (w : World) (k n : Int) :
    Blk ((w.alloc (.cells #[.int .i64 k, .int .i64 n] 62)).alloc (.cells #[.int .i64 0, .string ⟨#[]⟩] 68)) w.heap.size 62 #[.int .i64 k, .int .i64 n] ∧
    Blk ((w.alloc (.cells #[.int .i64 k, .int .i64 n] 62)).alloc (.cells #[.int .i64 0, .string ⟨#[]⟩] 68)) (w.heap.size + 1) 68 #[.int .i64 0, str []] ∧
    Below w.heap.size w ((w.alloc (.cells #[.int .i64 k, .int .i64 n] 62)).alloc (.cells #[.int .i64 0, .string ⟨#[]⟩] 68)) := by
  refine ⟨(Blk.new _ _ _).alloc _, ?_, (by first | exact Below.refl _ _ | (repeat (first | exact Below.refl _ _ | assumption | refine Below.drew ?_ | refine Below.drewN_ ?_ _ | refine Below.alloc ?_ (by first | exact Nat.le_refl _ | (simp; done) | (simp; omega) | omega) _ | refine Below.setCell ?_ (by first | exact Nat.le_refl _ | (simp; done) | (simp; omega) | omega) _ | (refine Below.trans ?_ (Below.mono (by assumption) (by first | exact Nat.le_refl _ | (simp; done) | (simp; omega) | omega))))))⟩
  have := Blk.new (w.alloc (.cells #[.int .i64 k, .int .i64 n] 62)) 68 #[.int .i64 0, str []]
  simpa using this
theorem one_end {w w1 : World} (hb : Below w.heap.size w w1) (hR : Blk w1 (w.heap.size + 1) 68 #[.int .i64 0, str []]) (a b : Value) :
    Blk ((w1.setCell ⟨w.heap.size + 1, 0, none⟩ a).setCell ⟨w.heap.size + 1, 1, none⟩ b) (w.heap.size + 1) 68 #[a, b] ∧ Below w.heap.size w ((w1.setCell ⟨w.heap.size + 1, 0, none⟩ a).setCell ⟨w.heap.size + 1, 1, none⟩ b) := by
  refine ⟨(hR.set 0 a).set 1 b, hb.os, hb.tape, hb.output, by simpa [World.setCell] using hb.size, fun k hk => ?_⟩
  rw [Below.heap_setCell _ _ _ k (by show k ≠ w.heap.size + 1; omega), Below.heap_setCell _ _ _ k (by show k ≠ w.heap.size + 1; omega)]
  exact hb.block k hk

set_option maxRecDepth 100000 in
set_option maxHeartbeats 2000000 in
theorem one_other (s : List UInt8) (p k n : Int) (w : World) (h0 : 0 ≤ p) (hp : p ≤ s.length) (hs : s.length ≤ 9223372036854775000) (h1 : k ≠ 1) (h2 : k ≠ 2) (h3 : k ≠ 3) (h4 : k ≠ 4) (h5 : k ≠ 5) (h6 : k ≠ 6) :
    Calls Try.prog 67 #[str s, .int .i64 p, wn k n] w fun e w' => e = .returned (tup ((0, []), p, 2)) ∧ Below w.heap.size w w' := by
  have e1 : (k == 1) = false := by simpa using h1
  have e2 : (k == 2) = false := by simpa using h2
  have e3 : (k == 3) = false := by simpa using h3
  have e4 : (k == 4) = false := by simpa using h4
  have e5 : (k == 5) = false := by simpa using h5
  have e6 : (k == 6) = false := by simpa using h6
  clear h1 h2 h3 h4 h5 h6
  have hw : IntKind.i64.wrap ((s.length : Int) - p) = (s.length : Int) - p := IntWalk.i64_in _ (by omega)
  go_enter Try.func67, Try.ntmps67
  go_wp2_with fail
  refine bodyPost_ret (results_cell_row2 rfl _ _ (w.heap.size + 1) 68 #[.int .i64 0, str []] (0, 0) _ rfl (heap_alloc2_new _ _ _) Try.underlying68 rfl (by kernel_rfl)) rfl ?_
  exact ⟨rfl, (by first | exact Below.refl _ _ | (repeat (first | exact Below.refl _ _ | assumption | refine Below.drew ?_ | refine Below.drewN_ ?_ _ | refine Below.alloc ?_ (by first | exact Nat.le_refl _ | (simp; done) | (simp; omega) | omega) _ | refine Below.setCell ?_ (by first | exact Nat.le_refl _ | (simp; done) | (simp; omega) | omega) _ | (refine Below.trans ?_ (Below.mono (by assumption) (by first | exact Nat.le_refl _ | (simp; done) | (simp; omega) | omega))))))⟩
set_option maxRecDepth 100000 in
set_option maxHeartbeats 2000000 in
theorem one1_no (s : List UInt8) (p : Int) (n : Int) (w : World) (h0 : 0 ≤ p) (hp : p ≤ s.length) (hs : s.length ≤ 9223372036854775000) (h : (s.length : Int) ≤ p) :
    Calls Try.prog 67 #[str s, .int .i64 p, wn 1 n] w fun e w' => e = .returned (tup ((0, []), p, 4)) ∧ Below w.heap.size w w' := by
  have hd : (s.length : Int) - p < 1 := by omega
  have hw : IntKind.i64.wrap ((s.length : Int) - p) = (s.length : Int) - p := IntWalk.i64_in _ (by omega)
  go_enter Try.func67, Try.ntmps67
  go_wp2_with fail
  refine bodyPost_ret (results_cell_row2 rfl _ _ (w.heap.size + 1) 68 #[.int .i64 0, str []] (0, 0) _ rfl (heap_alloc2_new _ _ _) Try.underlying68 rfl (by kernel_rfl)) rfl ?_
  exact ⟨rfl, (by first | exact Below.refl _ _ | (repeat (first | exact Below.refl _ _ | assumption | refine Below.drew ?_ | refine Below.drewN_ ?_ _ | refine Below.alloc ?_ (by first | exact Nat.le_refl _ | (simp; done) | (simp; omega) | omega) _ | refine Below.setCell ?_ (by first | exact Nat.le_refl _ | (simp; done) | (simp; omega) | omega) _ | (refine Below.trans ?_ (Below.mono (by assumption) (by first | exact Nat.le_refl _ | (simp; done) | (simp; omega) | omega))))))⟩
set_option maxRecDepth 100000 in
set_option maxHeartbeats 2000000 in
theorem one1_yes (s : List UInt8) (p : Nat) (n : Int) (w : World) (hq : 0 ≤ (p : Int)) (hs : s.length ≤ 9223372036854775000) (h : p < s.length) :
    Calls Try.prog 67 #[str s, .int .i64 p, wn 1 n] w fun e w' => e = .returned (tup (((s[p].toNat : Int), []), ((p : Int) + 1), 0)) ∧ Below w.heap.size w w' := by
  have hd : ¬ (s.length : Int) - (p : Int) < 1 := by omega
  have hw2 : IntKind.i64.wrap ((p : Int) + 1) = (p : Int) + 1 := IntWalk.i64_in _ (by omega)
  have hi : (p : Int) < (s.length : Int) := by omega
  have hbv : wrap64 (((⟨s.toArray⟩ : ByteArray)[p]'(by show p < s.toArray.size; simpa using h)).toNat : Int) = (s[p].toNat : Int) := by
    have e : (⟨s.toArray⟩ : ByteArray)[p]'(by show p < s.toArray.size; simpa using h) = s[p] := by
      show s.toArray[p]'(by simpa using h) = s[p]
      simp
    rw [e]
    have := s[p].toNat_lt
    unfold wrap64
    omega
  have hw : IntKind.i64.wrap ((s.length : Int) - p) = (s.length : Int) - p := IntWalk.i64_in _ (by omega)
  go_enter Try.func67, Try.ntmps67
  go_wp2_with fail
  refine bodyPost_ret (results_cell_row2 rfl _ _ (w.heap.size + 1) 68 #[.int .i64 (s[p].toNat : Int), str []] (0, 0) _ rfl (heap_alloc2_new _ _ _) Try.underlying68 rfl (by kernel_rfl)) rfl ?_
  exact ⟨rfl, (by first | exact Below.refl _ _ | (repeat (first | exact Below.refl _ _ | assumption | refine Below.drew ?_ | refine Below.drewN_ ?_ _ | refine Below.alloc ?_ (by first | exact Nat.le_refl _ | (simp; done) | (simp; omega) | omega) _ | refine Below.setCell ?_ (by first | exact Nat.le_refl _ | (simp; done) | (simp; omega) | omega) _ | (refine Below.trans ?_ (Below.mono (by assumption) (by first | exact Nat.le_refl _ | (simp; done) | (simp; omega) | omega))))))⟩
set_option maxRecDepth 100000 in
set_option maxHeartbeats 2000000 in
theorem one6_no (s : List UInt8) (p : Int) (n : Int) (w : World) (h0 : 0 ≤ p) (hp : p ≤ s.length) (hs : s.length ≤ 9223372036854775000) (h : p < s.length) :
    Calls Try.prog 67 #[str s, .int .i64 p, wn 6 n] w fun e w' => e = .returned (tup ((0, []), p, 6)) ∧ Below w.heap.size w w' := by
  have hd : 0 < (s.length : Int) - p := by omega
  have hw : IntKind.i64.wrap ((s.length : Int) - p) = (s.length : Int) - p := IntWalk.i64_in _ (by omega)
  go_enter Try.func67, Try.ntmps67
  go_wp2_with fail
  refine bodyPost_ret (results_cell_row2 rfl _ _ (w.heap.size + 1) 68 #[.int .i64 0, str []] (0, 0) _ rfl (heap_alloc2_new _ _ _) Try.underlying68 rfl (by kernel_rfl)) rfl ?_
  exact ⟨rfl, (by first | exact Below.refl _ _ | (repeat (first | exact Below.refl _ _ | assumption | refine Below.drew ?_ | refine Below.drewN_ ?_ _ | refine Below.alloc ?_ (by first | exact Nat.le_refl _ | (simp; done) | (simp; omega) | omega) _ | refine Below.setCell ?_ (by first | exact Nat.le_refl _ | (simp; done) | (simp; omega) | omega) _ | (refine Below.trans ?_ (Below.mono (by assumption) (by first | exact Nat.le_refl _ | (simp; done) | (simp; omega) | omega))))))⟩
set_option maxRecDepth 100000 in
set_option maxHeartbeats 2000000 in
theorem one6_yes (s : List UInt8) (p : Int) (n : Int) (w : World) (h0 : 0 ≤ p) (hp : p ≤ s.length) (hs : s.length ≤ 9223372036854775000) (h : (s.length : Int) ≤ p) :
    Calls Try.prog 67 #[str s, .int .i64 p, wn 6 n] w fun e w' => e = .returned (tup ((0, []), p, 0)) ∧ Below w.heap.size w w' := by
  have hd : ¬ 0 < (s.length : Int) - p := by omega
  have hw : IntKind.i64.wrap ((s.length : Int) - p) = (s.length : Int) - p := IntWalk.i64_in _ (by omega)
  go_enter Try.func67, Try.ntmps67
  go_wp2_with fail
  refine bodyPost_ret (results_cell_row2 rfl _ _ (w.heap.size + 1) 68 #[.int .i64 0, str []] (0, 0) _ rfl (heap_alloc2_new _ _ _) Try.underlying68 rfl (by kernel_rfl)) rfl ?_
  exact ⟨rfl, (by first | exact Below.refl _ _ | (repeat (first | exact Below.refl _ _ | assumption | refine Below.drew ?_ | refine Below.drewN_ ?_ _ | refine Below.alloc ?_ (by first | exact Nat.le_refl _ | (simp; done) | (simp; omega) | omega) _ | refine Below.setCell ?_ (by first | exact Nat.le_refl _ | (simp; done) | (simp; omega) | omega) _ | (refine Below.trans ?_ (Below.mono (by assumption) (by first | exact Nat.le_refl _ | (simp; done) | (simp; omega) | omega))))))⟩
set_option maxRecDepth 100000 in
set_option maxHeartbeats 2000000 in
theorem one4_neg (s : List UInt8) (p : Int) (n : Int) (w : World) (h0 : 0 ≤ p) (hp : p ≤ s.length) (hs : s.length ≤ 9223372036854775000) (h : n < 0) :
    Calls Try.prog 67 #[str s, .int .i64 p, wn 4 n] w fun e w' => e = .returned (tup ((0, []), p, 2)) ∧ Below w.heap.size w w' := by
  have hw : IntKind.i64.wrap ((s.length : Int) - p) = (s.length : Int) - p := IntWalk.i64_in _ (by omega)
  go_enter Try.func67, Try.ntmps67
  go_wp2_with fail
  refine bodyPost_ret (results_cell_row2 rfl _ _ (w.heap.size + 1) 68 #[.int .i64 0, str []] (0, 0) _ rfl (heap_alloc2_new _ _ _) Try.underlying68 rfl (by kernel_rfl)) rfl ?_
  exact ⟨rfl, (by first | exact Below.refl _ _ | (repeat (first | exact Below.refl _ _ | assumption | refine Below.drew ?_ | refine Below.drewN_ ?_ _ | refine Below.alloc ?_ (by first | exact Nat.le_refl _ | (simp; done) | (simp; omega) | omega) _ | refine Below.setCell ?_ (by first | exact Nat.le_refl _ | (simp; done) | (simp; omega) | omega) _ | (refine Below.trans ?_ (Below.mono (by assumption) (by first | exact Nat.le_refl _ | (simp; done) | (simp; omega) | omega))))))⟩
set_option maxRecDepth 100000 in
set_option maxHeartbeats 2000000 in
theorem one4_no (s : List UInt8) (p : Int) (n : Int) (w : World) (h0 : 0 ≤ p) (hp : p ≤ s.length) (hs : s.length ≤ 9223372036854775000) (h : ¬ n < 0) (h2 : (s.length : Int) - p < n) :
    Calls Try.prog 67 #[str s, .int .i64 p, wn 4 n] w fun e w' => e = .returned (tup ((0, []), p, 4)) ∧ Below w.heap.size w w' := by
  have hw : IntKind.i64.wrap ((s.length : Int) - p) = (s.length : Int) - p := IntWalk.i64_in _ (by omega)
  go_enter Try.func67, Try.ntmps67
  go_wp2_with fail
  refine bodyPost_ret (results_cell_row2 rfl _ _ (w.heap.size + 1) 68 #[.int .i64 0, str []] (0, 0) _ rfl (heap_alloc2_new _ _ _) Try.underlying68 rfl (by kernel_rfl)) rfl ?_
  exact ⟨rfl, (by first | exact Below.refl _ _ | (repeat (first | exact Below.refl _ _ | assumption | refine Below.drew ?_ | refine Below.drewN_ ?_ _ | refine Below.alloc ?_ (by first | exact Nat.le_refl _ | (simp; done) | (simp; omega) | omega) _ | refine Below.setCell ?_ (by first | exact Nat.le_refl _ | (simp; done) | (simp; omega) | omega) _ | (refine Below.trans ?_ (Below.mono (by assumption) (by first | exact Nat.le_refl _ | (simp; done) | (simp; omega) | omega))))))⟩
set_option maxRecDepth 100000 in
set_option maxHeartbeats 2000000 in
theorem one2_yes (s : List UInt8) (p : Int) (n : Int) (w : World) (h0 : 0 ≤ p) (hp : p ≤ s.length) (hs : s.length ≤ 9223372036854775000) (x : Int × Int × Int) (hx : getV s p = x) (h : x.2.2 = 0) :
    Calls Try.prog 67 #[str s, .int .i64 p, wn 2 n] w fun e w' => e = .returned (tup ((x.1, []), x.2.1, 0)) ∧ Below w.heap.size w w' := by
  have C := fun w => VarW.refGet_any s p w (by omega) x hx
  obtain ⟨v, to, er⟩ := x
  dsimp only at h
  subst h
  clear hx
  have hw : IntKind.i64.wrap ((s.length : Int) - p) = (s.length : Int) - p := IntWalk.i64_in _ (by omega)
  go_enter Try.func67, Try.ntmps67
  go_wp2_with fail
  refine (C _).mono ?_
  clear C
  rintro e w1 ⟨rfl, rfl⟩
  go_wp2_with fail
  refine bodyPost_ret (results_cell_row2 rfl _ _ (w.heap.size + 1) 68 #[.int .i64 v, str []] (0, 0) _ rfl (heap_alloc2_new _ _ _) Try.underlying68 rfl (by kernel_rfl)) rfl ?_
  exact ⟨rfl, (by first | exact Below.refl _ _ | (repeat (first | exact Below.refl _ _ | assumption | refine Below.drew ?_ | refine Below.drewN_ ?_ _ | refine Below.alloc ?_ (by first | exact Nat.le_refl _ | (simp; done) | (simp; omega) | omega) _ | refine Below.setCell ?_ (by first | exact Nat.le_refl _ | (simp; done) | (simp; omega) | omega) _ | (refine Below.trans ?_ (Below.mono (by assumption) (by first | exact Nat.le_refl _ | (simp; done) | (simp; omega) | omega))))))⟩
set_option maxRecDepth 100000 in
set_option maxHeartbeats 2000000 in
theorem one2_no (s : List UInt8) (p : Int) (n : Int) (w : World) (h0 : 0 ≤ p) (hp : p ≤ s.length) (hs : s.length ≤ 9223372036854775000) (x : Int × Int × Int) (hx : getV s p = x) (h : x.2.2 ≠ 0) :
    Calls Try.prog 67 #[str s, .int .i64 p, wn 2 n] w fun e w' => e = .returned (tup ((0, []), p, x.2.2)) ∧ Below w.heap.size w w' := by
  have C := fun w => VarW.refGet_any s p w (by omega) x hx
  obtain ⟨v, to, er⟩ := x
  dsimp only at h
  have hb : (er != 0) = true := by simp [h]
  clear hx h
  have hw : IntKind.i64.wrap ((s.length : Int) - p) = (s.length : Int) - p := IntWalk.i64_in _ (by omega)
  go_enter Try.func67, Try.ntmps67
  go_wp2_with fail
  refine (C _).mono ?_
  clear C
  rintro e w1 ⟨rfl, rfl⟩
  go_wp2_with fail
  refine bodyPost_ret (results_cell_row2 rfl _ _ (w.heap.size + 1) 68 #[.int .i64 0, str []] (0, 0) _ rfl (heap_alloc2_new _ _ _) Try.underlying68 rfl (by kernel_rfl)) rfl ?_
  exact ⟨rfl, (by first | exact Below.refl _ _ | (repeat (first | exact Below.refl _ _ | assumption | refine Below.drew ?_ | refine Below.drewN_ ?_ _ | refine Below.alloc ?_ (by first | exact Nat.le_refl _ | (simp; done) | (simp; omega) | omega) _ | refine Below.setCell ?_ (by first | exact Nat.le_refl _ | (simp; done) | (simp; omega) | omega) _ | (refine Below.trans ?_ (Below.mono (by assumption) (by first | exact Nat.le_refl _ | (simp; done) | (simp; omega) | omega))))))⟩
set_option maxRecDepth 100000 in
set_option maxHeartbeats 2000000 in
theorem one3_yes (s : List UInt8) (p : Int) (n : Int) (w : World) (h0 : 0 ≤ p) (hp : p ≤ s.length) (hs : s.length ≤ 9223372036854775000) (x : Int × Int × Int) (hx : unfixV s p n = x) (h : x.2.2 = 0) :
    Calls Try.prog 67 #[str s, .int .i64 p, wn 3 n] w fun e w' => e = .returned (tup ((x.1, []), x.2.1, 0)) ∧ Below w.heap.size w w' := by
  have C := fun w => VarW.refUnfix_any s p n w (by omega) x hx
  obtain ⟨v, to, er⟩ := x
  dsimp only at h
  subst h
  clear hx
  have hw : IntKind.i64.wrap ((s.length : Int) - p) = (s.length : Int) - p := IntWalk.i64_in _ (by omega)
  go_enter Try.func67, Try.ntmps67
  go_wp2_with fail
  refine (C _).mono ?_
  clear C
  rintro e w1 ⟨rfl, rfl⟩
  go_wp2_with fail
  refine bodyPost_ret (results_cell_row2 rfl _ _ (w.heap.size + 1) 68 #[.int .i64 v, str []] (0, 0) _ rfl (heap_alloc2_new _ _ _) Try.underlying68 rfl (by kernel_rfl)) rfl ?_
  exact ⟨rfl, (by first | exact Below.refl _ _ | (repeat (first | exact Below.refl _ _ | assumption | refine Below.drew ?_ | refine Below.drewN_ ?_ _ | refine Below.alloc ?_ (by first | exact Nat.le_refl _ | (simp; done) | (simp; omega) | omega) _ | refine Below.setCell ?_ (by first | exact Nat.le_refl _ | (simp; done) | (simp; omega) | omega) _ | (refine Below.trans ?_ (Below.mono (by assumption) (by first | exact Nat.le_refl _ | (simp; done) | (simp; omega) | omega))))))⟩
set_option maxRecDepth 100000 in
set_option maxHeartbeats 2000000 in
theorem one3_no (s : List UInt8) (p : Int) (n : Int) (w : World) (h0 : 0 ≤ p) (hp : p ≤ s.length) (hs : s.length ≤ 9223372036854775000) (x : Int × Int × Int) (hx : unfixV s p n = x) (h : x.2.2 ≠ 0) :
    Calls Try.prog 67 #[str s, .int .i64 p, wn 3 n] w fun e w' => e = .returned (tup ((0, []), p, x.2.2)) ∧ Below w.heap.size w w' := by
  have C := fun w => VarW.refUnfix_any s p n w (by omega) x hx
  obtain ⟨v, to, er⟩ := x
  dsimp only at h
  have hb : (er != 0) = true := by simp [h]
  clear hx h
  have hw : IntKind.i64.wrap ((s.length : Int) - p) = (s.length : Int) - p := IntWalk.i64_in _ (by omega)
  go_enter Try.func67, Try.ntmps67
  go_wp2_with fail
  refine (C _).mono ?_
  clear C
  rintro e w1 ⟨rfl, rfl⟩
  go_wp2_with fail
  refine bodyPost_ret (results_cell_row2 rfl _ _ (w.heap.size + 1) 68 #[.int .i64 0, str []] (0, 0) _ rfl (heap_alloc2_new _ _ _) Try.underlying68 rfl (by kernel_rfl)) rfl ?_
  exact ⟨rfl, (by first | exact Below.refl _ _ | (repeat (first | exact Below.refl _ _ | assumption | refine Below.drew ?_ | refine Below.drewN_ ?_ _ | refine Below.alloc ?_ (by first | exact Nat.le_refl _ | (simp; done) | (simp; omega) | omega) _ | refine Below.setCell ?_ (by first | exact Nat.le_refl _ | (simp; done) | (simp; omega) | omega) _ | (refine Below.trans ?_ (Below.mono (by assumption) (by first | exact Nat.le_refl _ | (simp; done) | (simp; omega) | omega))))))⟩
set_option maxRecDepth 100000 in
set_option maxHeartbeats 2000000 in
theorem one5_yes (s : List UInt8) (p : Nat) (n : Int) (w : World) (hp : p ≤ s.length) (hs : s.length ≤ 9223372036854775000) :
    Calls Try.prog 67 #[str s, .int .i64 p, wn 5 n] w fun e w' => e = .returned (tup ((0, s.drop p), (s.length : Int), 0)) ∧ Below w.heap.size w w' := by
  have hw : IntKind.i64.wrap ((s.length : Int) - p) = (s.length : Int) - p := IntWalk.i64_in _ (by omega)
  have hp0 : (0 : Int) ≤ (p : Int) := by omega
  have hp1 : (p : Int) ≤ (s.length : Int) := by omega
  have HX := Lib.hid (ext_str s p s.length)
  go_enter Try.func67, Try.ntmps67
  go_wp2_with fail
  have e := HX.out
  rw [List.take_of_length_le (by simp)] at e
  rw [e]
  refine bodyPost_ret (results_cell_row2 rfl _ _ (w.heap.size + 1) 68 #[.int .i64 0, str (s.drop p)] (0, 0) _ rfl (heap_alloc2_new _ _ _) Try.underlying68 rfl (by kernel_rfl)) rfl ?_
  exact ⟨rfl, (by first | exact Below.refl _ _ | (repeat (first | exact Below.refl _ _ | assumption | refine Below.drew ?_ | refine Below.drewN_ ?_ _ | refine Below.alloc ?_ (by first | exact Nat.le_refl _ | (simp; done) | (simp; omega) | omega) _ | refine Below.setCell ?_ (by first | exact Nat.le_refl _ | (simp; done) | (simp; omega) | omega) _ | (refine Below.trans ?_ (Below.mono (by assumption) (by first | exact Nat.le_refl _ | (simp; done) | (simp; omega) | omega))))))⟩
set_option maxRecDepth 100000 in
set_option maxHeartbeats 2000000 in
theorem one4_yes (s : List UInt8) (p n : Nat) (w : World) (hp : p + n ≤ s.length) (hs : s.length ≤ 9223372036854775000) :
    Calls Try.prog 67 #[str s, .int .i64 p, wn 4 n] w fun e w' => e = .returned (tup ((0, (s.drop p).take n), (p : Int) + n, 0)) ∧ Below w.heap.size w w' := by
  have hw : IntKind.i64.wrap ((s.length : Int) - p) = (s.length : Int) - p := IntWalk.i64_in _ (by omega)
  have hw2 : IntKind.i64.wrap ((p : Int) + (n : Int)) = (p : Int) + (n : Int) := IntWalk.i64_in _ (by omega)
  have hp0 : (0 : Int) ≤ (p : Int) := by omega
  have hp1 : (p : Int) ≤ (p : Int) + (n : Int) := by omega
  have hp2 : (p : Int) + (n : Int) ≤ (s.length : Int) := by omega
  have hn0 : ¬ (n : Int) < 0 := by omega
  have hn1 : ¬ (s.length : Int) - (p : Int) < (n : Int) := by omega
  have HX := Lib.hid (ext_str s p (p + n))
  go_enter Try.func67, Try.ntmps67
  go_wp2_with fail
  obtain ⟨hX, hR, hB⟩ := one_start w 4 n
  generalize (w.alloc (.cells #[.int .i64 4, .int .i64 n] 62)).alloc (.cells #[.int .i64 0, .string ⟨#[]⟩] 68) = w0 at *
  obtain ⟨x0, x1, _, _, _⟩ := blk2 hX
  have hR' := hR
  obtain ⟨r0, r1, rf0, rf1, _⟩ := blk2 hR'
  go_region
  all_goals
    go_wp2_with fail
    have e := HX.out
    rw [show p + n - p = n from by omega] at e
    rw [e]
    have hE := one_end hB hR (.int .i64 0) (str ((s.drop p).take n))
    refine bodyPost_ret (results_cell_row2 rfl _ _ (w.heap.size + 1) 68 #[.int .i64 0, str ((s.drop p).take n)] (0, 0) _ rfl hE.1 Try.underlying68 rfl (by kernel_rfl)) rfl ?_
    exact ⟨rfl, hE.2.drew⟩
/-- The reference's one, whole. -/
theorem one_any (s : List UInt8) (p k n : Int) (w : World) (h0 : 0 ≤ p) (hp : p ≤ s.length) (hs : s.length ≤ 9223372036854775000) (y : (Int × List UInt8) × Int × Int) (hy : oneV s p k n = y) :
    Calls Try.prog 67 #[str s, .int .i64 p, wn k n] w fun e w' => e = .returned (tup y) ∧ Below w.heap.size w w' := by
  obtain ⟨p, rfl⟩ : ∃ q : Nat, p = (q : Int) := ⟨p.toNat, by omega⟩
  subst hy
  unfold oneV
  rw [show ((p : Int)).toNat = p from rfl]
  by_cases h1 : k = 1
  · subst h1
    rw [if_pos rfl]
    split
    · exact one1_yes s p n w h0 hs (by assumption)
    · exact one1_no s p n w h0 hp hs (by omega)
  rw [if_neg h1]
  by_cases h2 : k = 2
  · subst h2
    rw [if_pos rfl]
    split
    · exact one2_yes s p n w h0 hp hs _ rfl (by assumption)
    · exact one2_no s p n w h0 hp hs _ rfl (by assumption)
  rw [if_neg h2]
  by_cases h3 : k = 3
  · subst h3
    rw [if_pos rfl]
    split
    · exact one3_yes s p n w h0 hp hs _ rfl (by assumption)
    · exact one3_no s p n w h0 hp hs _ rfl (by assumption)
  rw [if_neg h3]
  by_cases h4 : k = 4
  · subst h4
    rw [if_pos rfl]
    split
    · exact one4_neg s p n w h0 hp hs (by assumption)
    · split
      · exact one4_no s p n w h0 hp hs (by assumption) (by assumption)
      · obtain ⟨n, rfl⟩ : ∃ q : Nat, n = (q : Int) := ⟨n.toNat, by omega⟩
        exact one4_yes s p n w (by omega) hs
  rw [if_neg h4]
  by_cases h5 : k = 5
  · subst h5
    rw [if_pos rfl]
    exact one5_yes s p n w (by omega) hs
  rw [if_neg h5]
  by_cases h6 : k = 6
  · subst h6
    rw [if_pos rfl]
    split
    · exact one6_no s p n w h0 hp hs (by assumption)
    · exact one6_yes s p n w h0 hp hs (by omega)
  rw [if_neg h6]
  exact one_other s p k n w h0 hp hs h1 h2 h3 h4 h5 h6
end TakW
end Go.Proofs.Ytjdmbpkabeaccaa
