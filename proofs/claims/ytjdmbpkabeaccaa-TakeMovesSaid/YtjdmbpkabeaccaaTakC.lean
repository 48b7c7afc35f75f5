/- Walks over package take: the fault that is caught. -/
import Derived.Test.YtjdmbpkabeaccaaTakV
namespace Go.Proofs.Ytjdmbpkabeaccaa
set_option linter.unusedVariables false
set_option linter.unusedSimpArgs false
set_option linter.unnecessarySimpa false
open Go.RowKit
namespace TakW

theorem new_any (s : List UInt8) (w : World) :
    Calls Try.prog 36 #[str s] w fun e w' => e = .returned (.pointer (some ⟨w.heap.size, 0, none⟩)) ∧ w' = w.alloc (.cells (tk s 0) 102) := by
  go_enter Try.func36, Try.ntmps36
  go_wp2_with fail
  go_ret
  exact ⟨rfl, rfl⟩

theorem catch_idle (p q : Addr) (w : World) :
    CallsD Try.prog 73 #[.pointer (some p), .pointer (some q)] .returning w fun e u' w' => e = .returned (.tuple #[]) ∧ u' = .returning ∧ w' = w := by
  refine callsD_of_wpS Try.func73 rfl fun c₀ cs hu => ?_
  apply wpS_seq
  apply wpS_region
  simp [wpOpsS, go_sem, recoverD, hu, Try.ntmps73, Exit.thenS]
  simp only [List.size_toArray, Array.replicate_succ, Array.replicate_zero, List.push_toArray, List.append_toArray, List.nil_append, List.cons_append, List.setIfInBounds_toArray, List.set_cons_succ, List.set_cons_zero]
  refine wpS_of_wp ?_
  go_wp2_with fail
  cases c₀
  simp_all [bodyPostS, results, Try.results73]
/-- What the catcher leaves: the two result cells hold the fault; what was there else has not turned. -/
structure Fell (w w' : World) (p q : Nat) (er at_ : Int) : Prop where
  err : Blk w' p 22 #[.int .i64 er]
  place : Blk w' q 3 #[.int .i64 at_]
  os : w'.os = w.os
  tape : w'.tape = w.tape
  output : w'.output = w.output
  size : w.heap.size ≤ w'.heap.size
  block : ∀ k, k < w.heap.size → k ≠ p → k ≠ q → w'.heap[k]? = w.heap[k]?
theorem fell_of {w w0 : World} {p q : Nat} {a b er at_ : Int} (hb : Below w.heap.size w w0) (hP : Blk w0 p 22 #[.int .i64 a]) (hQ : Blk w0 q 3 #[.int .i64 b]) (hne : p ≠ q) :
    Fell w ((w0.setCell ⟨p, 0, none⟩ (.int .i64 er)).setCell ⟨q, 0, none⟩ (.int .i64 at_)).drew p q er at_ ∧ Fell w ((w0.setCell ⟨q, 0, none⟩ (.int .i64 at_)).setCell ⟨p, 0, none⟩ (.int .i64 er)).drew p q er at_ := by
  refine ⟨⟨((hP.set 0 _).far hne _).drew, ((hQ.far (fun e => hne e.symm) _).set 0 _).drew, hb.os, hb.tape, hb.output, by simpa [World.setCell, World.drew] using hb.size, fun k hk h1 h2 => ?_⟩,
    ⟨((hP.far hne _).set 0 _).drew, ((hQ.set 0 _).far (fun e => hne e.symm) _).drew, hb.os, hb.tape, hb.output, by simpa [World.setCell, World.drew] using hb.size, fun k hk h1 h2 => ?_⟩⟩
  · show ((w0.setCell ⟨p, 0, none⟩ (.int .i64 er)).setCell ⟨q, 0, none⟩ (.int .i64 at_)).heap[k]? = _
    rw [Below.heap_setCell _ _ _ k h2, Below.heap_setCell _ _ _ k h1]
    exact hb.block k hk
  · show ((w0.setCell ⟨q, 0, none⟩ (.int .i64 at_)).setCell ⟨p, 0, none⟩ (.int .i64 er)).heap[k]? = _
    rw [Below.heap_setCell _ _ _ k h1, Below.heap_setCell _ _ _ k h2]
    exact hb.block k hk
theorem assert_fault (W : World) (v : Value) : (Instr.typeAssert (.iface 115 v) 20 115 true).run Try.prog W = .ok (.tuple #[v, .bool true]) W := by kernel_rfl
set_option maxRecDepth 100000 in
set_option maxHeartbeats 1000000 in
theorem catch_fault (p q : Nat) (a b er at_ : Int) (w : World) (older : List PanicEntry) (hp : Blk w p 22 #[.int .i64 a]) (hq : Blk w q 3 #[.int .i64 b]) (hne : p ≠ q) :
    CallsD Try.prog 73 #[.pointer (some ⟨p, 0, none⟩), .pointer (some ⟨q, 0, none⟩)] (.panicking ({ v := .iface 115 (.agg #[.int .i64 er, .int .i64 at_]), recovered := false } :: older)) w fun e u' w' =>
      e = .returned (.tuple #[]) ∧ u' = .panicking ({ v := .iface 115 (.agg #[.int .i64 er, .int .i64 at_]), recovered := true } :: older) ∧
      Fell w w' p q er at_ := by
  refine callsD_of_wpS Try.func73 rfl fun c₀ cs hu => ?_
  apply wpS_seq
  apply wpS_region
  simp [wpOpsS, go_sem, recoverD, hu, Try.ntmps73, Exit.thenS]
  simp only [List.size_toArray, Array.replicate_succ, Array.replicate_zero, List.push_toArray, List.append_toArray, List.nil_append, List.cons_append, List.setIfInBounds_toArray, List.set_cons_succ, List.set_cons_zero]
  clear hu
  have ta := assert_fault
  obtain ⟨pc, pf, pz⟩ := blk1 hp
  obtain ⟨qc, qf, qz⟩ := blk1 hq
  refine wpS_of_wp ?_
  go_wp2_with fail
  have hF : Blk (w.alloc (.cells #[.int .i64 er, .int .i64 at_] 115)) w.heap.size 115 #[.int .i64 er, .int .i64 at_] := Blk.new _ _ _
  have hP := hp.alloc (.cells #[.int .i64 er, .int .i64 at_] 115)
  have hQ := hq.alloc (.cells #[.int .i64 er, .int .i64 at_] 115)
  have hb : Below w.heap.size w (w.alloc (.cells #[.int .i64 er, .int .i64 at_] 115)) := (by first | exact Below.refl _ _ | (repeat (first | exact Below.refl _ _ | assumption | refine Below.drew ?_ | refine Below.drewN_ ?_ _ | refine Below.alloc ?_ (by first | exact Nat.le_refl _ | (simp; done) | (simp; omega) | omega) _ | refine Below.setCell ?_ (by first | exact Nat.le_refl _ | (simp; done) | (simp; omega) | omega) _ | (refine Below.trans ?_ (Below.mono (by assumption) (by first | exact Nat.le_refl _ | (simp; done) | (simp; omega) | omega))))))
  generalize w.alloc (.cells #[.int .i64 er, .int .i64 at_] 115) = w0 at *
  clear pc pf qc qf ta hp hq
  obtain ⟨pc, pf, _⟩ := blk1 hP
  obtain ⟨qc, qf, _⟩ := blk1 hQ
  obtain ⟨c0, c1, f0, f1, _⟩ := blk2 hF
  have hqp : q ≠ p := fun e => hne e.symm
  have hpw : p ≠ w.heap.size := by omega
  have hqw : q ≠ w.heap.size := by omega
  have hwp : w.heap.size ≠ p := by omega
  have hwq : w.heap.size ≠ q := by omega
  go_region
  all_goals
    go_wp2_with fail
    have HF := fell_of (er := er) (at_ := at_) hb hP hQ hne
    first
    | exact ⟨rfl, _, rfl, _, results_none rfl _ _ _, rfl, rfl, HF.1⟩
    | exact ⟨rfl, _, rfl, _, results_none rfl _ _ _, rfl, rfl, HF.2⟩
theorem caught_no (cap : Array Value) (er at_ : Int) (w : World) (R : World → Prop)
    (hR : ∀ w1, R w1 → Blk w1 w.heap.size 22 #[.int .i64 0] ∧ Blk w1 (w.heap.size + 1) 3 #[.int .i64 0])
    (C : Calls Try.prog 65 cap ((w.alloc (.cells #[.int .i64 0] 22)).alloc (.cells #[.int .i64 0] 3)) fun e w1 => e = .panicked (flt er at_) ∧ R w1) :
    Calls Try.prog 64 #[.func (.func 65) #[] cap] w fun e w' => e = .returned (.tuple #[.int .i64 er, .int .i64 at_]) ∧ ∃ w1, R w1 ∧ Fell w1 w' w.heap.size (w.heap.size + 1) er at_ := by
  have hmf : ∀ (fn : Fn) (first cap : Array Value) (w : World), (Instr.makeFunc fn first cap).run Try.prog w = .ok (.func fn first cap) w := fun _ _ _ _ => rfl
  go_enter_defers Try.func64, Try.ntmps64
  go_wp2_with fail
  refine C.mono ?_
  clear C
  rintro e w1 ⟨rfl, hr⟩
  obtain ⟨hP, hQ⟩ := hR w1 hr
  go_wp2_with fail
  refine leaves_cons (f := 73) (args := #[.pointer (some ⟨w.heap.size, 0, none⟩), .pointer (some ⟨w.heap.size + 1, 0, none⟩)]) (by simp) (by simp [go_sem]) ?_
  refine (catch_fault w.heap.size (w.heap.size + 1) 0 0 er at_ w1 [] hP hQ (by omega)).mono ?_
  rintro e u' w2 ⟨rfl, rfl, hF⟩
  obtain ⟨pc, pf, pz⟩ := blk1 hF.err
  obtain ⟨qc, qf, qz⟩ := blk1 hF.place
  simp [Leaves, settle, results, Try.results64, go_sem, pc, qc]
  exact ⟨w1, hr, hF⟩
theorem caught_ok (cap : Array Value) (w : World) (R : World → Prop)
    (hR : ∀ w1, R w1 → Blk w1 w.heap.size 22 #[.int .i64 0] ∧ Blk w1 (w.heap.size + 1) 3 #[.int .i64 0])
    (C : Calls Try.prog 65 cap ((w.alloc (.cells #[.int .i64 0] 22)).alloc (.cells #[.int .i64 0] 3)) fun e w1 => e = .returned (.tuple #[]) ∧ R w1) :
    Calls Try.prog 64 #[.func (.func 65) #[] cap] w fun e w' => e = .returned (.tuple #[.int .i64 0, .int .i64 0]) ∧ ∃ w1, R w1 ∧ Fell w1 w' w.heap.size (w.heap.size + 1) 0 0 := by
  have hmf : ∀ (fn : Fn) (first cap : Array Value) (w : World), (Instr.makeFunc fn first cap).run Try.prog w = .ok (.func fn first cap) w := fun _ _ _ _ => rfl
  go_enter_defers Try.func64, Try.ntmps64
  go_wp2_with fail
  refine C.mono ?_
  clear C
  rintro e w1 ⟨rfl, hr⟩
  obtain ⟨hP, hQ⟩ := hR w1 hr
  obtain ⟨pc, pf, pz⟩ := blk1 hP
  obtain ⟨qc, qf, qz⟩ := blk1 hQ
  go_wp2_with fail
  refine leaves_cons (f := 73) (args := #[.pointer (some ⟨w.heap.size, 0, none⟩), .pointer (some ⟨w.heap.size + 1, 0, none⟩)]) (by simp) (by simp [go_sem]) ?_
  refine (catch_idle _ _ _).mono ?_
  rintro e u' w2 ⟨rfl, rfl, rfl⟩
  have hF := (fell_of (er := 0) (at_ := 0) (Below.refl w1.heap.size w1) hP hQ (by omega)).1
  simp [Leaves, settle, results, Try.results64, go_sem, pc, qc]
  exact ⟨w1, hr, ⟨hF.err, hF.place, hF.os, hF.tape, hF.output, hF.size, hF.block⟩⟩
end TakW
end Go.Proofs.Ytjdmbpkabeaccaa
