/- Walks over package take: one piece. -/
import Derived.Test.YtjdmbpkabeaccaaTakW
import Derived.Test.YtjdmbpkabeaccaaTakP
namespace Go.Proofs.Ytjdmbpkabeaccaa
set_option linter.unusedVariables false
set_option linter.unusedSimpArgs false
set_option linter.unnecessarySimpa false
open Go.RowKit
namespace TakW

abbrev wn (k n : Int) : Value := .agg #[.int .i64 k, .int .i64 n]
abbrev gt (n : Int) (t : List UInt8) : Value := .agg #[.int .i64 n, str t]

/-- The blocks that want makes ahead of its work. -/
theorem want_start {g : Nat} {cs : Array Value} {w : World} (h : Blk w g 102 cs) (k n : Int) :
    Blk ((w.alloc (.cells #[.int .i64 k, .int .i64 n] 62)).alloc (.cells #[.int .i64 0, .string ⟨#[]⟩] 68)) g 102 cs ∧
    Blk ((w.alloc (.cells #[.int .i64 k, .int .i64 n] 62)).alloc (.cells #[.int .i64 0, .string ⟨#[]⟩] 68)) w.heap.size 62 #[.int .i64 k, .int .i64 n] ∧
    Blk ((w.alloc (.cells #[.int .i64 k, .int .i64 n] 62)).alloc (.cells #[.int .i64 0, .string ⟨#[]⟩] 68)) (w.heap.size + 1) 68 #[.int .i64 0, str []] ∧
    w.grownBy ((w.alloc (.cells #[.int .i64 k, .int .i64 n] 62)).alloc (.cells #[.int .i64 0, .string ⟨#[]⟩] 68)) (some g) := by
  refine ⟨(h.alloc _).alloc _, (Blk.new _ _ _).alloc _, ?_, ?_⟩
  · have := Blk.new (w.alloc (.cells #[.int .i64 k, .int .i64 n] 62)) 68 #[.int .i64 0, str []]
    simpa using this
  · have hb : Below w.heap.size w ((w.alloc (.cells #[.int .i64 k, .int .i64 n] 62)).alloc (.cells #[.int .i64 0, .string ⟨#[]⟩] 68)) := (by first | exact Below.refl _ _ | (repeat (first | exact Below.refl _ _ | assumption | refine Below.drew ?_ | refine Below.drewN_ ?_ _ | refine Below.alloc ?_ (by first | exact Nat.le_refl _ | (simp; done) | (simp; omega) | omega) _ | refine Below.setCell ?_ (by first | exact Nat.le_refl _ | (simp; done) | (simp; omega) | omega) _ | (refine Below.trans ?_ (Below.mono (by assumption) (by first | exact Nat.le_refl _ | (simp; done) | (simp; omega) | omega))))))
    exact ⟨hb.os, hb.tape, hb.output, hb.size, fun k hk _ => hb.block k hk⟩

theorem left_end {w w0 w1 : World} {g : Nat} {s : List UInt8} {q : Int} (hG : w.grownBy w0 (some g)) (hL : Left w0 w1 g s q) (hlt : g < w.heap.size) (a b : Value) :
    Left w ((w1.setCell ⟨w.heap.size + 1, 0, none⟩ a).setCell ⟨w.heap.size + 1, 1, none⟩ b) g s q := by
  have hg := hG.trans hL.2
  refine ⟨(hL.1.far (by show g ≠ w.heap.size + 1; omega) _).far (by show g ≠ w.heap.size + 1; omega) _, hg.os, hg.tape, hg.output, by simpa [World.setCell] using hg.size, fun k hk hne => ?_⟩
  rw [Below.heap_setCell _ _ _ k (by show k ≠ w.heap.size + 1; omega), Below.heap_setCell _ _ _ k (by show k ≠ w.heap.size + 1; omega)]
  exact hg.block k hk hne

set_option maxHeartbeats 1000000 in
theorem want1_yes (g : Nat) (s t : List UInt8) (p q n v : Int) (w : World) (h : Blk w g 102 (tk s p))
    (C : ∀ w, Blk w g 102 (tk s p) → Calls Try.prog 37 #[.pointer (some ⟨g, 0, none⟩)] w fun e w' => e = .returned (.int .i64 v) ∧ Left w w' g s q) :
    Calls Try.prog 66 #[.pointer (some ⟨g, 0, none⟩), wn 1 n] w fun e w' => e = .returned (gt v []) ∧ Left w w' g s q := by
  have hlt := h.lt
  go_enter Try.func66, Try.ntmps66
  go_wp2_with fail
  obtain ⟨hB, hX, hR, hG⟩ := want_start h 1 n
  generalize (w.alloc (.cells #[.int .i64 1, .int .i64 n] 62)).alloc (.cells #[.int .i64 0, .string ⟨#[]⟩] 68) = w0 at *
  refine (C _ hB).mono ?_
  clear C
  rintro e w1 ⟨rfl, hL⟩
  replace hR := hR.grown hL.2 (by rw [Ne, Option.some.injEq]; omega)
  have hR' := hR
  obtain ⟨c0, c1, f0, f1, z⟩ := blk2 hR'
  clear hR'
  go_wp2_with fail
  have hE := left_end hG hL hlt (.int .i64 v) (str [])
  replace hR : Blk _ _ _ #[.int .i64 v, str []] := (hR.set 0 (.int .i64 v)).set 1 (str [])
  generalize (w1.setCell ⟨w.heap.size + 1, 0, none⟩ (.int .i64 v)).setCell ⟨w.heap.size + 1, 1, none⟩ (str []) = w2 at *
  clear c0 c1 f0 f1 z
  refine bodyPost_ret (results_cell_row rfl _ _ (w.heap.size + 1) 68 #[.int .i64 v, str []] (0, 0) _ rfl hR Try.underlying68 rfl (by kernel_rfl)) rfl ?_
  exact ⟨rfl, hE⟩
theorem want1_bad (g : Nat) (s : List UInt8) (p n er : Int) (w : World) (h : Blk w g 102 (tk s p))
    (C : ∀ w, Blk w g 102 (tk s p) → Calls Try.prog 37 #[.pointer (some ⟨g, 0, none⟩)] w fun e w' => e = .panicked (flt er p) ∧ Left w w' g s p) :
    Calls Try.prog 66 #[.pointer (some ⟨g, 0, none⟩), wn 1 n] w fun e w' => e = .panicked (flt er p) ∧ Left w w' g s p := by
  go_enter Try.func66, Try.ntmps66
  go_wp2_with fail
  obtain ⟨hB, hX, hR, hG⟩ := want_start h 1 n
  generalize (w.alloc (.cells #[.int .i64 1, .int .i64 n] 62)).alloc (.cells #[.int .i64 0, .string ⟨#[]⟩] 68) = w0 at *
  refine (C _ hB).mono ?_
  clear C
  rintro e w1 ⟨rfl, hL⟩
  go_wp2_with fail
  simp [bodyPost]
  exact ⟨hL.1, hG.trans hL.2⟩
set_option maxHeartbeats 1000000 in
theorem want2_yes (g : Nat) (s t : List UInt8) (p q n v : Int) (w : World) (h : Blk w g 102 (tk s p))
    (C : ∀ w, Blk w g 102 (tk s p) → Calls Try.prog 38 #[.pointer (some ⟨g, 0, none⟩)] w fun e w' => e = .returned (.int .i64 v) ∧ Left w w' g s q) :
    Calls Try.prog 66 #[.pointer (some ⟨g, 0, none⟩), wn 2 n] w fun e w' => e = .returned (gt v []) ∧ Left w w' g s q := by
  have hlt := h.lt
  go_enter Try.func66, Try.ntmps66
  go_wp2_with fail
  obtain ⟨hB, hX, hR, hG⟩ := want_start h 2 n
  generalize (w.alloc (.cells #[.int .i64 2, .int .i64 n] 62)).alloc (.cells #[.int .i64 0, .string ⟨#[]⟩] 68) = w0 at *
  refine (C _ hB).mono ?_
  clear C
  rintro e w1 ⟨rfl, hL⟩
  replace hR := hR.grown hL.2 (by rw [Ne, Option.some.injEq]; omega)
  have hR' := hR
  obtain ⟨c0, c1, f0, f1, z⟩ := blk2 hR'
  clear hR'
  go_wp2_with fail
  have hE := left_end hG hL hlt (.int .i64 v) (str [])
  replace hR : Blk _ _ _ #[.int .i64 v, str []] := (hR.set 0 (.int .i64 v)).set 1 (str [])
  generalize (w1.setCell ⟨w.heap.size + 1, 0, none⟩ (.int .i64 v)).setCell ⟨w.heap.size + 1, 1, none⟩ (str []) = w2 at *
  clear c0 c1 f0 f1 z
  refine bodyPost_ret (results_cell_row rfl _ _ (w.heap.size + 1) 68 #[.int .i64 v, str []] (0, 0) _ rfl hR Try.underlying68 rfl (by kernel_rfl)) rfl ?_
  exact ⟨rfl, hE⟩
theorem want2_bad (g : Nat) (s : List UInt8) (p n er : Int) (w : World) (h : Blk w g 102 (tk s p))
    (C : ∀ w, Blk w g 102 (tk s p) → Calls Try.prog 38 #[.pointer (some ⟨g, 0, none⟩)] w fun e w' => e = .panicked (flt er p) ∧ Left w w' g s p) :
    Calls Try.prog 66 #[.pointer (some ⟨g, 0, none⟩), wn 2 n] w fun e w' => e = .panicked (flt er p) ∧ Left w w' g s p := by
  go_enter Try.func66, Try.ntmps66
  go_wp2_with fail
  obtain ⟨hB, hX, hR, hG⟩ := want_start h 2 n
  generalize (w.alloc (.cells #[.int .i64 2, .int .i64 n] 62)).alloc (.cells #[.int .i64 0, .string ⟨#[]⟩] 68) = w0 at *
  refine (C _ hB).mono ?_
  clear C
  rintro e w1 ⟨rfl, hL⟩
  go_wp2_with fail
  simp [bodyPost]
  exact ⟨hL.1, hG.trans hL.2⟩
set_option maxHeartbeats 1000000 in
theorem want5_yes (g : Nat) (s t : List UInt8) (p q n v : Int) (w : World) (h : Blk w g 102 (tk s p))
    (C : ∀ w, Blk w g 102 (tk s p) → Calls Try.prog 41 #[.pointer (some ⟨g, 0, none⟩)] w fun e w' => e = .returned (str t) ∧ Left w w' g s q) :
    Calls Try.prog 66 #[.pointer (some ⟨g, 0, none⟩), wn 5 n] w fun e w' => e = .returned (gt 0 t) ∧ Left w w' g s q := by
  have hlt := h.lt
  go_enter Try.func66, Try.ntmps66
  go_wp2_with fail
  obtain ⟨hB, hX, hR, hG⟩ := want_start h 5 n
  generalize (w.alloc (.cells #[.int .i64 5, .int .i64 n] 62)).alloc (.cells #[.int .i64 0, .string ⟨#[]⟩] 68) = w0 at *
  refine (C _ hB).mono ?_
  clear C
  rintro e w1 ⟨rfl, hL⟩
  replace hR := hR.grown hL.2 (by rw [Ne, Option.some.injEq]; omega)
  have hR' := hR
  obtain ⟨c0, c1, f0, f1, z⟩ := blk2 hR'
  clear hR'
  go_wp2_with fail
  have hE := left_end hG hL hlt (.int .i64 0) (str t)
  replace hR : Blk _ _ _ #[.int .i64 0, str t] := (hR.set 0 (.int .i64 0)).set 1 (str t)
  generalize (w1.setCell ⟨w.heap.size + 1, 0, none⟩ (.int .i64 0)).setCell ⟨w.heap.size + 1, 1, none⟩ (str t) = w2 at *
  clear c0 c1 f0 f1 z
  refine bodyPost_ret (results_cell_row rfl _ _ (w.heap.size + 1) 68 #[.int .i64 0, str t] (0, 0) _ rfl hR Try.underlying68 rfl (by kernel_rfl)) rfl ?_
  exact ⟨rfl, hE⟩
theorem want5_bad (g : Nat) (s : List UInt8) (p n er : Int) (w : World) (h : Blk w g 102 (tk s p))
    (C : ∀ w, Blk w g 102 (tk s p) → Calls Try.prog 41 #[.pointer (some ⟨g, 0, none⟩)] w fun e w' => e = .panicked (flt er p) ∧ Left w w' g s p) :
    Calls Try.prog 66 #[.pointer (some ⟨g, 0, none⟩), wn 5 n] w fun e w' => e = .panicked (flt er p) ∧ Left w w' g s p := by
  go_enter Try.func66, Try.ntmps66
  go_wp2_with fail
  obtain ⟨hB, hX, hR, hG⟩ := want_start h 5 n
  generalize (w.alloc (.cells #[.int .i64 5, .int .i64 n] 62)).alloc (.cells #[.int .i64 0, .string ⟨#[]⟩] 68) = w0 at *
  refine (C _ hB).mono ?_
  clear C
  rintro e w1 ⟨rfl, hL⟩
  go_wp2_with fail
  simp [bodyPost]
  exact ⟨hL.1, hG.trans hL.2⟩
set_option maxHeartbeats 1000000 in
theorem want3_yes (g : Nat) (s t : List UInt8) (p q n v : Int) (w : World) (h : Blk w g 102 (tk s p))
    (C : ∀ w, Blk w g 102 (tk s p) → Calls Try.prog 39 #[.pointer (some ⟨g, 0, none⟩), .int .i64 n] w fun e w' => e = .returned (.int .i64 v) ∧ Left w w' g s q) :
    Calls Try.prog 66 #[.pointer (some ⟨g, 0, none⟩), wn 3 n] w fun e w' => e = .returned (gt v []) ∧ Left w w' g s q := by
  have hlt := h.lt
  go_enter Try.func66, Try.ntmps66
  go_wp2_with fail
  obtain ⟨hB, hX, hR, hG⟩ := want_start h 3 n
  generalize (w.alloc (.cells #[.int .i64 3, .int .i64 n] 62)).alloc (.cells #[.int .i64 0, .string ⟨#[]⟩] 68) = w0 at *
  refine (C _ hB).mono ?_
  clear C
  rintro e w1 ⟨rfl, hL⟩
  replace hR := hR.grown hL.2 (by rw [Ne, Option.some.injEq]; omega)
  have hR' := hR
  obtain ⟨c0, c1, f0, f1, z⟩ := blk2 hR'
  clear hR'
  go_wp2_with fail
  have hE := left_end hG hL hlt (.int .i64 v) (str [])
  replace hR : Blk _ _ _ #[.int .i64 v, str []] := (hR.set 0 (.int .i64 v)).set 1 (str [])
  generalize (w1.setCell ⟨w.heap.size + 1, 0, none⟩ (.int .i64 v)).setCell ⟨w.heap.size + 1, 1, none⟩ (str []) = w2 at *
  clear c0 c1 f0 f1 z
  refine bodyPost_ret (results_cell_row rfl _ _ (w.heap.size + 1) 68 #[.int .i64 v, str []] (0, 0) _ rfl hR Try.underlying68 rfl (by kernel_rfl)) rfl ?_
  exact ⟨rfl, hE⟩
theorem want3_bad (g : Nat) (s : List UInt8) (p n er : Int) (w : World) (h : Blk w g 102 (tk s p))
    (C : ∀ w, Blk w g 102 (tk s p) → Calls Try.prog 39 #[.pointer (some ⟨g, 0, none⟩), .int .i64 n] w fun e w' => e = .panicked (flt er p) ∧ Left w w' g s p) :
    Calls Try.prog 66 #[.pointer (some ⟨g, 0, none⟩), wn 3 n] w fun e w' => e = .panicked (flt er p) ∧ Left w w' g s p := by
  go_enter Try.func66, Try.ntmps66
  go_wp2_with fail
  obtain ⟨hB, hX, hR, hG⟩ := want_start h 3 n
  generalize (w.alloc (.cells #[.int .i64 3, .int .i64 n] 62)).alloc (.cells #[.int .i64 0, .string ⟨#[]⟩] 68) = w0 at *
  refine (C _ hB).mono ?_
  clear C
  rintro e w1 ⟨rfl, hL⟩
  go_wp2_with fail
  simp [bodyPost]
  exact ⟨hL.1, hG.trans hL.2⟩
set_option maxHeartbeats 1000000 in
theorem want4_yes (g : Nat) (s t : List UInt8) (p q n v : Int) (w : World) (h : Blk w g 102 (tk s p))
    (C : ∀ w, Blk w g 102 (tk s p) → Calls Try.prog 40 #[.pointer (some ⟨g, 0, none⟩), .int .i64 n] w fun e w' => e = .returned (str t) ∧ Left w w' g s q) :
    Calls Try.prog 66 #[.pointer (some ⟨g, 0, none⟩), wn 4 n] w fun e w' => e = .returned (gt 0 t) ∧ Left w w' g s q := by
  have hlt := h.lt
  go_enter Try.func66, Try.ntmps66
  go_wp2_with fail
  obtain ⟨hB, hX, hR, hG⟩ := want_start h 4 n
  generalize (w.alloc (.cells #[.int .i64 4, .int .i64 n] 62)).alloc (.cells #[.int .i64 0, .string ⟨#[]⟩] 68) = w0 at *
  refine (C _ hB).mono ?_
  clear C
  rintro e w1 ⟨rfl, hL⟩
  replace hR := hR.grown hL.2 (by rw [Ne, Option.some.injEq]; omega)
  have hR' := hR
  obtain ⟨c0, c1, f0, f1, z⟩ := blk2 hR'
  clear hR'
  go_wp2_with fail
  have hE := left_end hG hL hlt (.int .i64 0) (str t)
  replace hR : Blk _ _ _ #[.int .i64 0, str t] := (hR.set 0 (.int .i64 0)).set 1 (str t)
  generalize (w1.setCell ⟨w.heap.size + 1, 0, none⟩ (.int .i64 0)).setCell ⟨w.heap.size + 1, 1, none⟩ (str t) = w2 at *
  clear c0 c1 f0 f1 z
  refine bodyPost_ret (results_cell_row rfl _ _ (w.heap.size + 1) 68 #[.int .i64 0, str t] (0, 0) _ rfl hR Try.underlying68 rfl (by kernel_rfl)) rfl ?_
  exact ⟨rfl, hE⟩
theorem want4_bad (g : Nat) (s : List UInt8) (p n er : Int) (w : World) (h : Blk w g 102 (tk s p))
    (C : ∀ w, Blk w g 102 (tk s p) → Calls Try.prog 40 #[.pointer (some ⟨g, 0, none⟩), .int .i64 n] w fun e w' => e = .panicked (flt er p) ∧ Left w w' g s p) :
    Calls Try.prog 66 #[.pointer (some ⟨g, 0, none⟩), wn 4 n] w fun e w' => e = .panicked (flt er p) ∧ Left w w' g s p := by
  go_enter Try.func66, Try.ntmps66
  go_wp2_with fail
  obtain ⟨hB, hX, hR, hG⟩ := want_start h 4 n
  generalize (w.alloc (.cells #[.int .i64 4, .int .i64 n] 62)).alloc (.cells #[.int .i64 0, .string ⟨#[]⟩] 68) = w0 at *
  refine (C _ hB).mono ?_
  clear C
  rintro e w1 ⟨rfl, hL⟩
  go_wp2_with fail
  simp [bodyPost]
  exact ⟨hL.1, hG.trans hL.2⟩
set_option maxHeartbeats 1000000 in
theorem want6_yes (g : Nat) (s t : List UInt8) (p q n v : Int) (w : World) (h : Blk w g 102 (tk s p))
    (C : ∀ w, Blk w g 102 (tk s p) → Calls Try.prog 42 #[.pointer (some ⟨g, 0, none⟩)] w fun e w' => e = .returned (.tuple #[]) ∧ Left w w' g s q) :
    Calls Try.prog 66 #[.pointer (some ⟨g, 0, none⟩), wn 6 n] w fun e w' => e = .returned (gt 0 []) ∧ Left w w' g s q := by
  have hlt := h.lt
  go_enter Try.func66, Try.ntmps66
  go_wp2_with fail
  obtain ⟨hB, hX, hR, hG⟩ := want_start h 6 n
  generalize (w.alloc (.cells #[.int .i64 6, .int .i64 n] 62)).alloc (.cells #[.int .i64 0, .string ⟨#[]⟩] 68) = w0 at *
  refine (C _ hB).mono ?_
  clear C
  rintro e w1 ⟨rfl, hL⟩
  replace hR := hR.grown hL.2 (by rw [Ne, Option.some.injEq]; omega)
  have hR' := hR
  obtain ⟨c0, c1, f0, f1, z⟩ := blk2 hR'
  clear hR'
  go_wp2_with fail
  have hE := left_end hG hL hlt (.int .i64 0) (str [])
  replace hR : Blk _ _ _ #[.int .i64 0, str []] := (hR.set 0 (.int .i64 0)).set 1 (str [])
  generalize (w1.setCell ⟨w.heap.size + 1, 0, none⟩ (.int .i64 0)).setCell ⟨w.heap.size + 1, 1, none⟩ (str []) = w2 at *
  clear c0 c1 f0 f1 z
  refine bodyPost_ret (results_cell_row rfl _ _ (w.heap.size + 1) 68 #[.int .i64 0, str []] (0, 0) _ rfl hR Try.underlying68 rfl (by kernel_rfl)) rfl ?_
  exact ⟨rfl, hE⟩
theorem want6_bad (g : Nat) (s : List UInt8) (p n er : Int) (w : World) (h : Blk w g 102 (tk s p))
    (C : ∀ w, Blk w g 102 (tk s p) → Calls Try.prog 42 #[.pointer (some ⟨g, 0, none⟩)] w fun e w' => e = .panicked (flt er p) ∧ Left w w' g s p) :
    Calls Try.prog 66 #[.pointer (some ⟨g, 0, none⟩), wn 6 n] w fun e w' => e = .panicked (flt er p) ∧ Left w w' g s p := by
  go_enter Try.func66, Try.ntmps66
  go_wp2_with fail
  obtain ⟨hB, hX, hR, hG⟩ := want_start h 6 n
  generalize (w.alloc (.cells #[.int .i64 6, .int .i64 n] 62)).alloc (.cells #[.int .i64 0, .string ⟨#[]⟩] 68) = w0 at *
  refine (C _ hB).mono ?_
  clear C
  rintro e w1 ⟨rfl, hL⟩
  go_wp2_with fail
  simp [bodyPost]
  exact ⟨hL.1, hG.trans hL.2⟩
set_option maxHeartbeats 1000000 in
theorem want_other (g : Nat) (s : List UInt8) (p k n : Int) (w : World) (h : Blk w g 102 (tk s p)) (h1 : k ≠ 1) (h2 : k ≠ 2) (h3 : k ≠ 3) (h4 : k ≠ 4) (h5 : k ≠ 5) (h6 : k ≠ 6) :
    Calls Try.prog 66 #[.pointer (some ⟨g, 0, none⟩), wn k n] w fun e w' => e = .panicked (flt 2 p) ∧ Left w w' g s p := by
  have e1 : (k == 1) = false := by simpa using h1
  have e2 : (k == 2) = false := by simpa using h2
  have e3 : (k == 3) = false := by simpa using h3
  have e4 : (k == 4) = false := by simpa using h4
  have e5 : (k == 5) = false := by simpa using h5
  have e6 : (k == 6) = false := by simpa using h6
  clear h1 h2 h3 h4 h5 h6
  obtain ⟨hB, hX, hR, hG⟩ := want_start h k n
  have hL : Left w _ g s p := ⟨hB, hG⟩
  have hB' := hB
  obtain ⟨c0, c1, f0, f1, z⟩ := blk2 h
  clear hB' hX hR hG hB
  go_enter Try.func66, Try.ntmps66
  go_wp2_with fail
  simp [bodyPost]
  exact hL
/-- want, whole. -/
theorem want_ok (g : Nat) (s : List UInt8) (p k n : Int) (w : World) (h : Blk w g 102 (tk s p)) (h0 : 0 ≤ p) (hp : p ≤ s.length) (hs : s.length ≤ 9223372036854775807) (y : (Int × List UInt8) × Int × Int) (hy : oneV s p k n = y) (he : y.2.2 = 0) :
    Calls Try.prog 66 #[.pointer (some ⟨g, 0, none⟩), wn k n] w fun e w' => e = .returned (gt y.1.1 y.1.2) ∧ Left w w' g s y.2.1 := by
  obtain ⟨p, rfl⟩ : ∃ q : Nat, p = (q : Int) := ⟨p.toNat, by omega⟩
  subst hy
  revert he
  unfold oneV
  rw [show ((p : Int)).toNat = p from rfl]
  by_cases h1 : k = 1
  · subst h1
    rw [if_pos rfl]
    split
    · intro he
      exact want1_yes g s [] p _ n _ w h fun w h => byte_yes g s p w h (by assumption) hs
    · intro he; simp at he
  rw [if_neg h1]
  by_cases h2 : k = 2
  · subst h2
    rw [if_pos rfl]
    split
    · intro he
      exact want2_yes g s [] p _ n _ w h fun w h => num_yes g s p _ w h rfl (by assumption) hs
    · intro he; exact absurd he (by assumption)
  rw [if_neg h2]
  by_cases h3 : k = 3
  · subst h3
    rw [if_pos rfl]
    split
    · intro he
      exact want3_yes g s [] p _ n _ w h fun w h => fix_yes g s p n _ w h rfl (by assumption) hs
    · intro he; exact absurd he (by assumption)
  rw [if_neg h3]
  by_cases h4 : k = 4
  · subst h4
    rw [if_pos rfl]
    split
    · intro he; simp at he
    · split
      · intro he; simp at he
      · intro he
        obtain ⟨n, rfl⟩ : ∃ q : Nat, n = (q : Int) := ⟨n.toNat, by omega⟩
        exact want4_yes g s _ p _ n 0 w h fun w h => text_yes g s p n w h (by omega) hs
  rw [if_neg h4]
  by_cases h5 : k = 5
  · subst h5
    rw [if_pos rfl]
    intro he
    exact want5_yes g s _ p _ n 0 w h fun w h => rest_any g s p w h (by omega) hs
  rw [if_neg h5]
  by_cases h6 : k = 6
  · subst h6
    rw [if_pos rfl]
    split
    · intro he; simp at he
    · intro he
      exact want6_yes g s [] p _ n 0 w h fun w h => end_yes g s p w h (by omega) (by omega) hs
  rw [if_neg h6]
  intro he
  simp at he
theorem want_no (g : Nat) (s : List UInt8) (p k n : Int) (w : World) (h : Blk w g 102 (tk s p)) (h0 : 0 ≤ p) (hp : p ≤ s.length) (hs : s.length ≤ 9223372036854775807) (y : (Int × List UInt8) × Int × Int) (hy : oneV s p k n = y) (he : y.2.2 ≠ 0) :
    Calls Try.prog 66 #[.pointer (some ⟨g, 0, none⟩), wn k n] w fun e w' => e = .panicked (flt y.2.2 p) ∧ Left w w' g s p := by
  obtain ⟨p, rfl⟩ : ∃ q : Nat, p = (q : Int) := ⟨p.toNat, by omega⟩
  subst hy
  revert he
  unfold oneV
  rw [show ((p : Int)).toNat = p from rfl]
  by_cases h1 : k = 1
  · subst h1
    rw [if_pos rfl]
    split
    · intro he; simp at he
    · intro he
      exact want1_bad g s p n 4 w h fun w h => byte_short g s p w h (by omega) (by omega) hs
  rw [if_neg h1]
  by_cases h2 : k = 2
  · subst h2
    rw [if_pos rfl]
    split
    · intro he; simp at he
    · intro he
      exact want2_bad g s p n _ w h fun w h => num_bad g s p _ w h rfl (by assumption) hs
  rw [if_neg h2]
  by_cases h3 : k = 3
  · subst h3
    rw [if_pos rfl]
    split
    · intro he; simp at he
    · intro he
      exact want3_bad g s p n _ w h fun w h => fix_bad g s p n _ w h rfl (by assumption) hs
  rw [if_neg h3]
  by_cases h4 : k = 4
  · subst h4
    rw [if_pos rfl]
    split
    · intro he
      exact want4_bad g s p n _ w h fun w h => text_neg g s p n w h (by assumption)
    · split
      · intro he
        exact want4_bad g s p n _ w h fun w h => text_short g s p n w h (by omega) hs (by assumption) (by assumption)
      · intro he; simp at he
  rw [if_neg h4]
  by_cases h5 : k = 5
  · subst h5
    rw [if_pos rfl]
    intro he
    simp at he
  rw [if_neg h5]
  by_cases h6 : k = 6
  · subst h6
    rw [if_pos rfl]
    split
    · intro he
      exact want6_bad g s p n _ w h fun w h => end_bad g s p w h (by omega) hs
    · intro he; simp at he
  rw [if_neg h6]
  intro he
  exact want_other g s p k n w h h1 h2 h3 h4 h5 h6
end TakW
end Go.Proofs.Ytjdmbpkabeaccaa
