/- Walks of the reference of package sieve: a block may have a record that meets a part. -/
import Derived.Test.YtdeiehgghhiijaaGreatDoorSieZ
import Derived.Test.YtdeiehgghhiijaaGreatDoorSpanP
namespace Go.Proofs.YtdeiehgghhiijaaGreatDoor
set_option linter.unusedVariables false
set_option linter.unusedSimpArgs false
set_option linter.unnecessarySimpa false
open Go.RowKit
namespace SieW
open WanW (w64k)
open SkpW (Me mc sM tM)
open SpanW (R rv meetsB withinB)

def RMa (m : Me) (nd : Nd) : Prop := ∀ (no : Bool) (A : Option Addr) (n c : Nat) (sz dp : Int) (ps : List RP) (k : Nat) (S : Nat → Prop) (w : World), PsAt w S A n ps → Rep ps nd k →
  Calls Tryz.prog 10 #[.agg #[.slice A n c, .int .i64 sz, .int .i64 dp], .int .i64 k, .agg (mc m), .bool no] w fun e w' => e = .returned (.bool (mayN (sM m.count m.first) (tM m.count m.early m.late) nd (!no))) ∧ Below w.heap.size w w'
theorem mayRef (p q : R) (v : Bool) (h : meetsB p q = v) (w : World) : Calls Tryz.prog 28 #[rv p, rv q] w fun e w' => e = .returned (.bool v) ∧ Below w.heap.size w w' := by
  rw [← h, SpanW.meets_eq]
  exact SpanW.refMeets_any p q w
theorem withinRef (p q : R) (v : Bool) (h : withinB p q = v) (w : World) : Calls Tryz.prog 27 #[rv p, rv q] w fun e w' => e = .returned (.bool v) ∧ Below w.heap.size w w' := by
  rw [← h, SpanW.within_eq]
  exact SpanW.refWithin_any p q w
theorem blk7 {w : World} {g : Nat} {t : TypeId} {a0 a1 a2 a3 a4 a5 a6 : Value} (h : Blk w g t #[a0, a1, a2, a3, a4, a5, a6]) :
    w.cell? ⟨g, 0, none⟩ = some a0 ∧ w.cell? ⟨g, 1, none⟩ = some a1 ∧ w.cell? ⟨g, 2, none⟩ = some a2 ∧ w.cell? ⟨g, 3, none⟩ = some a3 ∧ w.cell? ⟨g, 4, none⟩ = some a4 ∧ w.cell? ⟨g, 5, none⟩ = some a5 ∧ w.cell? ⟨g, 6, none⟩ = some a6 :=
  ⟨h.cell_ 0 rfl, h.cell_ 1 rfl, h.cell_ 2 rfl, h.cell_ 3 rfl, h.cell_ 4 rfl, h.cell_ 5 rfl, h.cell_ 6 rfl⟩
set_option maxRecDepth 100000 in
set_option maxHeartbeats 8000000 in
theorem rma_has (m : Me) (hc : I64 m.count) (hf : I64 m.first) (u : List UInt8) : RMa m (.has u) := by
  intro no A n c sz dp ps k S w hp hr
  obtain ⟨sq, hsq⟩ : ∃ x, sM m.count m.first = x := ⟨_, rfl⟩
  obtain ⟨tk, htk⟩ : ∃ x, tM m.count m.early m.late = x := ⟨_, rfl⟩
  rw [hsq, htk]
  have hr : ps[k]? = some ⟨sHas, 0, 0, u, []⟩ := hr
  obtain ⟨b, o, v, rfl, hS, hb, c0, c1, c2, c3, c4, hof⟩ := hp.at_ hr
  obtain ⟨A3, n3, c3', rfl, hn3, hm3, r3⟩ := hof
  have hln := hp.len
  have hkn : k < n := by have := (List.getElem?_eq_some_iff.1 hr).1; omega
  have hkI : (k : Int) < (n : Int) := by omega
  have hk0 : (0 : Int) ≤ (k : Int) := by omega
  have hne : b ≠ w.heap.size := by omega
  have hne2 : b ≠ w.heap.size + 1 := by omega
  have Q := Asked.new w 25 #[.slice (some ⟨b, o, none⟩) n c, .int .i64 sz, .int .i64 dp] (mc m) ⟨sHas, 0, 0, u, []⟩ (.slice A3 n3 c3')
  have Qz := Q.hz
  have HB := Q.bel
  clear hln hp hr
  obtain ⟨w1, hw1⟩ : ∃ w1, ((w.alloc (.cells #[.slice (some ⟨b, o, none⟩) n c, .int .i64 sz, .int .i64 dp] 33)).alloc (.cells (mc m) 25)).alloc (.cells (pv sHas 0 0 u (.slice A3 n3 c3')) 71) = w1 := ⟨_, rfl⟩
  dsimp only at Q HB Qz
  rw [hw1] at Q HB Qz
  obtain ⟨x0, x1, x2, _⟩ := blk3 Q.b1
  obtain ⟨y0, y1, y2, y3, y4, y5, y6⟩ := blk7 Q.b2
  obtain ⟨z0, z1, z2, z3, z4, _⟩ := blk5 Q.b3
  go_enter Tryz.func10, Tryz.ntmps10
  go_wp2_with fail
  refine (SkpW.rseqs_any m w1 hc hf).mono ?_
  rintro e w2 ⟨rfl, hb2⟩
  rw [hsq]
  have Q2 := Q.below hb2
  have HB2 := Q2.bel
  have Q2z := Q2.hz
  have Q3 := Q2.below (w' := w2.alloc (.cells #[.int .i64 sq.1, .int .i64 sq.2] 68)) ((Below.refl _ w2).alloc (Nat.le_refl _) _)
  have R3 := Blk.new w2 68 #[.int .i64 sq.1, .int .i64 sq.2]
  have HB3 := Q3.bel
  have Q3z := Q3.hz
  clear x0 x1 x2 y0 y1 y2 y3 y4 y5 y6 z0 z1 z2 z3 z4
  obtain ⟨w3, hw3⟩ : ∃ w3, w2.alloc (.cells #[.int .i64 sq.1, .int .i64 sq.2] 68) = w3 := ⟨_, rfl⟩
  rw [hw3] at Q3 R3 HB3 Q3z
  have hz23 : w2.heap.size + 1 ≤ w3.heap.size := by have := R3.lt; omega
  obtain ⟨x0, x1, x2, _⟩ := blk3 Q3.b1
  obtain ⟨y0, y1, y2, y3, y4, y5, y6⟩ := blk7 Q3.b2
  obtain ⟨z0, z1, z2, z3, z4, _⟩ := blk5 Q3.b3
  obtain ⟨r0, r1, g0, g1, _⟩ := blk2 R3
  go_wp2_with fail
  go_ret
  exact ⟨rfl, HB3⟩
set_option maxRecDepth 100000 in
set_option maxHeartbeats 8000000 in
theorem rma_all (m : Me) (hc : I64 m.count) (hf : I64 m.first)  : RMa m .all := by
  intro no A n c sz dp ps k S w hp hr
  obtain ⟨sq, hsq⟩ : ∃ x, sM m.count m.first = x := ⟨_, rfl⟩
  obtain ⟨tk, htk⟩ : ∃ x, tM m.count m.early m.late = x := ⟨_, rfl⟩
  rw [hsq, htk]
  have hr : ps[k]? = some ⟨sAll, 0, 0, [], []⟩ := hr
  obtain ⟨b, o, v, rfl, hS, hb, c0, c1, c2, c3, c4, hof⟩ := hp.at_ hr
  obtain ⟨A3, n3, c3', rfl, hn3, hm3, r3⟩ := hof
  have hln := hp.len
  have hkn : k < n := by have := (List.getElem?_eq_some_iff.1 hr).1; omega
  have hkI : (k : Int) < (n : Int) := by omega
  have hk0 : (0 : Int) ≤ (k : Int) := by omega
  have hne : b ≠ w.heap.size := by omega
  have hne2 : b ≠ w.heap.size + 1 := by omega
  have Q := Asked.new w 25 #[.slice (some ⟨b, o, none⟩) n c, .int .i64 sz, .int .i64 dp] (mc m) ⟨sAll, 0, 0, [], []⟩ (.slice A3 n3 c3')
  have Qz := Q.hz
  have HB := Q.bel
  clear hln hp hr
  obtain ⟨w1, hw1⟩ : ∃ w1, ((w.alloc (.cells #[.slice (some ⟨b, o, none⟩) n c, .int .i64 sz, .int .i64 dp] 33)).alloc (.cells (mc m) 25)).alloc (.cells (pv sAll 0 0 [] (.slice A3 n3 c3')) 71) = w1 := ⟨_, rfl⟩
  dsimp only at Q HB Qz
  rw [hw1] at Q HB Qz
  obtain ⟨x0, x1, x2, _⟩ := blk3 Q.b1
  obtain ⟨y0, y1, y2, y3, y4, y5, y6⟩ := blk7 Q.b2
  obtain ⟨z0, z1, z2, z3, z4, _⟩ := blk5 Q.b3
  cases no
  all_goals
    go_enter Tryz.func10, Tryz.ntmps10
    go_wp2_with fail
    refine (SkpW.rseqs_any m w1 hc hf).mono ?_
    rintro e w2 ⟨rfl, hb2⟩
    rw [hsq]
    have Q2 := Q.below hb2
    have HB2 := Q2.bel
    have Q2z := Q2.hz
    have Q3 := Q2.below (w' := w2.alloc (.cells #[.int .i64 sq.1, .int .i64 sq.2] 68)) ((Below.refl _ w2).alloc (Nat.le_refl _) _)
    have R3 := Blk.new w2 68 #[.int .i64 sq.1, .int .i64 sq.2]
    have HB3 := Q3.bel
    have Q3z := Q3.hz
    clear x0 x1 x2 y0 y1 y2 y3 y4 y5 y6 z0 z1 z2 z3 z4
    obtain ⟨w3, hw3⟩ : ∃ w3, w2.alloc (.cells #[.int .i64 sq.1, .int .i64 sq.2] 68) = w3 := ⟨_, rfl⟩
    rw [hw3] at Q3 R3 HB3 Q3z
    have hz23 : w2.heap.size + 1 ≤ w3.heap.size := by have := R3.lt; omega
    obtain ⟨x0, x1, x2, _⟩ := blk3 Q3.b1
    obtain ⟨y0, y1, y2, y3, y4, y5, y6⟩ := blk7 Q3.b2
    obtain ⟨z0, z1, z2, z3, z4, _⟩ := blk5 Q3.b3
    obtain ⟨r0, r1, g0, g1, _⟩ := blk2 R3
    go_wp2_with fail
    go_ret
    exact ⟨rfl, HB3⟩
set_option maxRecDepth 100000 in
set_option maxHeartbeats 8000000 in
theorem rma_size (m : Me) (hc : I64 m.count) (hf : I64 m.first) (lo hi : Int) : RMa m (.within 2 lo hi) := by
  intro no A n c sz dp ps k S w hp hr
  obtain ⟨sq, hsq⟩ : ∃ x, sM m.count m.first = x := ⟨_, rfl⟩
  obtain ⟨tk, htk⟩ : ∃ x, tM m.count m.early m.late = x := ⟨_, rfl⟩
  rw [hsq, htk]
  have hr : ps[k]? = some ⟨sSize, lo, hi, [], []⟩ := hr
  obtain ⟨b, o, v, rfl, hS, hb, c0, c1, c2, c3, c4, hof⟩ := hp.at_ hr
  obtain ⟨A3, n3, c3', rfl, hn3, hm3, r3⟩ := hof
  have hln := hp.len
  have hkn : k < n := by have := (List.getElem?_eq_some_iff.1 hr).1; omega
  have hkI : (k : Int) < (n : Int) := by omega
  have hk0 : (0 : Int) ≤ (k : Int) := by omega
  have hne : b ≠ w.heap.size := by omega
  have hne2 : b ≠ w.heap.size + 1 := by omega
  have Q := Asked.new w 25 #[.slice (some ⟨b, o, none⟩) n c, .int .i64 sz, .int .i64 dp] (mc m) ⟨sSize, lo, hi, [], []⟩ (.slice A3 n3 c3')
  have Qz := Q.hz
  have HB := Q.bel
  clear hln hp hr
  obtain ⟨w1, hw1⟩ : ∃ w1, ((w.alloc (.cells #[.slice (some ⟨b, o, none⟩) n c, .int .i64 sz, .int .i64 dp] 33)).alloc (.cells (mc m) 25)).alloc (.cells (pv sSize lo hi [] (.slice A3 n3 c3')) 71) = w1 := ⟨_, rfl⟩
  dsimp only at Q HB Qz
  rw [hw1] at Q HB Qz
  obtain ⟨x0, x1, x2, _⟩ := blk3 Q.b1
  obtain ⟨y0, y1, y2, y3, y4, y5, y6⟩ := blk7 Q.b2
  obtain ⟨z0, z1, z2, z3, z4, _⟩ := blk5 Q.b3
  go_enter Tryz.func10, Tryz.ntmps10
  go_wp2_with fail
  refine (SkpW.rseqs_any m w1 hc hf).mono ?_
  rintro e w2 ⟨rfl, hb2⟩
  rw [hsq]
  have Q2 := Q.below hb2
  have HB2 := Q2.bel
  have Q2z := Q2.hz
  have Q3 := Q2.below (w' := w2.alloc (.cells #[.int .i64 sq.1, .int .i64 sq.2] 68)) ((Below.refl _ w2).alloc (Nat.le_refl _) _)
  have R3 := Blk.new w2 68 #[.int .i64 sq.1, .int .i64 sq.2]
  have HB3 := Q3.bel
  have Q3z := Q3.hz
  clear x0 x1 x2 y0 y1 y2 y3 y4 y5 y6 z0 z1 z2 z3 z4
  obtain ⟨w3, hw3⟩ : ∃ w3, w2.alloc (.cells #[.int .i64 sq.1, .int .i64 sq.2] 68) = w3 := ⟨_, rfl⟩
  rw [hw3] at Q3 R3 HB3 Q3z
  have hz23 : w2.heap.size + 1 ≤ w3.heap.size := by have := R3.lt; omega
  obtain ⟨x0, x1, x2, _⟩ := blk3 Q3.b1
  obtain ⟨y0, y1, y2, y3, y4, y5, y6⟩ := blk7 Q3.b2
  obtain ⟨z0, z1, z2, z3, z4, _⟩ := blk5 Q3.b3
  obtain ⟨r0, r1, g0, g1, _⟩ := blk2 R3
  go_wp2_with fail
  go_ret
  exact ⟨rfl, HB3⟩
set_option maxRecDepth 100000 in
set_option maxHeartbeats 8000000 in
theorem rma_seq (m : Me) (hc : I64 m.count) (hf : I64 m.first) (lo hi : Int) : RMa m (.within 0 lo hi) := by
  intro no A n c sz dp ps k S w hp hr
  obtain ⟨sq, hsq⟩ : ∃ x, sM m.count m.first = x := ⟨_, rfl⟩
  obtain ⟨tk, htk⟩ : ∃ x, tM m.count m.early m.late = x := ⟨_, rfl⟩
  rw [hsq, htk]
  have hr : ps[k]? = some ⟨sSeq, lo, hi, [], []⟩ := hr
  obtain ⟨b, o, v, rfl, hS, hb, c0, c1, c2, c3, c4, hof⟩ := hp.at_ hr
  obtain ⟨A3, n3, c3', rfl, hn3, hm3, r3⟩ := hof
  have hln := hp.len
  have hkn : k < n := by have := (List.getElem?_eq_some_iff.1 hr).1; omega
  have hkI : (k : Int) < (n : Int) := by omega
  have hk0 : (0 : Int) ≤ (k : Int) := by omega
  have hne : b ≠ w.heap.size := by omega
  have hne2 : b ≠ w.heap.size + 1 := by omega
  have Q := Asked.new w 25 #[.slice (some ⟨b, o, none⟩) n c, .int .i64 sz, .int .i64 dp] (mc m) ⟨sSeq, lo, hi, [], []⟩ (.slice A3 n3 c3')
  have Qz := Q.hz
  have HB := Q.bel
  clear hln hp hr
  obtain ⟨w1, hw1⟩ : ∃ w1, ((w.alloc (.cells #[.slice (some ⟨b, o, none⟩) n c, .int .i64 sz, .int .i64 dp] 33)).alloc (.cells (mc m) 25)).alloc (.cells (pv sSeq lo hi [] (.slice A3 n3 c3')) 71) = w1 := ⟨_, rfl⟩
  dsimp only at Q HB Qz
  rw [hw1] at Q HB Qz
  obtain ⟨x0, x1, x2, _⟩ := blk3 Q.b1
  obtain ⟨y0, y1, y2, y3, y4, y5, y6⟩ := blk7 Q.b2
  obtain ⟨z0, z1, z2, z3, z4, _⟩ := blk5 Q.b3
  have HN : Hid (∀ yes, mayN sq tk (.within 0 lo hi) yes = if yes = true then meetsB sq (lo, hi) else !withinB sq (lo, hi)) := Lib.hid (fun yes => by simp [mayN])
  obtain ⟨bm, hbm⟩ : ∃ x, meetsB sq (lo, hi) = x := ⟨_, rfl⟩
  obtain ⟨bw, hbw⟩ : ∃ x, withinB sq (lo, hi) = x := ⟨_, rfl⟩
  rw [hbm, hbw] at HN
  have HM := Lib.hid hbm
  have HWI := Lib.hid hbw
  clear hbm hbw
  have hq1 : (sSeq == [115, 101, 113]) = true := by decide
  have hq2 : (sTick == [116, 105, 99, 107]) = true := by decide
  have hq3 : (sSeq == [116, 105, 99, 107]) = false := by decide
  cases no
  · go_enter Tryz.func10, Tryz.ntmps10
    go_wp2_with fail
    refine (SkpW.rseqs_any m w1 hc hf).mono ?_
    rintro e w2 ⟨rfl, hb2⟩
    rw [hsq]
    have Q2 := Q.below hb2
    have HB2 := Q2.bel
    have Q2z := Q2.hz
    have Q3 := Q2.below (w' := w2.alloc (.cells #[.int .i64 sq.1, .int .i64 sq.2] 68)) ((Below.refl _ w2).alloc (Nat.le_refl _) _)
    have R3 := Blk.new w2 68 #[.int .i64 sq.1, .int .i64 sq.2]
    have HB3 := Q3.bel
    have Q3z := Q3.hz
    clear x0 x1 x2 y0 y1 y2 y3 y4 y5 y6 z0 z1 z2 z3 z4
    obtain ⟨w3, hw3⟩ : ∃ w3, w2.alloc (.cells #[.int .i64 sq.1, .int .i64 sq.2] 68) = w3 := ⟨_, rfl⟩
    rw [hw3] at Q3 R3 HB3 Q3z
    have hz23 : w2.heap.size + 1 ≤ w3.heap.size := by have := R3.lt; omega
    obtain ⟨x0, x1, x2, _⟩ := blk3 Q3.b1
    obtain ⟨y0, y1, y2, y3, y4, y5, y6⟩ := blk7 Q3.b2
    obtain ⟨z0, z1, z2, z3, z4, _⟩ := blk5 Q3.b3
    obtain ⟨r0, r1, g0, g1, _⟩ := blk2 R3
    go_wp2_with fail
    refine (mayRef sq (lo, hi) bm HM.out w3).mono ?_
    rintro e w6 ⟨rfl, hb6⟩
    go_wp2_with fail
    go_ret
    exact ⟨ret_bool (by rw [HN.out]; rfl), HB3.trans (hb6.mono HB3.size)⟩
  · go_enter Tryz.func10, Tryz.ntmps10
    go_wp2_with fail
    refine (SkpW.rseqs_any m w1 hc hf).mono ?_
    rintro e w2 ⟨rfl, hb2⟩
    rw [hsq]
    have Q2 := Q.below hb2
    have HB2 := Q2.bel
    have Q2z := Q2.hz
    have Q3 := Q2.below (w' := w2.alloc (.cells #[.int .i64 sq.1, .int .i64 sq.2] 68)) ((Below.refl _ w2).alloc (Nat.le_refl _) _)
    have R3 := Blk.new w2 68 #[.int .i64 sq.1, .int .i64 sq.2]
    have HB3 := Q3.bel
    have Q3z := Q3.hz
    clear x0 x1 x2 y0 y1 y2 y3 y4 y5 y6 z0 z1 z2 z3 z4
    obtain ⟨w3, hw3⟩ : ∃ w3, w2.alloc (.cells #[.int .i64 sq.1, .int .i64 sq.2] 68) = w3 := ⟨_, rfl⟩
    rw [hw3] at Q3 R3 HB3 Q3z
    have hz23 : w2.heap.size + 1 ≤ w3.heap.size := by have := R3.lt; omega
    obtain ⟨x0, x1, x2, _⟩ := blk3 Q3.b1
    obtain ⟨y0, y1, y2, y3, y4, y5, y6⟩ := blk7 Q3.b2
    obtain ⟨z0, z1, z2, z3, z4, _⟩ := blk5 Q3.b3
    obtain ⟨r0, r1, g0, g1, _⟩ := blk2 R3
    go_wp2_with fail
    refine (withinRef sq (lo, hi) bw HWI.out w3).mono ?_
    rintro e w6 ⟨rfl, hb6⟩
    go_wp2_with fail
    go_ret
    exact ⟨ret_bool (by rw [HN.out]; rfl), HB3.trans (hb6.mono HB3.size)⟩
set_option maxRecDepth 100000 in
set_option maxHeartbeats 8000000 in
theorem rma_tick (m : Me) (hc : I64 m.count) (hf : I64 m.first) (lo hi : Int) : RMa m (.within 1 lo hi) := by
  intro no A n c sz dp ps k S w hp hr
  obtain ⟨sq, hsq⟩ : ∃ x, sM m.count m.first = x := ⟨_, rfl⟩
  obtain ⟨tk, htk⟩ : ∃ x, tM m.count m.early m.late = x := ⟨_, rfl⟩
  rw [hsq, htk]
  have hr : ps[k]? = some ⟨sTick, lo, hi, [], []⟩ := hr
  obtain ⟨b, o, v, rfl, hS, hb, c0, c1, c2, c3, c4, hof⟩ := hp.at_ hr
  obtain ⟨A3, n3, c3', rfl, hn3, hm3, r3⟩ := hof
  have hln := hp.len
  have hkn : k < n := by have := (List.getElem?_eq_some_iff.1 hr).1; omega
  have hkI : (k : Int) < (n : Int) := by omega
  have hk0 : (0 : Int) ≤ (k : Int) := by omega
  have hne : b ≠ w.heap.size := by omega
  have hne2 : b ≠ w.heap.size + 1 := by omega
  have Q := Asked.new w 25 #[.slice (some ⟨b, o, none⟩) n c, .int .i64 sz, .int .i64 dp] (mc m) ⟨sTick, lo, hi, [], []⟩ (.slice A3 n3 c3')
  have Qz := Q.hz
  have HB := Q.bel
  clear hln hp hr
  obtain ⟨w1, hw1⟩ : ∃ w1, ((w.alloc (.cells #[.slice (some ⟨b, o, none⟩) n c, .int .i64 sz, .int .i64 dp] 33)).alloc (.cells (mc m) 25)).alloc (.cells (pv sTick lo hi [] (.slice A3 n3 c3')) 71) = w1 := ⟨_, rfl⟩
  dsimp only at Q HB Qz
  rw [hw1] at Q HB Qz
  obtain ⟨x0, x1, x2, _⟩ := blk3 Q.b1
  obtain ⟨y0, y1, y2, y3, y4, y5, y6⟩ := blk7 Q.b2
  obtain ⟨z0, z1, z2, z3, z4, _⟩ := blk5 Q.b3
  have HN : Hid (∀ yes, mayN sq tk (.within 1 lo hi) yes = if yes = true then meetsB tk (lo, hi) else !withinB tk (lo, hi)) := Lib.hid (fun yes => by simp [mayN])
  obtain ⟨bm, hbm⟩ : ∃ x, meetsB tk (lo, hi) = x := ⟨_, rfl⟩
  obtain ⟨bw, hbw⟩ : ∃ x, withinB tk (lo, hi) = x := ⟨_, rfl⟩
  rw [hbm, hbw] at HN
  have HM := Lib.hid hbm
  have HWI := Lib.hid hbw
  clear hbm hbw
  have hq1 : (sSeq == [115, 101, 113]) = true := by decide
  have hq2 : (sTick == [116, 105, 99, 107]) = true := by decide
  have hq3 : (sSeq == [116, 105, 99, 107]) = false := by decide
  cases no
  · go_enter Tryz.func10, Tryz.ntmps10
    go_wp2_with fail
    refine (SkpW.rseqs_any m w1 hc hf).mono ?_
    rintro e w2 ⟨rfl, hb2⟩
    rw [hsq]
    have Q2 := Q.below hb2
    have HB2 := Q2.bel
    have Q2z := Q2.hz
    have Q3 := Q2.below (w' := w2.alloc (.cells #[.int .i64 sq.1, .int .i64 sq.2] 68)) ((Below.refl _ w2).alloc (Nat.le_refl _) _)
    have R3 := Blk.new w2 68 #[.int .i64 sq.1, .int .i64 sq.2]
    have HB3 := Q3.bel
    have Q3z := Q3.hz
    clear x0 x1 x2 y0 y1 y2 y3 y4 y5 y6 z0 z1 z2 z3 z4
    obtain ⟨w3, hw3⟩ : ∃ w3, w2.alloc (.cells #[.int .i64 sq.1, .int .i64 sq.2] 68) = w3 := ⟨_, rfl⟩
    rw [hw3] at Q3 R3 HB3 Q3z
    have hz23 : w2.heap.size + 1 ≤ w3.heap.size := by have := R3.lt; omega
    obtain ⟨x0, x1, x2, _⟩ := blk3 Q3.b1
    obtain ⟨y0, y1, y2, y3, y4, y5, y6⟩ := blk7 Q3.b2
    obtain ⟨z0, z1, z2, z3, z4, _⟩ := blk5 Q3.b3
    obtain ⟨r0, r1, g0, g1, _⟩ := blk2 R3
    go_wp2_with fail
    refine (SkpW.refTicks_any m w3).mono ?_
    rintro e w4 ⟨rfl, hb4⟩
    rw [htk]
    have Q4 := Q3.below hb4
    have R4 := R3.below hb4 R3.lt
    have HB4 := Q4.bel
    have Q4z := Q4.hz
    have hz34 := hb4.size
    obtain ⟨v0, v1, u0, u1, _⟩ := blk2 R4
    have R5' := (R4.set 0 (.int .i64 tk.1)).set 1 (.int .i64 tk.2)
    have R5 : Blk ((w4.setCell ⟨w2.heap.size, 0, none⟩ (.int .i64 tk.1)).setCell ⟨w2.heap.size, 1, none⟩ (.int .i64 tk.2)) w2.heap.size 68 #[.int .i64 tk.1, .int .i64 tk.2] := R5'
    have HB5 := (HB4.setCell (p := ⟨w2.heap.size, 0, none⟩) (by dsimp only; omega) (.int .i64 tk.1)).setCell (p := ⟨w2.heap.size, 1, none⟩) (by dsimp only; omega) (.int .i64 tk.2)
    have z5 := (Q4.b3.far (p := ⟨w2.heap.size, 0, none⟩) (by dsimp only; omega) (.int .i64 tk.1)).far (p := ⟨w2.heap.size, 1, none⟩) (by dsimp only; omega) (.int .i64 tk.2)
    obtain ⟨w5, hw5⟩ : ∃ w5, (w4.setCell ⟨w2.heap.size, 0, none⟩ (.int .i64 tk.1)).setCell ⟨w2.heap.size, 1, none⟩ (.int .i64 tk.2) = w5 := ⟨_, rfl⟩
    rw [hw5] at R5 HB5 z5
    clear x0 x1 x2 y0 y1 y2 y3 y4 y5 y6 z0 z1 z2 z3 z4 r0 r1 g0 g1
    obtain ⟨k0, k1, _⟩ := blk2 R5
    obtain ⟨z0, z1, z2, z3, z4, _⟩ := blk5 z5
    go_wp2_with fail
    refine (mayRef tk (lo, hi) bm HM.out w5).mono ?_
    rintro e w6 ⟨rfl, hb6⟩
    go_wp2_with fail
    go_ret
    exact ⟨ret_bool (by rw [HN.out]; rfl), HB5.trans (hb6.mono HB5.size)⟩
  · go_enter Tryz.func10, Tryz.ntmps10
    go_wp2_with fail
    refine (SkpW.rseqs_any m w1 hc hf).mono ?_
    rintro e w2 ⟨rfl, hb2⟩
    rw [hsq]
    have Q2 := Q.below hb2
    have HB2 := Q2.bel
    have Q2z := Q2.hz
    have Q3 := Q2.below (w' := w2.alloc (.cells #[.int .i64 sq.1, .int .i64 sq.2] 68)) ((Below.refl _ w2).alloc (Nat.le_refl _) _)
    have R3 := Blk.new w2 68 #[.int .i64 sq.1, .int .i64 sq.2]
    have HB3 := Q3.bel
    have Q3z := Q3.hz
    clear x0 x1 x2 y0 y1 y2 y3 y4 y5 y6 z0 z1 z2 z3 z4
    obtain ⟨w3, hw3⟩ : ∃ w3, w2.alloc (.cells #[.int .i64 sq.1, .int .i64 sq.2] 68) = w3 := ⟨_, rfl⟩
    rw [hw3] at Q3 R3 HB3 Q3z
    have hz23 : w2.heap.size + 1 ≤ w3.heap.size := by have := R3.lt; omega
    obtain ⟨x0, x1, x2, _⟩ := blk3 Q3.b1
    obtain ⟨y0, y1, y2, y3, y4, y5, y6⟩ := blk7 Q3.b2
    obtain ⟨z0, z1, z2, z3, z4, _⟩ := blk5 Q3.b3
    obtain ⟨r0, r1, g0, g1, _⟩ := blk2 R3
    go_wp2_with fail
    refine (SkpW.refTicks_any m w3).mono ?_
    rintro e w4 ⟨rfl, hb4⟩
    rw [htk]
    have Q4 := Q3.below hb4
    have R4 := R3.below hb4 R3.lt
    have HB4 := Q4.bel
    have Q4z := Q4.hz
    have hz34 := hb4.size
    obtain ⟨v0, v1, u0, u1, _⟩ := blk2 R4
    have R5' := (R4.set 0 (.int .i64 tk.1)).set 1 (.int .i64 tk.2)
    have R5 : Blk ((w4.setCell ⟨w2.heap.size, 0, none⟩ (.int .i64 tk.1)).setCell ⟨w2.heap.size, 1, none⟩ (.int .i64 tk.2)) w2.heap.size 68 #[.int .i64 tk.1, .int .i64 tk.2] := R5'
    have HB5 := (HB4.setCell (p := ⟨w2.heap.size, 0, none⟩) (by dsimp only; omega) (.int .i64 tk.1)).setCell (p := ⟨w2.heap.size, 1, none⟩) (by dsimp only; omega) (.int .i64 tk.2)
    have z5 := (Q4.b3.far (p := ⟨w2.heap.size, 0, none⟩) (by dsimp only; omega) (.int .i64 tk.1)).far (p := ⟨w2.heap.size, 1, none⟩) (by dsimp only; omega) (.int .i64 tk.2)
    obtain ⟨w5, hw5⟩ : ∃ w5, (w4.setCell ⟨w2.heap.size, 0, none⟩ (.int .i64 tk.1)).setCell ⟨w2.heap.size, 1, none⟩ (.int .i64 tk.2) = w5 := ⟨_, rfl⟩
    rw [hw5] at R5 HB5 z5
    clear x0 x1 x2 y0 y1 y2 y3 y4 y5 y6 z0 z1 z2 z3 z4 r0 r1 g0 g1
    obtain ⟨k0, k1, _⟩ := blk2 R5
    obtain ⟨z0, z1, z2, z3, z4, _⟩ := blk5 z5
    go_wp2_with fail
    refine (withinRef tk (lo, hi) bw HWI.out w5).mono ?_
    rintro e w6 ⟨rfl, hb6⟩
    go_wp2_with fail
    go_ret
    exact ⟨ret_bool (by rw [HN.out]; rfl), HB5.trans (hb6.mono HB5.size)⟩
set_option maxRecDepth 100000 in
set_option maxHeartbeats 8000000 in
theorem rma_not (m : Me) (hc : I64 m.count) (hf : I64 m.first) (x : Nd) (ih : RMa m x) : RMa m (.not x) := by
  intro no A n c sz dp ps k S w hp hr
  obtain ⟨j, hr, hj, hrep⟩ := hr
  obtain ⟨sq, hsq⟩ : ∃ x, sM m.count m.first = x := ⟨_, rfl⟩
  obtain ⟨tk, htk⟩ : ∃ x, tM m.count m.early m.late = x := ⟨_, rfl⟩
  rw [hsq, htk]
  obtain ⟨b, o, v, rfl, hS, hb, c0, c1, c2, c3, c4, hof⟩ := hp.at_ hr
  obtain ⟨A3, n3, c3', rfl, hn3, hm3, r3⟩ := hof
  have hln := hp.len
  have hkn : k < n := by have := (List.getElem?_eq_some_iff.1 hr).1; omega
  have hkI : (k : Int) < (n : Int) := by omega
  have hk0 : (0 : Int) ≤ (k : Int) := by omega
  have hne : b ≠ w.heap.size := by omega
  have hne2 : b ≠ w.heap.size + 1 := by omega
  have Q := Asked.new w 25 #[.slice (some ⟨b, o, none⟩) n c, .int .i64 sz, .int .i64 dp] (mc m) ⟨sNot, 0, 0, [], [j]⟩ (.slice A3 n3 c3')
  have Qz := Q.hz
  have HB := Q.bel
  have hn31 : n3 = 1 := by have e : (nats [j]).length = n3 * 1 := r3.1; rw [nats_len] at e; simpa using e.symm
  subst hn31
  obtain ⟨b3, o3, rfl, hS3, hb3, hc3⟩ := r3.2 (by omega)
  have hcj0 : w.cell? ⟨b3, o3 + 0, none⟩ = some (.int .i64 (j : Nat)) := hc3 0 (by simp [nats, ints])
  rw [Nat.add_zero] at hcj0
  have hb3n : b3 ≠ w.heap.size := by omega
  have HMN : Hid (∀ yes, mayN sq tk (.not x) yes = mayN sq tk x (!yes)) := Lib.hid (fun yes => by rw [mayN])
  have HC : Hid (∀ nn w' (hb : Below w.heap.size w w'), Calls Tryz.prog 10 #[.agg #[.slice (some ⟨b, o, none⟩) n c, .int .i64 sz, .int .i64 dp], .int .i64 j, .agg (mc m), .bool nn] w' fun e w'' => e = .returned (.bool (mayN sq tk x (!nn))) ∧ Below w'.heap.size w' w'') := Lib.hid (fun nn w' hb => by
    have := ih nn (some ⟨b, o, none⟩) n c sz dp ps j _ w' (hp.below hb) hrep
    rw [hsq, htk] at this
    exact this)
  clear hln hp hr hrep hc3 r3 ih
  obtain ⟨w1, hw1⟩ : ∃ w1, ((w.alloc (.cells #[.slice (some ⟨b, o, none⟩) n c, .int .i64 sz, .int .i64 dp] 33)).alloc (.cells (mc m) 25)).alloc (.cells (pv sNot 0 0 [] (.slice (some ⟨b3, o3, none⟩) 1 c3')) 71) = w1 := ⟨_, rfl⟩
  dsimp only at Q HB Qz
  rw [hw1] at Q HB Qz
  obtain ⟨x0, x1, x2, _⟩ := blk3 Q.b1
  obtain ⟨y0, y1, y2, y3, y4, y5, y6⟩ := blk7 Q.b2
  obtain ⟨z0, z1, z2, z3, z4, _⟩ := blk5 Q.b3
  cases no
  · rw [HMN.out]
    go_enter Tryz.func10, Tryz.ntmps10
    go_wp2_with fail
    refine (SkpW.rseqs_any m w1 hc hf).mono ?_
    rintro e w2 ⟨rfl, hb2⟩
    rw [hsq]
    have Q2 := Q.below hb2
    have HB2 := Q2.bel
    have Q2z := Q2.hz
    have Q3 := Q2.below (w' := w2.alloc (.cells #[.int .i64 sq.1, .int .i64 sq.2] 68)) ((Below.refl _ w2).alloc (Nat.le_refl _) _)
    have R3 := Blk.new w2 68 #[.int .i64 sq.1, .int .i64 sq.2]
    have HB3 := Q3.bel
    have Q3z := Q3.hz
    clear x0 x1 x2 y0 y1 y2 y3 y4 y5 y6 z0 z1 z2 z3 z4
    obtain ⟨w3, hw3⟩ : ∃ w3, w2.alloc (.cells #[.int .i64 sq.1, .int .i64 sq.2] 68) = w3 := ⟨_, rfl⟩
    rw [hw3] at Q3 R3 HB3 Q3z
    have hz23 : w2.heap.size + 1 ≤ w3.heap.size := by have := R3.lt; omega
    obtain ⟨x0, x1, x2, _⟩ := blk3 Q3.b1
    obtain ⟨y0, y1, y2, y3, y4, y5, y6⟩ := blk7 Q3.b2
    obtain ⟨z0, z1, z2, z3, z4, _⟩ := blk5 Q3.b3
    obtain ⟨r0, r1, g0, g1, _⟩ := blk2 R3
    have hcj := (HB3.cell (p := ⟨b3, o3, none⟩) hb3).trans hcj0
    go_wp2_with fail
    have q1 := Q3.b1
    have q2 := Q3.b2
    have q3 := Q3.b3
    have HR := Below.refl w3.heap.size w3
    have hb31 : b3 < w3.heap.size := by omega
    refine wp_region_held_drew (S := (fun w' => w'.cell? ⟨w.heap.size, 0, none⟩ = some (.slice (some ⟨b, o, none⟩) n c) ∧ w'.cell? ⟨w.heap.size, 1, none⟩ = some (.int .i64 sz) ∧ w'.cell? ⟨w.heap.size, 2, none⟩ = some (.int .i64 dp) ∧ w'.cell? ⟨w.heap.size + 1, 0, none⟩ = some (.int .i64 m.at_) ∧ w'.cell? ⟨w.heap.size + 1, 1, none⟩ = some (.int .i64 m.size) ∧ w'.cell? ⟨w.heap.size + 1, 2, none⟩ = some (.int .i64 m.raw) ∧ w'.cell? ⟨w.heap.size + 1, 3, none⟩ = some (.int .i64 m.count) ∧ w'.cell? ⟨w.heap.size + 1, 4, none⟩ = some (.int .i64 m.first) ∧ w'.cell? ⟨w.heap.size + 1, 5, none⟩ = some (.int .i64 m.early) ∧ w'.cell? ⟨w.heap.size + 1, 6, none⟩ = some (.int .i64 m.late) ∧ w'.cell? ⟨w.heap.size + 1 + 1, 4, none⟩ = some (.slice (some ⟨b3, o3, none⟩) 1 c3') ∧ w'.cell? ⟨b3, o3, none⟩ = some (.int .i64 (j : Nat)))) (by kernel_rfl) ?_ (fun hHeld => ?_)
    · replace q1 := Blk.drew q1; replace q2 := Blk.drew q2; replace q3 := Blk.drew q3; replace HR := Below.drew HR; (try dsimp only); exact ⟨q1.cell_ 0 rfl, q1.cell_ 1 rfl, q1.cell_ 2 rfl, q2.cell_ 0 rfl, q2.cell_ 1 rfl, q2.cell_ 2 rfl, q2.cell_ 3 rfl, q2.cell_ 4 rfl, q2.cell_ 5 rfl, q2.cell_ 6 rfl, q3.cell_ 4 rfl, (HR.cell (p := ⟨b3, o3, none⟩) hb31).trans hcj⟩
    replace q1 := Blk.drew q1
    replace q2 := Blk.drew q2
    replace q3 := Blk.drew q3
    replace HR := Below.drew HR
    have zHR := HR.size
    refine take_op (v := ?vu1x0) 0 (Op.load 33 (Operand.tmp 4)) 33 rfl rfl rfl rfl rfl (by kernel_rfl) (by kernel_rfl) (by kernel_rfl) (fun _ _ _ h => h) ?yu1x0 (by assumption) ?ru1x0
    case yu1x0 => (intro w' hSw; (try dsimp only at hSw); go_simp; try (with_reducible rfl))
    simp only [List.setIfInBounds_toArray, List.set_cons_zero, List.set_cons_succ]
    refine take_op (v := ?vu1x1) 1 (Op.fieldAddr 71 (Operand.tmp 9) 3) 0 rfl rfl rfl rfl rfl (by kernel_rfl) (by kernel_rfl) (by kernel_rfl) (fun _ _ _ h => h) ?yu1x1 (by assumption) ?ru1x1
    case yu1x1 => (intro w' hSw; (try dsimp only at hSw); go_simp; try (with_reducible rfl))
    simp only [List.setIfInBounds_toArray, List.set_cons_zero, List.set_cons_succ]
    refine take_op (v := ?vu1x2) 2 (Op.load 69 (Operand.tmp 83)) 69 rfl rfl rfl rfl rfl (by kernel_rfl) (by kernel_rfl) (by kernel_rfl) (fun _ _ _ h => h) ?yu1x2 (by assumption) ?ru1x2
    case yu1x2 => (intro w' hSw; (try dsimp only at hSw); go_simp; try (with_reducible rfl))
    simp only [List.setIfInBounds_toArray, List.set_cons_zero, List.set_cons_succ]
    refine take_op (v := ?vu1x3) 3 (Op.indexAddr 69 (Operand.tmp 84) (Operand.const (Value.int IntKind.i64 0))) 0 rfl rfl rfl rfl rfl (by kernel_rfl) (by kernel_rfl) (by kernel_rfl) (fun _ _ _ h => h) ?yu1x3 (by assumption) ?ru1x3
    case yu1x3 => (intro w' hSw; (try dsimp only at hSw); go_simp; try (with_reducible rfl))
    simp only [List.setIfInBounds_toArray, List.set_cons_zero, List.set_cons_succ]
    refine take_op (v := ?vu1x4) 4 (Op.load 3 (Operand.tmp 85)) 3 rfl rfl rfl rfl rfl (by kernel_rfl) (by kernel_rfl) (by kernel_rfl) (fun _ _ _ h => h) ?yu1x4 (by assumption) ?ru1x4
    case yu1x4 => (intro w' hSw; (try dsimp only at hSw); go_simp; try (with_reducible rfl))
    simp only [List.setIfInBounds_toArray, List.set_cons_zero, List.set_cons_succ]
    refine take_op (v := ?vu1x5) 5 (Op.load 25 (Operand.tmp 6)) 25 rfl rfl rfl rfl rfl (by kernel_rfl) (by kernel_rfl) (by kernel_rfl) (fun _ _ _ h => h) ?yu1x5 (by assumption) ?ru1x5
    case yu1x5 => (intro w' hSw; (try dsimp only at hSw); go_simp; try (with_reducible rfl))
    simp only [List.setIfInBounds_toArray, List.set_cons_zero, List.set_cons_succ]
    refine take_movev (v := ?vu1x6) 6 (Operand.tmp 3) rfl rfl (by first | exact .inl rfl | exact .inr rfl) rfl (by kernel_rfl) (by kernel_rfl) (by kernel_rfl) (fun _ _ _ h => h) (by assumption) ?yu1x6 ?ru1x6
    case yu1x6 => (go_simp; try (with_reducible rfl))
    simp only [List.setIfInBounds_toArray, List.set_cons_zero, List.set_cons_succ]
    refine take_op (v := ?vu1x7) 7 (Op.unOp UnOp.not 4 (Operand.tmp 88)) 4 rfl rfl rfl rfl rfl (by kernel_rfl) (by kernel_rfl) (by kernel_rfl) (fun _ _ _ h => h) ?yu1x7 (by assumption) ?ru1x7
    case yu1x7 => (intro w' hSw; (try dsimp only at hSw); go_simp; try (with_reducible rfl))
    simp only [List.setIfInBounds_toArray, List.set_cons_zero, List.set_cons_succ]
    refine wpAnyH_ready (rs := [8]) (by kernel_rfl) (by simp) (AllReadyH.cons rfl (fun K8 hK8 => ?ku1x8) AllReadyH.nil)
    refine take_calls 8 10 [Operand.tmp 82, Operand.tmp 86, Operand.tmp 87, Operand.tmp 89] #[33, 3, 25, 4] rfl rfl (by kernel_rfl) (fun args w => run_enter Tryz.func10 (by kernel_rfl) rfl args w) ?_
    refine (HC.out true _ (HB3.trans (HR.mono HB3.size))).mono ?_
    rintro e w8 ⟨rfl, hb8⟩
    refine ⟨_, rfl, ?_⟩
    have z8 := hb8.size
    try simp only [World.size_drew] at z8
    replace q1 := Blk.below q1 hb8 (by first | exact Nat.le_refl _ | (simp only [World.size_alloc, World.size_setCell, World.size_drew] at *; omega) | omega)
    replace q2 := Blk.below q2 hb8 (by first | exact Nat.le_refl _ | (simp only [World.size_alloc, World.size_setCell, World.size_drew] at *; omega) | omega)
    replace q3 := Blk.below q3 hb8 (by first | exact Nat.le_refl _ | (simp only [World.size_alloc, World.size_setCell, World.size_drew] at *; omega) | omega)
    replace HR := HR.trans (hb8.mono (by first | exact HR.size | omega))
    have zHR8 := HR.size
    refine hK8.out _ _ ?su1x8 (fun hHeld => ?ru1x8)
    case su1x8 => ((try dsimp only); exact ⟨q1.cell_ 0 rfl, q1.cell_ 1 rfl, q1.cell_ 2 rfl, q2.cell_ 0 rfl, q2.cell_ 1 rfl, q2.cell_ 2 rfl, q2.cell_ 3 rfl, q2.cell_ 4 rfl, q2.cell_ 5 rfl, q2.cell_ 6 rfl, q3.cell_ 4 rfl, (HR.cell (p := ⟨b3, o3, none⟩) hb31).trans hcj⟩)
    try simp only [List.setIfInBounds_toArray, List.set_cons_zero, List.set_cons_succ]
    refine take_op (v := ?vu1x9) 9 (Op.assign (Operand.tmp 90)) 4 rfl rfl rfl rfl rfl (by kernel_rfl) (by kernel_rfl) (by kernel_rfl) (fun _ _ _ h => h) ?yu1x9 (by assumption) ?ru1x9
    case yu1x9 => (intro w' hSw; (try dsimp only at hSw); go_simp; try (with_reducible rfl))
    simp only [List.setIfInBounds_toArray, List.set_cons_zero, List.set_cons_succ]
    refine wpAnyH_done (by kernel_rfl) ?_ _
    go_wp2_with fail
    go_ret
    exact ⟨rfl, HB3.trans (HR.mono HB3.size)⟩
  · rw [HMN.out]
    go_enter Tryz.func10, Tryz.ntmps10
    go_wp2_with fail
    refine (SkpW.rseqs_any m w1 hc hf).mono ?_
    rintro e w2 ⟨rfl, hb2⟩
    rw [hsq]
    have Q2 := Q.below hb2
    have HB2 := Q2.bel
    have Q2z := Q2.hz
    have Q3 := Q2.below (w' := w2.alloc (.cells #[.int .i64 sq.1, .int .i64 sq.2] 68)) ((Below.refl _ w2).alloc (Nat.le_refl _) _)
    have R3 := Blk.new w2 68 #[.int .i64 sq.1, .int .i64 sq.2]
    have HB3 := Q3.bel
    have Q3z := Q3.hz
    clear x0 x1 x2 y0 y1 y2 y3 y4 y5 y6 z0 z1 z2 z3 z4
    obtain ⟨w3, hw3⟩ : ∃ w3, w2.alloc (.cells #[.int .i64 sq.1, .int .i64 sq.2] 68) = w3 := ⟨_, rfl⟩
    rw [hw3] at Q3 R3 HB3 Q3z
    have hz23 : w2.heap.size + 1 ≤ w3.heap.size := by have := R3.lt; omega
    obtain ⟨x0, x1, x2, _⟩ := blk3 Q3.b1
    obtain ⟨y0, y1, y2, y3, y4, y5, y6⟩ := blk7 Q3.b2
    obtain ⟨z0, z1, z2, z3, z4, _⟩ := blk5 Q3.b3
    obtain ⟨r0, r1, g0, g1, _⟩ := blk2 R3
    have hcj := (HB3.cell (p := ⟨b3, o3, none⟩) hb3).trans hcj0
    go_wp2_with fail
    have q1 := Q3.b1
    have q2 := Q3.b2
    have q3 := Q3.b3
    have HR := Below.refl w3.heap.size w3
    have hb31 : b3 < w3.heap.size := by omega
    refine wp_region_held_drew (S := (fun w' => w'.cell? ⟨w.heap.size, 0, none⟩ = some (.slice (some ⟨b, o, none⟩) n c) ∧ w'.cell? ⟨w.heap.size, 1, none⟩ = some (.int .i64 sz) ∧ w'.cell? ⟨w.heap.size, 2, none⟩ = some (.int .i64 dp) ∧ w'.cell? ⟨w.heap.size + 1, 0, none⟩ = some (.int .i64 m.at_) ∧ w'.cell? ⟨w.heap.size + 1, 1, none⟩ = some (.int .i64 m.size) ∧ w'.cell? ⟨w.heap.size + 1, 2, none⟩ = some (.int .i64 m.raw) ∧ w'.cell? ⟨w.heap.size + 1, 3, none⟩ = some (.int .i64 m.count) ∧ w'.cell? ⟨w.heap.size + 1, 4, none⟩ = some (.int .i64 m.first) ∧ w'.cell? ⟨w.heap.size + 1, 5, none⟩ = some (.int .i64 m.early) ∧ w'.cell? ⟨w.heap.size + 1, 6, none⟩ = some (.int .i64 m.late) ∧ w'.cell? ⟨w.heap.size + 1 + 1, 4, none⟩ = some (.slice (some ⟨b3, o3, none⟩) 1 c3') ∧ w'.cell? ⟨b3, o3, none⟩ = some (.int .i64 (j : Nat)))) (by kernel_rfl) ?_ (fun hHeld => ?_)
    · replace q1 := Blk.drew q1; replace q2 := Blk.drew q2; replace q3 := Blk.drew q3; replace HR := Below.drew HR; (try dsimp only); exact ⟨q1.cell_ 0 rfl, q1.cell_ 1 rfl, q1.cell_ 2 rfl, q2.cell_ 0 rfl, q2.cell_ 1 rfl, q2.cell_ 2 rfl, q2.cell_ 3 rfl, q2.cell_ 4 rfl, q2.cell_ 5 rfl, q2.cell_ 6 rfl, q3.cell_ 4 rfl, (HR.cell (p := ⟨b3, o3, none⟩) hb31).trans hcj⟩
    replace q1 := Blk.drew q1
    replace q2 := Blk.drew q2
    replace q3 := Blk.drew q3
    replace HR := Below.drew HR
    have zHR := HR.size
    refine take_op (v := ?vu2x0) 0 (Op.load 33 (Operand.tmp 4)) 33 rfl rfl rfl rfl rfl (by kernel_rfl) (by kernel_rfl) (by kernel_rfl) (fun _ _ _ h => h) ?yu2x0 (by assumption) ?ru2x0
    case yu2x0 => (intro w' hSw; (try dsimp only at hSw); go_simp; try (with_reducible rfl))
    simp only [List.setIfInBounds_toArray, List.set_cons_zero, List.set_cons_succ]
    refine take_op (v := ?vu2x1) 1 (Op.fieldAddr 71 (Operand.tmp 9) 3) 0 rfl rfl rfl rfl rfl (by kernel_rfl) (by kernel_rfl) (by kernel_rfl) (fun _ _ _ h => h) ?yu2x1 (by assumption) ?ru2x1
    case yu2x1 => (intro w' hSw; (try dsimp only at hSw); go_simp; try (with_reducible rfl))
    simp only [List.setIfInBounds_toArray, List.set_cons_zero, List.set_cons_succ]
    refine take_op (v := ?vu2x2) 2 (Op.load 69 (Operand.tmp 83)) 69 rfl rfl rfl rfl rfl (by kernel_rfl) (by kernel_rfl) (by kernel_rfl) (fun _ _ _ h => h) ?yu2x2 (by assumption) ?ru2x2
    case yu2x2 => (intro w' hSw; (try dsimp only at hSw); go_simp; try (with_reducible rfl))
    simp only [List.setIfInBounds_toArray, List.set_cons_zero, List.set_cons_succ]
    refine take_op (v := ?vu2x3) 3 (Op.indexAddr 69 (Operand.tmp 84) (Operand.const (Value.int IntKind.i64 0))) 0 rfl rfl rfl rfl rfl (by kernel_rfl) (by kernel_rfl) (by kernel_rfl) (fun _ _ _ h => h) ?yu2x3 (by assumption) ?ru2x3
    case yu2x3 => (intro w' hSw; (try dsimp only at hSw); go_simp; try (with_reducible rfl))
    simp only [List.setIfInBounds_toArray, List.set_cons_zero, List.set_cons_succ]
    refine take_op (v := ?vu2x4) 4 (Op.load 3 (Operand.tmp 85)) 3 rfl rfl rfl rfl rfl (by kernel_rfl) (by kernel_rfl) (by kernel_rfl) (fun _ _ _ h => h) ?yu2x4 (by assumption) ?ru2x4
    case yu2x4 => (intro w' hSw; (try dsimp only at hSw); go_simp; try (with_reducible rfl))
    simp only [List.setIfInBounds_toArray, List.set_cons_zero, List.set_cons_succ]
    refine take_op (v := ?vu2x5) 5 (Op.load 25 (Operand.tmp 6)) 25 rfl rfl rfl rfl rfl (by kernel_rfl) (by kernel_rfl) (by kernel_rfl) (fun _ _ _ h => h) ?yu2x5 (by assumption) ?ru2x5
    case yu2x5 => (intro w' hSw; (try dsimp only at hSw); go_simp; try (with_reducible rfl))
    simp only [List.setIfInBounds_toArray, List.set_cons_zero, List.set_cons_succ]
    refine take_movev (v := ?vu2x6) 6 (Operand.tmp 3) rfl rfl (by first | exact .inl rfl | exact .inr rfl) rfl (by kernel_rfl) (by kernel_rfl) (by kernel_rfl) (fun _ _ _ h => h) (by assumption) ?yu2x6 ?ru2x6
    case yu2x6 => (go_simp; try (with_reducible rfl))
    simp only [List.setIfInBounds_toArray, List.set_cons_zero, List.set_cons_succ]
    refine take_op (v := ?vu2x7) 7 (Op.unOp UnOp.not 4 (Operand.tmp 88)) 4 rfl rfl rfl rfl rfl (by kernel_rfl) (by kernel_rfl) (by kernel_rfl) (fun _ _ _ h => h) ?yu2x7 (by assumption) ?ru2x7
    case yu2x7 => (intro w' hSw; (try dsimp only at hSw); go_simp; try (with_reducible rfl))
    simp only [List.setIfInBounds_toArray, List.set_cons_zero, List.set_cons_succ]
    refine wpAnyH_ready (rs := [8]) (by kernel_rfl) (by simp) (AllReadyH.cons rfl (fun K8 hK8 => ?ku2x8) AllReadyH.nil)
    refine take_calls 8 10 [Operand.tmp 82, Operand.tmp 86, Operand.tmp 87, Operand.tmp 89] #[33, 3, 25, 4] rfl rfl (by kernel_rfl) (fun args w => run_enter Tryz.func10 (by kernel_rfl) rfl args w) ?_
    refine (HC.out false _ (HB3.trans (HR.mono HB3.size))).mono ?_
    rintro e w8 ⟨rfl, hb8⟩
    refine ⟨_, rfl, ?_⟩
    have z8 := hb8.size
    try simp only [World.size_drew] at z8
    replace q1 := Blk.below q1 hb8 (by first | exact Nat.le_refl _ | (simp only [World.size_alloc, World.size_setCell, World.size_drew] at *; omega) | omega)
    replace q2 := Blk.below q2 hb8 (by first | exact Nat.le_refl _ | (simp only [World.size_alloc, World.size_setCell, World.size_drew] at *; omega) | omega)
    replace q3 := Blk.below q3 hb8 (by first | exact Nat.le_refl _ | (simp only [World.size_alloc, World.size_setCell, World.size_drew] at *; omega) | omega)
    replace HR := HR.trans (hb8.mono (by first | exact HR.size | omega))
    have zHR8 := HR.size
    refine hK8.out _ _ ?su2x8 (fun hHeld => ?ru2x8)
    case su2x8 => ((try dsimp only); exact ⟨q1.cell_ 0 rfl, q1.cell_ 1 rfl, q1.cell_ 2 rfl, q2.cell_ 0 rfl, q2.cell_ 1 rfl, q2.cell_ 2 rfl, q2.cell_ 3 rfl, q2.cell_ 4 rfl, q2.cell_ 5 rfl, q2.cell_ 6 rfl, q3.cell_ 4 rfl, (HR.cell (p := ⟨b3, o3, none⟩) hb31).trans hcj⟩)
    try simp only [List.setIfInBounds_toArray, List.set_cons_zero, List.set_cons_succ]
    refine take_op (v := ?vu2x9) 9 (Op.assign (Operand.tmp 90)) 4 rfl rfl rfl rfl rfl (by kernel_rfl) (by kernel_rfl) (by kernel_rfl) (fun _ _ _ h => h) ?yu2x9 (by assumption) ?ru2x9
    case yu2x9 => (intro w' hSw; (try dsimp only at hSw); go_simp; try (with_reducible rfl))
    simp only [List.setIfInBounds_toArray, List.set_cons_zero, List.set_cons_succ]
    refine wpAnyH_done (by kernel_rfl) ?_ _
    go_wp2_with fail
    go_ret
    exact ⟨rfl, HB3.trans (HR.mono HB3.size)⟩
theorem may_all (sq tk : R) (o yes : Bool) (l : List Nd) : mayN sq tk (.row o l) yes = if (o == yes) = true then (l.map fun x => mayN sq tk x yes).any id else (l.map fun x => mayN sq tk x yes).all id := by
  rw [mayN]
  cases h : (o == yes)
  · rw [mayL_and sq tk o yes l h, if_neg (by decide), List.all_map]; rfl
  · rw [mayL_or sq tk o yes l h, if_pos rfl, List.any_map]; rfl
set_option maxRecDepth 100000 in
set_option maxHeartbeats 8000000 in
theorem rma_row (m : Me) (hc : I64 m.count) (hf : I64 m.first) (oo : Bool) (l : List Nd) (hl : 2 ≤ l.length) (hl2 : l.length ≤ 1000) (ih : ∀ i (h : i < l.length), RMa m l[i]) : RMa m (.row oo l) := by
  intro no A n c sz dp ps k S w hp hr
  obtain ⟨js, hr, hj, hreps⟩ := hr
  obtain ⟨sq, hsq⟩ : ∃ x, sM m.count m.first = x := ⟨_, rfl⟩
  obtain ⟨tk, htk⟩ : ∃ x, tM m.count m.early m.late = x := ⟨_, rfl⟩
  rw [hsq, htk]
  obtain ⟨b, o, v, rfl, hS, hb, c0, c1, c2, c3, c4, hof⟩ := hp.at_ hr
  obtain ⟨A3, n3, c3', rfl, hn3, hm3, r3⟩ := hof
  have hln := hp.len
  have hkn : k < n := by have := (List.getElem?_eq_some_iff.1 hr).1; omega
  have hkI : (k : Int) < (n : Int) := by omega
  have hk0 : (0 : Int) ≤ (k : Int) := by omega
  have hne : b ≠ w.heap.size := by omega
  have hne2 : b ≠ w.heap.size + 1 := by omega
  have Q := Asked.new w 25 #[.slice (some ⟨b, o, none⟩) n c, .int .i64 sz, .int .i64 dp] (mc m) ⟨byW oo, 0, 0, [], js⟩ (.slice A3 n3 c3')
  have Qz := Q.hz
  have HB := Q.bel
  have hjl := hreps.len
  have hn31 : n3 = l.length := by have e : (nats js).length = n3 * 1 := r3.1; rw [nats_len] at e; omega
  obtain ⟨b3, o3, rfl, hS3, hb3, hc3⟩ := r3.2 (by omega)
  have hcj0 : ∀ i (h : i < js.length), w.cell? ⟨b3, o3 + i, none⟩ = some (.int .i64 (js[i] : Nat)) := fun i h => by
    have h2 : i < (nats js).length := by rw [nats_len]; exact h
    have e := nats_at js i h
    rw [List.getElem?_eq_getElem h2] at e
    rw [hc3 i h2]; exact e
  have hb3n : b3 ≠ w.heap.size := by omega
  have HC : Hid (∀ i (h : i < l.length) (h2 : i < js.length) w' (hb : Below w.heap.size w w'), Calls Tryz.prog 10 #[.agg #[.slice (some ⟨b, o, none⟩) n c, .int .i64 sz, .int .i64 dp], .int .i64 (js[i] : Nat), .agg (mc m), .bool no] w' fun e w'' => e = .returned (.bool (mayN sq tk l[i] (!no))) ∧ Below w'.heap.size w' w'') := Lib.hid (fun i h h2 w' hb => by
    have := ih i h no (some ⟨b, o, none⟩) n c sz dp ps js[i] _ w' (hp.below hb) (hreps.at_ i h h2)
    rw [hsq, htk] at this
    exact this)
  have HCJ := Lib.hid hcj0
  have HJL := Lib.hid hjl
  obtain ⟨bl, hbl⟩ : ∃ bl, (l.map fun x => mayN sq tk x (!no)) = bl := ⟨_, rfl⟩
  have hbll : bl.length = l.length := by rw [← hbl]; simp
  have HBI : Hid (∀ i (h : i < l.length) (h2 : i < bl.length), mayN sq tk l[i] (!no) = bl[i]) := Lib.hid (fun i h h2 => by subst hbl; simp)
  have HMN := Lib.hid (may_all sq tk oo (!no) l)
  rw [hbl] at HMN
  have HBL := Lib.hid hbll
  have hn3a : n3 ≤ l.length := by omega
  have hn3b : l.length ≤ n3 := by omega
  clear hln hp hr hreps hc3 r3 ih hcj0 hj hjl hbl hbll hn31
  obtain ⟨w1, hw1⟩ : ∃ w1, ((w.alloc (.cells #[.slice (some ⟨b, o, none⟩) n c, .int .i64 sz, .int .i64 dp] 33)).alloc (.cells (mc m) 25)).alloc (.cells (pv (byW oo) 0 0 [] (.slice (some ⟨b3, o3, none⟩) n3 c3')) 71) = w1 := ⟨_, rfl⟩
  dsimp only at Q HB Qz
  rw [hw1] at Q HB Qz
  obtain ⟨x0, x1, x2, _⟩ := blk3 Q.b1
  obtain ⟨y0, y1, y2, y3, y4, y5, y6⟩ := blk7 Q.b2
  obtain ⟨z0, z1, z2, z3, z4, _⟩ := blk5 Q.b3
  rw [HMN.out]
  cases oo <;> cases no
  · have kw0 : (byW false == [116, 105, 99, 107]) = false := by decide
    have kw1 : (byW false == [115, 101, 113]) = false := by decide
    have kw2 : (byW false == [115, 105, 122, 101]) = false := by decide
    have kw3 : (byW false == [104, 97, 115]) = false := by decide
    have kw4 : (byW false == [97, 108, 108]) = false := by decide
    have kw5 : (byW false == [110, 111, 116]) = false := by decide
    go_enter Tryz.func10, Tryz.ntmps10
    go_wp2_with fail
    refine (SkpW.rseqs_any m w1 hc hf).mono ?_
    rintro e w2 ⟨rfl, hb2⟩
    rw [hsq]
    have Q2 := Q.below hb2
    have HB2 := Q2.bel
    have Q2z := Q2.hz
    have Q3 := Q2.below (w' := w2.alloc (.cells #[.int .i64 sq.1, .int .i64 sq.2] 68)) ((Below.refl _ w2).alloc (Nat.le_refl _) _)
    have R3 := Blk.new w2 68 #[.int .i64 sq.1, .int .i64 sq.2]
    have HB3 := Q3.bel
    have Q3z := Q3.hz
    clear x0 x1 x2 y0 y1 y2 y3 y4 y5 y6 z0 z1 z2 z3 z4
    obtain ⟨w3, hw3⟩ : ∃ w3, w2.alloc (.cells #[.int .i64 sq.1, .int .i64 sq.2] 68) = w3 := ⟨_, rfl⟩
    rw [hw3] at Q3 R3 HB3 Q3z
    have hz23 : w2.heap.size + 1 ≤ w3.heap.size := by have := R3.lt; omega
    obtain ⟨x0, x1, x2, _⟩ := blk3 Q3.b1
    obtain ⟨y0, y1, y2, y3, y4, y5, y6⟩ := blk7 Q3.b2
    obtain ⟨z0, z1, z2, z3, z4, _⟩ := blk5 Q3.b3
    obtain ⟨r0, r1, g0, g1, _⟩ := blk2 R3
    go_wp2_with fail
    clear x0 x1 x2 y0 y1 y2 y3 y4 y5 y6 z0 z1 z2 z3 z4 r0 r1 g0 g1
    go_loopw [11, 12, 13] (fun av sv iv wr => ∃ i : Nat, i ≤ l.length ∧ iv = .int .i64 (i : Nat) ∧ av = .bool ((bl.take i).all id) ∧ sv = .bool ((bl.take i).any id) ∧ Asked w wr w.heap.size 25 #[.slice (some ⟨b, o, none⟩) n c, .int .i64 sz, .int .i64 dp] (mc m) ⟨byW false, 0, 0, [], js⟩ (.slice (some ⟨b3, o3, none⟩) n3 c3')) (fun _ _ iv _ => l.length - (intOf iv).toNat)
    case atStart => exact ⟨0, by omega, rfl, rfl, rfl, Q3⟩
    case round =>
      obtain ⟨i, hi, rfl, rfl, rfl, Q1⟩ := hrel
      obtain ⟨x0, x1, x2, _⟩ := blk3 Q1.b1
      obtain ⟨y0, y1, y2, y3, y4, y5, y6⟩ := blk7 Q1.b2
      obtain ⟨z0, z1, z2, z3, z4, _⟩ := blk5 Q1.b3
      have hB1 := Q1.bel
      have hQz := Q1.hz
      obtain ⟨av, hav⟩ : ∃ av, (bl.take i).all id = av := ⟨_, rfl⟩
      obtain ⟨sv, hsv⟩ : ∃ sv, (bl.take i).any id = sv := ⟨_, rfl⟩
      rw [hav, hsv]
      have HAV := Lib.hid hav
      have HSV := Lib.hid hsv
      clear hav hsv
      by_cases hlt : i < l.length
      · have hiI : (i : Int) < (n3 : Int) := by omega
        have hi0 : (0 : Int) ≤ (i : Int) := by omega
        have hi1 : IntKind.i64.wrap ((i : Int) + 1) = (i : Int) + 1 := w64k (by omega) (by omega)
        have hij : i < js.length := by have := HJL.out; omega
        have hib : i < bl.length := by have := HBL.out; omega
        obtain ⟨is, his⟩ : ∃ is, bl[i] = is := ⟨_, rfl⟩
        have HIS := Lib.hid his
        have HCI : Hid (∀ w', Below w.heap.size w w' → _) := Lib.hid (fun w' hb => HC.out i hlt hij w' hb)
        rw [HBI.out i hlt hib, his] at HCI
        have hcj1 := (hB1.cell (p := ⟨b3, o3 + i, none⟩) hb3).trans (HCJ.out i hij)
        obtain ⟨jj, hjj⟩ : ∃ jj, js[i] = jj := ⟨_, rfl⟩
        rw [hjj] at hcj1 HCI
        have hna : Hid ((bl.take (i + 1)).all id = (av && is)) := Lib.hid (by rw [take_all bl i hib, HAV.out, his])
        have hns : Hid ((bl.take (i + 1)).any id = (sv || is)) := Lib.hid (by rw [take_any bl i hib, HSV.out, his])
        have q1 := Q1.b1
        have q2 := Q1.b2
        have q3 := Q1.b3
        have HR := Below.refl wr.heap.size wr
        have hb31 : b3 < wr.heap.size := by omega
        clear his hjj
        go_wp2_with fail
        refine wp_region_held_drew (S := (fun w' => w'.cell? ⟨w.heap.size, 0, none⟩ = some (.slice (some ⟨b, o, none⟩) n c) ∧ w'.cell? ⟨w.heap.size, 1, none⟩ = some (.int .i64 sz) ∧ w'.cell? ⟨w.heap.size, 2, none⟩ = some (.int .i64 dp) ∧ w'.cell? ⟨w.heap.size + 1, 0, none⟩ = some (.int .i64 m.at_) ∧ w'.cell? ⟨w.heap.size + 1, 1, none⟩ = some (.int .i64 m.size) ∧ w'.cell? ⟨w.heap.size + 1, 2, none⟩ = some (.int .i64 m.raw) ∧ w'.cell? ⟨w.heap.size + 1, 3, none⟩ = some (.int .i64 m.count) ∧ w'.cell? ⟨w.heap.size + 1, 4, none⟩ = some (.int .i64 m.first) ∧ w'.cell? ⟨w.heap.size + 1, 5, none⟩ = some (.int .i64 m.early) ∧ w'.cell? ⟨w.heap.size + 1, 6, none⟩ = some (.int .i64 m.late) ∧ w'.cell? ⟨w.heap.size + 1 + 1, 4, none⟩ = some (.slice (some ⟨b3, o3, none⟩) n3 c3') ∧ w'.cell? ⟨b3, o3 + i, none⟩ = some (.int .i64 (jj : Nat)))) (by kernel_rfl) ?_ (fun hHeld => ?_)
        · replace q1 := Blk.drew q1; replace q2 := Blk.drew q2; replace q3 := Blk.drew q3; replace HR := Below.drew HR; (try dsimp only); exact ⟨q1.cell_ 0 rfl, q1.cell_ 1 rfl, q1.cell_ 2 rfl, q2.cell_ 0 rfl, q2.cell_ 1 rfl, q2.cell_ 2 rfl, q2.cell_ 3 rfl, q2.cell_ 4 rfl, q2.cell_ 5 rfl, q2.cell_ 6 rfl, q3.cell_ 4 rfl, (HR.cell (p := ⟨b3, o3 + i, none⟩) hb31).trans hcj1⟩
        replace q1 := Blk.drew q1
        replace q2 := Blk.drew q2
        replace q3 := Blk.drew q3
        replace HR := Below.drew HR
        have zHR := HR.size
        refine take_op (v := ?vu3x0) 0 (Op.load 33 (Operand.tmp 4)) 33 rfl rfl rfl rfl rfl (by kernel_rfl) (by kernel_rfl) (by kernel_rfl) (fun _ _ _ h => h) ?yu3x0 (by assumption) ?ru3x0
        case yu3x0 => (intro w' hSw; (try dsimp only at hSw); go_simp; try (with_reducible rfl))
        simp only [List.setIfInBounds_toArray, List.set_cons_zero, List.set_cons_succ]
        refine take_op (v := ?vu3x1) 1 (Op.fieldAddr 71 (Operand.tmp 9) 3) 0 rfl rfl rfl rfl rfl (by kernel_rfl) (by kernel_rfl) (by kernel_rfl) (fun _ _ _ h => h) ?yu3x1 (by assumption) ?ru3x1
        case yu3x1 => (intro w' hSw; (try dsimp only at hSw); go_simp; try (with_reducible rfl))
        simp only [List.setIfInBounds_toArray, List.set_cons_zero, List.set_cons_succ]
        refine take_op (v := ?vu3x2) 2 (Op.load 69 (Operand.tmp 32)) 69 rfl rfl rfl rfl rfl (by kernel_rfl) (by kernel_rfl) (by kernel_rfl) (fun _ _ _ h => h) ?yu3x2 (by assumption) ?ru3x2
        case yu3x2 => (intro w' hSw; (try dsimp only at hSw); go_simp; try (with_reducible rfl))
        simp only [List.setIfInBounds_toArray, List.set_cons_zero, List.set_cons_succ]
        refine take_movev (v := ?vu3x3) 3 (Operand.tmp 13) rfl rfl (by first | exact .inl rfl | exact .inr rfl) rfl (by kernel_rfl) (by kernel_rfl) (by kernel_rfl) (fun _ _ _ h => h) (by assumption) ?yu3x3 ?ru3x3
        case yu3x3 => (go_simp; try (with_reducible rfl))
        simp only [List.setIfInBounds_toArray, List.set_cons_zero, List.set_cons_succ]
        refine take_op (v := ?vu3x4) 4 (Op.indexAddr 69 (Operand.tmp 33) (Operand.tmp 34)) 0 rfl rfl rfl rfl rfl (by kernel_rfl) (by kernel_rfl) (by kernel_rfl) (fun _ _ _ h => h) ?yu3x4 (by assumption) ?ru3x4
        case yu3x4 => (intro w' hSw; (try dsimp only at hSw); go_simp; try (with_reducible rfl))
        simp only [List.setIfInBounds_toArray, List.set_cons_zero, List.set_cons_succ]
        refine take_op (v := ?vu3x5) 5 (Op.load 3 (Operand.tmp 35)) 3 rfl rfl rfl rfl rfl (by kernel_rfl) (by kernel_rfl) (by kernel_rfl) (fun _ _ _ h => h) ?yu3x5 (by assumption) ?ru3x5
        case yu3x5 => (intro w' hSw; (try dsimp only at hSw); go_simp; try (with_reducible rfl))
        simp only [List.setIfInBounds_toArray, List.set_cons_zero, List.set_cons_succ]
        refine take_op (v := ?vu3x6) 6 (Op.load 25 (Operand.tmp 6)) 25 rfl rfl rfl rfl rfl (by kernel_rfl) (by kernel_rfl) (by kernel_rfl) (fun _ _ _ h => h) ?yu3x6 (by assumption) ?ru3x6
        case yu3x6 => (intro w' hSw; (try dsimp only at hSw); go_simp; try (with_reducible rfl))
        simp only [List.setIfInBounds_toArray, List.set_cons_zero, List.set_cons_succ]
        refine take_movev (v := ?vu3x7) 7 (Operand.tmp 3) rfl rfl (by first | exact .inl rfl | exact .inr rfl) rfl (by kernel_rfl) (by kernel_rfl) (by kernel_rfl) (fun _ _ _ h => h) (by assumption) ?yu3x7 ?ru3x7
        case yu3x7 => (go_simp; try (with_reducible rfl))
        simp only [List.setIfInBounds_toArray, List.set_cons_zero, List.set_cons_succ]
        refine wpAnyH_ready (rs := [8]) (by kernel_rfl) (by simp) (AllReadyH.cons rfl (fun K8 hK8 => ?ku3x8) AllReadyH.nil)
        refine take_calls 8 10 [Operand.tmp 31, Operand.tmp 36, Operand.tmp 37, Operand.tmp 38] #[33, 3, 25, 4] rfl rfl (by kernel_rfl) (fun args w => run_enter Tryz.func10 (by kernel_rfl) rfl args w) ?_
        refine (HCI.out _ (hB1.trans (HR.mono hB1.size))).mono ?_
        rintro e w8 ⟨rfl, hb8⟩
        refine ⟨_, rfl, ?_⟩
        have z8 := hb8.size
        try simp only [World.size_drew] at z8
        replace q1 := Blk.below q1 hb8 (by first | exact Nat.le_refl _ | (simp only [World.size_alloc, World.size_setCell, World.size_drew] at *; omega) | omega)
        replace q2 := Blk.below q2 hb8 (by first | exact Nat.le_refl _ | (simp only [World.size_alloc, World.size_setCell, World.size_drew] at *; omega) | omega)
        replace q3 := Blk.below q3 hb8 (by first | exact Nat.le_refl _ | (simp only [World.size_alloc, World.size_setCell, World.size_drew] at *; omega) | omega)
        replace HR := HR.trans (hb8.mono (by first | exact HR.size | omega))
        have zHR8 := HR.size
        refine hK8.out _ _ ?su3x8 (fun hHeld => ?ru3x8)
        case su3x8 => ((try dsimp only); exact ⟨q1.cell_ 0 rfl, q1.cell_ 1 rfl, q1.cell_ 2 rfl, q2.cell_ 0 rfl, q2.cell_ 1 rfl, q2.cell_ 2 rfl, q2.cell_ 3 rfl, q2.cell_ 4 rfl, q2.cell_ 5 rfl, q2.cell_ 6 rfl, q3.cell_ 4 rfl, (HR.cell (p := ⟨b3, o3 + i, none⟩) hb31).trans hcj1⟩)
        try simp only [List.setIfInBounds_toArray, List.set_cons_zero, List.set_cons_succ]
        refine take_op (v := ?vu3x9) 9 (Op.assign (Operand.tmp 39)) 4 rfl rfl rfl rfl rfl (by kernel_rfl) (by kernel_rfl) (by kernel_rfl) (fun _ _ _ h => h) ?yu3x9 (by assumption) ?ru3x9
        case yu3x9 => (intro w' hSw; (try dsimp only at hSw); go_simp; try (with_reducible rfl))
        simp only [List.setIfInBounds_toArray, List.set_cons_zero, List.set_cons_succ]
        refine wpAnyH_done (by kernel_rfl) ?_ _
        have Q2 := Q1.below HR
        cases av <;> cases sv <;> cases is
        all_goals
          go_wp2_with fail
          go_roundw
          case rel => exact ⟨i + 1, by omega, by go_num, by rw [hna.out]; rfl, by rw [hns.out]; rfl, Q2⟩
          case measure => simp [intOf]; omega
      · have hiI : ¬ (i : Int) < (n3 : Int) := by omega
        have hbt : bl.take i = bl := List.take_of_length_le (by have := HBL.out; omega)
        have HA := HAV.out
        have HSS := HSV.out
        rw [hbt] at HA HSS
        have HA2 := Lib.hid HA
        have HS2 := Lib.hid HSS
        clear HA HSS hbt
        cases av <;> cases sv
        all_goals
          go_wp2_with fail
          go_ret
          exact ⟨ret_bool (by first | (show _ = (bl.any id); rw [HS2.out]) | (show _ = (bl.all id); rw [HA2.out])), hB1⟩
  · have kw0 : (byW false == [116, 105, 99, 107]) = false := by decide
    have kw1 : (byW false == [115, 101, 113]) = false := by decide
    have kw2 : (byW false == [115, 105, 122, 101]) = false := by decide
    have kw3 : (byW false == [104, 97, 115]) = false := by decide
    have kw4 : (byW false == [97, 108, 108]) = false := by decide
    have kw5 : (byW false == [110, 111, 116]) = false := by decide
    go_enter Tryz.func10, Tryz.ntmps10
    go_wp2_with fail
    refine (SkpW.rseqs_any m w1 hc hf).mono ?_
    rintro e w2 ⟨rfl, hb2⟩
    rw [hsq]
    have Q2 := Q.below hb2
    have HB2 := Q2.bel
    have Q2z := Q2.hz
    have Q3 := Q2.below (w' := w2.alloc (.cells #[.int .i64 sq.1, .int .i64 sq.2] 68)) ((Below.refl _ w2).alloc (Nat.le_refl _) _)
    have R3 := Blk.new w2 68 #[.int .i64 sq.1, .int .i64 sq.2]
    have HB3 := Q3.bel
    have Q3z := Q3.hz
    clear x0 x1 x2 y0 y1 y2 y3 y4 y5 y6 z0 z1 z2 z3 z4
    obtain ⟨w3, hw3⟩ : ∃ w3, w2.alloc (.cells #[.int .i64 sq.1, .int .i64 sq.2] 68) = w3 := ⟨_, rfl⟩
    rw [hw3] at Q3 R3 HB3 Q3z
    have hz23 : w2.heap.size + 1 ≤ w3.heap.size := by have := R3.lt; omega
    obtain ⟨x0, x1, x2, _⟩ := blk3 Q3.b1
    obtain ⟨y0, y1, y2, y3, y4, y5, y6⟩ := blk7 Q3.b2
    obtain ⟨z0, z1, z2, z3, z4, _⟩ := blk5 Q3.b3
    obtain ⟨r0, r1, g0, g1, _⟩ := blk2 R3
    go_wp2_with fail
    clear x0 x1 x2 y0 y1 y2 y3 y4 y5 y6 z0 z1 z2 z3 z4 r0 r1 g0 g1
    go_loopw [11, 12, 13] (fun av sv iv wr => ∃ i : Nat, i ≤ l.length ∧ iv = .int .i64 (i : Nat) ∧ av = .bool ((bl.take i).all id) ∧ sv = .bool ((bl.take i).any id) ∧ Asked w wr w.heap.size 25 #[.slice (some ⟨b, o, none⟩) n c, .int .i64 sz, .int .i64 dp] (mc m) ⟨byW false, 0, 0, [], js⟩ (.slice (some ⟨b3, o3, none⟩) n3 c3')) (fun _ _ iv _ => l.length - (intOf iv).toNat)
    case atStart => exact ⟨0, by omega, rfl, rfl, rfl, Q3⟩
    case round =>
      obtain ⟨i, hi, rfl, rfl, rfl, Q1⟩ := hrel
      obtain ⟨x0, x1, x2, _⟩ := blk3 Q1.b1
      obtain ⟨y0, y1, y2, y3, y4, y5, y6⟩ := blk7 Q1.b2
      obtain ⟨z0, z1, z2, z3, z4, _⟩ := blk5 Q1.b3
      have hB1 := Q1.bel
      have hQz := Q1.hz
      obtain ⟨av, hav⟩ : ∃ av, (bl.take i).all id = av := ⟨_, rfl⟩
      obtain ⟨sv, hsv⟩ : ∃ sv, (bl.take i).any id = sv := ⟨_, rfl⟩
      rw [hav, hsv]
      have HAV := Lib.hid hav
      have HSV := Lib.hid hsv
      clear hav hsv
      by_cases hlt : i < l.length
      · have hiI : (i : Int) < (n3 : Int) := by omega
        have hi0 : (0 : Int) ≤ (i : Int) := by omega
        have hi1 : IntKind.i64.wrap ((i : Int) + 1) = (i : Int) + 1 := w64k (by omega) (by omega)
        have hij : i < js.length := by have := HJL.out; omega
        have hib : i < bl.length := by have := HBL.out; omega
        obtain ⟨is, his⟩ : ∃ is, bl[i] = is := ⟨_, rfl⟩
        have HIS := Lib.hid his
        have HCI : Hid (∀ w', Below w.heap.size w w' → _) := Lib.hid (fun w' hb => HC.out i hlt hij w' hb)
        rw [HBI.out i hlt hib, his] at HCI
        have hcj1 := (hB1.cell (p := ⟨b3, o3 + i, none⟩) hb3).trans (HCJ.out i hij)
        obtain ⟨jj, hjj⟩ : ∃ jj, js[i] = jj := ⟨_, rfl⟩
        rw [hjj] at hcj1 HCI
        have hna : Hid ((bl.take (i + 1)).all id = (av && is)) := Lib.hid (by rw [take_all bl i hib, HAV.out, his])
        have hns : Hid ((bl.take (i + 1)).any id = (sv || is)) := Lib.hid (by rw [take_any bl i hib, HSV.out, his])
        have q1 := Q1.b1
        have q2 := Q1.b2
        have q3 := Q1.b3
        have HR := Below.refl wr.heap.size wr
        have hb31 : b3 < wr.heap.size := by omega
        clear his hjj
        go_wp2_with fail
        refine wp_region_held_drew (S := (fun w' => w'.cell? ⟨w.heap.size, 0, none⟩ = some (.slice (some ⟨b, o, none⟩) n c) ∧ w'.cell? ⟨w.heap.size, 1, none⟩ = some (.int .i64 sz) ∧ w'.cell? ⟨w.heap.size, 2, none⟩ = some (.int .i64 dp) ∧ w'.cell? ⟨w.heap.size + 1, 0, none⟩ = some (.int .i64 m.at_) ∧ w'.cell? ⟨w.heap.size + 1, 1, none⟩ = some (.int .i64 m.size) ∧ w'.cell? ⟨w.heap.size + 1, 2, none⟩ = some (.int .i64 m.raw) ∧ w'.cell? ⟨w.heap.size + 1, 3, none⟩ = some (.int .i64 m.count) ∧ w'.cell? ⟨w.heap.size + 1, 4, none⟩ = some (.int .i64 m.first) ∧ w'.cell? ⟨w.heap.size + 1, 5, none⟩ = some (.int .i64 m.early) ∧ w'.cell? ⟨w.heap.size + 1, 6, none⟩ = some (.int .i64 m.late) ∧ w'.cell? ⟨w.heap.size + 1 + 1, 4, none⟩ = some (.slice (some ⟨b3, o3, none⟩) n3 c3') ∧ w'.cell? ⟨b3, o3 + i, none⟩ = some (.int .i64 (jj : Nat)))) (by kernel_rfl) ?_ (fun hHeld => ?_)
        · replace q1 := Blk.drew q1; replace q2 := Blk.drew q2; replace q3 := Blk.drew q3; replace HR := Below.drew HR; (try dsimp only); exact ⟨q1.cell_ 0 rfl, q1.cell_ 1 rfl, q1.cell_ 2 rfl, q2.cell_ 0 rfl, q2.cell_ 1 rfl, q2.cell_ 2 rfl, q2.cell_ 3 rfl, q2.cell_ 4 rfl, q2.cell_ 5 rfl, q2.cell_ 6 rfl, q3.cell_ 4 rfl, (HR.cell (p := ⟨b3, o3 + i, none⟩) hb31).trans hcj1⟩
        replace q1 := Blk.drew q1
        replace q2 := Blk.drew q2
        replace q3 := Blk.drew q3
        replace HR := Below.drew HR
        have zHR := HR.size
        refine take_op (v := ?vu4x0) 0 (Op.load 33 (Operand.tmp 4)) 33 rfl rfl rfl rfl rfl (by kernel_rfl) (by kernel_rfl) (by kernel_rfl) (fun _ _ _ h => h) ?yu4x0 (by assumption) ?ru4x0
        case yu4x0 => (intro w' hSw; (try dsimp only at hSw); go_simp; try (with_reducible rfl))
        simp only [List.setIfInBounds_toArray, List.set_cons_zero, List.set_cons_succ]
        refine take_op (v := ?vu4x1) 1 (Op.fieldAddr 71 (Operand.tmp 9) 3) 0 rfl rfl rfl rfl rfl (by kernel_rfl) (by kernel_rfl) (by kernel_rfl) (fun _ _ _ h => h) ?yu4x1 (by assumption) ?ru4x1
        case yu4x1 => (intro w' hSw; (try dsimp only at hSw); go_simp; try (with_reducible rfl))
        simp only [List.setIfInBounds_toArray, List.set_cons_zero, List.set_cons_succ]
        refine take_op (v := ?vu4x2) 2 (Op.load 69 (Operand.tmp 32)) 69 rfl rfl rfl rfl rfl (by kernel_rfl) (by kernel_rfl) (by kernel_rfl) (fun _ _ _ h => h) ?yu4x2 (by assumption) ?ru4x2
        case yu4x2 => (intro w' hSw; (try dsimp only at hSw); go_simp; try (with_reducible rfl))
        simp only [List.setIfInBounds_toArray, List.set_cons_zero, List.set_cons_succ]
        refine take_movev (v := ?vu4x3) 3 (Operand.tmp 13) rfl rfl (by first | exact .inl rfl | exact .inr rfl) rfl (by kernel_rfl) (by kernel_rfl) (by kernel_rfl) (fun _ _ _ h => h) (by assumption) ?yu4x3 ?ru4x3
        case yu4x3 => (go_simp; try (with_reducible rfl))
        simp only [List.setIfInBounds_toArray, List.set_cons_zero, List.set_cons_succ]
        refine take_op (v := ?vu4x4) 4 (Op.indexAddr 69 (Operand.tmp 33) (Operand.tmp 34)) 0 rfl rfl rfl rfl rfl (by kernel_rfl) (by kernel_rfl) (by kernel_rfl) (fun _ _ _ h => h) ?yu4x4 (by assumption) ?ru4x4
        case yu4x4 => (intro w' hSw; (try dsimp only at hSw); go_simp; try (with_reducible rfl))
        simp only [List.setIfInBounds_toArray, List.set_cons_zero, List.set_cons_succ]
        refine take_op (v := ?vu4x5) 5 (Op.load 3 (Operand.tmp 35)) 3 rfl rfl rfl rfl rfl (by kernel_rfl) (by kernel_rfl) (by kernel_rfl) (fun _ _ _ h => h) ?yu4x5 (by assumption) ?ru4x5
        case yu4x5 => (intro w' hSw; (try dsimp only at hSw); go_simp; try (with_reducible rfl))
        simp only [List.setIfInBounds_toArray, List.set_cons_zero, List.set_cons_succ]
        refine take_op (v := ?vu4x6) 6 (Op.load 25 (Operand.tmp 6)) 25 rfl rfl rfl rfl rfl (by kernel_rfl) (by kernel_rfl) (by kernel_rfl) (fun _ _ _ h => h) ?yu4x6 (by assumption) ?ru4x6
        case yu4x6 => (intro w' hSw; (try dsimp only at hSw); go_simp; try (with_reducible rfl))
        simp only [List.setIfInBounds_toArray, List.set_cons_zero, List.set_cons_succ]
        refine take_movev (v := ?vu4x7) 7 (Operand.tmp 3) rfl rfl (by first | exact .inl rfl | exact .inr rfl) rfl (by kernel_rfl) (by kernel_rfl) (by kernel_rfl) (fun _ _ _ h => h) (by assumption) ?yu4x7 ?ru4x7
        case yu4x7 => (go_simp; try (with_reducible rfl))
        simp only [List.setIfInBounds_toArray, List.set_cons_zero, List.set_cons_succ]
        refine wpAnyH_ready (rs := [8]) (by kernel_rfl) (by simp) (AllReadyH.cons rfl (fun K8 hK8 => ?ku4x8) AllReadyH.nil)
        refine take_calls 8 10 [Operand.tmp 31, Operand.tmp 36, Operand.tmp 37, Operand.tmp 38] #[33, 3, 25, 4] rfl rfl (by kernel_rfl) (fun args w => run_enter Tryz.func10 (by kernel_rfl) rfl args w) ?_
        refine (HCI.out _ (hB1.trans (HR.mono hB1.size))).mono ?_
        rintro e w8 ⟨rfl, hb8⟩
        refine ⟨_, rfl, ?_⟩
        have z8 := hb8.size
        try simp only [World.size_drew] at z8
        replace q1 := Blk.below q1 hb8 (by first | exact Nat.le_refl _ | (simp only [World.size_alloc, World.size_setCell, World.size_drew] at *; omega) | omega)
        replace q2 := Blk.below q2 hb8 (by first | exact Nat.le_refl _ | (simp only [World.size_alloc, World.size_setCell, World.size_drew] at *; omega) | omega)
        replace q3 := Blk.below q3 hb8 (by first | exact Nat.le_refl _ | (simp only [World.size_alloc, World.size_setCell, World.size_drew] at *; omega) | omega)
        replace HR := HR.trans (hb8.mono (by first | exact HR.size | omega))
        have zHR8 := HR.size
        refine hK8.out _ _ ?su4x8 (fun hHeld => ?ru4x8)
        case su4x8 => ((try dsimp only); exact ⟨q1.cell_ 0 rfl, q1.cell_ 1 rfl, q1.cell_ 2 rfl, q2.cell_ 0 rfl, q2.cell_ 1 rfl, q2.cell_ 2 rfl, q2.cell_ 3 rfl, q2.cell_ 4 rfl, q2.cell_ 5 rfl, q2.cell_ 6 rfl, q3.cell_ 4 rfl, (HR.cell (p := ⟨b3, o3 + i, none⟩) hb31).trans hcj1⟩)
        try simp only [List.setIfInBounds_toArray, List.set_cons_zero, List.set_cons_succ]
        refine take_op (v := ?vu4x9) 9 (Op.assign (Operand.tmp 39)) 4 rfl rfl rfl rfl rfl (by kernel_rfl) (by kernel_rfl) (by kernel_rfl) (fun _ _ _ h => h) ?yu4x9 (by assumption) ?ru4x9
        case yu4x9 => (intro w' hSw; (try dsimp only at hSw); go_simp; try (with_reducible rfl))
        simp only [List.setIfInBounds_toArray, List.set_cons_zero, List.set_cons_succ]
        refine wpAnyH_done (by kernel_rfl) ?_ _
        have Q2 := Q1.below HR
        cases av <;> cases sv <;> cases is
        all_goals
          go_wp2_with fail
          go_roundw
          case rel => exact ⟨i + 1, by omega, by go_num, by rw [hna.out]; rfl, by rw [hns.out]; rfl, Q2⟩
          case measure => simp [intOf]; omega
      · have hiI : ¬ (i : Int) < (n3 : Int) := by omega
        have hbt : bl.take i = bl := List.take_of_length_le (by have := HBL.out; omega)
        have HA := HAV.out
        have HSS := HSV.out
        rw [hbt] at HA HSS
        have HA2 := Lib.hid HA
        have HS2 := Lib.hid HSS
        clear HA HSS hbt
        cases av <;> cases sv
        all_goals
          go_wp2_with fail
          go_ret
          exact ⟨ret_bool (by first | (show _ = (bl.any id); rw [HS2.out]) | (show _ = (bl.all id); rw [HA2.out])), hB1⟩
  · have kw0 : (byW true == [116, 105, 99, 107]) = false := by decide
    have kw1 : (byW true == [115, 101, 113]) = false := by decide
    have kw2 : (byW true == [115, 105, 122, 101]) = false := by decide
    have kw3 : (byW true == [104, 97, 115]) = false := by decide
    have kw4 : (byW true == [97, 108, 108]) = false := by decide
    have kw5 : (byW true == [110, 111, 116]) = false := by decide
    go_enter Tryz.func10, Tryz.ntmps10
    go_wp2_with fail
    refine (SkpW.rseqs_any m w1 hc hf).mono ?_
    rintro e w2 ⟨rfl, hb2⟩
    rw [hsq]
    have Q2 := Q.below hb2
    have HB2 := Q2.bel
    have Q2z := Q2.hz
    have Q3 := Q2.below (w' := w2.alloc (.cells #[.int .i64 sq.1, .int .i64 sq.2] 68)) ((Below.refl _ w2).alloc (Nat.le_refl _) _)
    have R3 := Blk.new w2 68 #[.int .i64 sq.1, .int .i64 sq.2]
    have HB3 := Q3.bel
    have Q3z := Q3.hz
    clear x0 x1 x2 y0 y1 y2 y3 y4 y5 y6 z0 z1 z2 z3 z4
    obtain ⟨w3, hw3⟩ : ∃ w3, w2.alloc (.cells #[.int .i64 sq.1, .int .i64 sq.2] 68) = w3 := ⟨_, rfl⟩
    rw [hw3] at Q3 R3 HB3 Q3z
    have hz23 : w2.heap.size + 1 ≤ w3.heap.size := by have := R3.lt; omega
    obtain ⟨x0, x1, x2, _⟩ := blk3 Q3.b1
    obtain ⟨y0, y1, y2, y3, y4, y5, y6⟩ := blk7 Q3.b2
    obtain ⟨z0, z1, z2, z3, z4, _⟩ := blk5 Q3.b3
    obtain ⟨r0, r1, g0, g1, _⟩ := blk2 R3
    go_wp2_with fail
    clear x0 x1 x2 y0 y1 y2 y3 y4 y5 y6 z0 z1 z2 z3 z4 r0 r1 g0 g1
    go_loopw [11, 12, 13] (fun av sv iv wr => ∃ i : Nat, i ≤ l.length ∧ iv = .int .i64 (i : Nat) ∧ av = .bool ((bl.take i).all id) ∧ sv = .bool ((bl.take i).any id) ∧ Asked w wr w.heap.size 25 #[.slice (some ⟨b, o, none⟩) n c, .int .i64 sz, .int .i64 dp] (mc m) ⟨byW true, 0, 0, [], js⟩ (.slice (some ⟨b3, o3, none⟩) n3 c3')) (fun _ _ iv _ => l.length - (intOf iv).toNat)
    case atStart => exact ⟨0, by omega, rfl, rfl, rfl, Q3⟩
    case round =>
      obtain ⟨i, hi, rfl, rfl, rfl, Q1⟩ := hrel
      obtain ⟨x0, x1, x2, _⟩ := blk3 Q1.b1
      obtain ⟨y0, y1, y2, y3, y4, y5, y6⟩ := blk7 Q1.b2
      obtain ⟨z0, z1, z2, z3, z4, _⟩ := blk5 Q1.b3
      have hB1 := Q1.bel
      have hQz := Q1.hz
      obtain ⟨av, hav⟩ : ∃ av, (bl.take i).all id = av := ⟨_, rfl⟩
      obtain ⟨sv, hsv⟩ : ∃ sv, (bl.take i).any id = sv := ⟨_, rfl⟩
      rw [hav, hsv]
      have HAV := Lib.hid hav
      have HSV := Lib.hid hsv
      clear hav hsv
      by_cases hlt : i < l.length
      · have hiI : (i : Int) < (n3 : Int) := by omega
        have hi0 : (0 : Int) ≤ (i : Int) := by omega
        have hi1 : IntKind.i64.wrap ((i : Int) + 1) = (i : Int) + 1 := w64k (by omega) (by omega)
        have hij : i < js.length := by have := HJL.out; omega
        have hib : i < bl.length := by have := HBL.out; omega
        obtain ⟨is, his⟩ : ∃ is, bl[i] = is := ⟨_, rfl⟩
        have HIS := Lib.hid his
        have HCI : Hid (∀ w', Below w.heap.size w w' → _) := Lib.hid (fun w' hb => HC.out i hlt hij w' hb)
        rw [HBI.out i hlt hib, his] at HCI
        have hcj1 := (hB1.cell (p := ⟨b3, o3 + i, none⟩) hb3).trans (HCJ.out i hij)
        obtain ⟨jj, hjj⟩ : ∃ jj, js[i] = jj := ⟨_, rfl⟩
        rw [hjj] at hcj1 HCI
        have hna : Hid ((bl.take (i + 1)).all id = (av && is)) := Lib.hid (by rw [take_all bl i hib, HAV.out, his])
        have hns : Hid ((bl.take (i + 1)).any id = (sv || is)) := Lib.hid (by rw [take_any bl i hib, HSV.out, his])
        have q1 := Q1.b1
        have q2 := Q1.b2
        have q3 := Q1.b3
        have HR := Below.refl wr.heap.size wr
        have hb31 : b3 < wr.heap.size := by omega
        clear his hjj
        go_wp2_with fail
        refine wp_region_held_drew (S := (fun w' => w'.cell? ⟨w.heap.size, 0, none⟩ = some (.slice (some ⟨b, o, none⟩) n c) ∧ w'.cell? ⟨w.heap.size, 1, none⟩ = some (.int .i64 sz) ∧ w'.cell? ⟨w.heap.size, 2, none⟩ = some (.int .i64 dp) ∧ w'.cell? ⟨w.heap.size + 1, 0, none⟩ = some (.int .i64 m.at_) ∧ w'.cell? ⟨w.heap.size + 1, 1, none⟩ = some (.int .i64 m.size) ∧ w'.cell? ⟨w.heap.size + 1, 2, none⟩ = some (.int .i64 m.raw) ∧ w'.cell? ⟨w.heap.size + 1, 3, none⟩ = some (.int .i64 m.count) ∧ w'.cell? ⟨w.heap.size + 1, 4, none⟩ = some (.int .i64 m.first) ∧ w'.cell? ⟨w.heap.size + 1, 5, none⟩ = some (.int .i64 m.early) ∧ w'.cell? ⟨w.heap.size + 1, 6, none⟩ = some (.int .i64 m.late) ∧ w'.cell? ⟨w.heap.size + 1 + 1, 4, none⟩ = some (.slice (some ⟨b3, o3, none⟩) n3 c3') ∧ w'.cell? ⟨b3, o3 + i, none⟩ = some (.int .i64 (jj : Nat)))) (by kernel_rfl) ?_ (fun hHeld => ?_)
        · replace q1 := Blk.drew q1; replace q2 := Blk.drew q2; replace q3 := Blk.drew q3; replace HR := Below.drew HR; (try dsimp only); exact ⟨q1.cell_ 0 rfl, q1.cell_ 1 rfl, q1.cell_ 2 rfl, q2.cell_ 0 rfl, q2.cell_ 1 rfl, q2.cell_ 2 rfl, q2.cell_ 3 rfl, q2.cell_ 4 rfl, q2.cell_ 5 rfl, q2.cell_ 6 rfl, q3.cell_ 4 rfl, (HR.cell (p := ⟨b3, o3 + i, none⟩) hb31).trans hcj1⟩
        replace q1 := Blk.drew q1
        replace q2 := Blk.drew q2
        replace q3 := Blk.drew q3
        replace HR := Below.drew HR
        have zHR := HR.size
        refine take_op (v := ?vu5x0) 0 (Op.load 33 (Operand.tmp 4)) 33 rfl rfl rfl rfl rfl (by kernel_rfl) (by kernel_rfl) (by kernel_rfl) (fun _ _ _ h => h) ?yu5x0 (by assumption) ?ru5x0
        case yu5x0 => (intro w' hSw; (try dsimp only at hSw); go_simp; try (with_reducible rfl))
        simp only [List.setIfInBounds_toArray, List.set_cons_zero, List.set_cons_succ]
        refine take_op (v := ?vu5x1) 1 (Op.fieldAddr 71 (Operand.tmp 9) 3) 0 rfl rfl rfl rfl rfl (by kernel_rfl) (by kernel_rfl) (by kernel_rfl) (fun _ _ _ h => h) ?yu5x1 (by assumption) ?ru5x1
        case yu5x1 => (intro w' hSw; (try dsimp only at hSw); go_simp; try (with_reducible rfl))
        simp only [List.setIfInBounds_toArray, List.set_cons_zero, List.set_cons_succ]
        refine take_op (v := ?vu5x2) 2 (Op.load 69 (Operand.tmp 32)) 69 rfl rfl rfl rfl rfl (by kernel_rfl) (by kernel_rfl) (by kernel_rfl) (fun _ _ _ h => h) ?yu5x2 (by assumption) ?ru5x2
        case yu5x2 => (intro w' hSw; (try dsimp only at hSw); go_simp; try (with_reducible rfl))
        simp only [List.setIfInBounds_toArray, List.set_cons_zero, List.set_cons_succ]
        refine take_movev (v := ?vu5x3) 3 (Operand.tmp 13) rfl rfl (by first | exact .inl rfl | exact .inr rfl) rfl (by kernel_rfl) (by kernel_rfl) (by kernel_rfl) (fun _ _ _ h => h) (by assumption) ?yu5x3 ?ru5x3
        case yu5x3 => (go_simp; try (with_reducible rfl))
        simp only [List.setIfInBounds_toArray, List.set_cons_zero, List.set_cons_succ]
        refine take_op (v := ?vu5x4) 4 (Op.indexAddr 69 (Operand.tmp 33) (Operand.tmp 34)) 0 rfl rfl rfl rfl rfl (by kernel_rfl) (by kernel_rfl) (by kernel_rfl) (fun _ _ _ h => h) ?yu5x4 (by assumption) ?ru5x4
        case yu5x4 => (intro w' hSw; (try dsimp only at hSw); go_simp; try (with_reducible rfl))
        simp only [List.setIfInBounds_toArray, List.set_cons_zero, List.set_cons_succ]
        refine take_op (v := ?vu5x5) 5 (Op.load 3 (Operand.tmp 35)) 3 rfl rfl rfl rfl rfl (by kernel_rfl) (by kernel_rfl) (by kernel_rfl) (fun _ _ _ h => h) ?yu5x5 (by assumption) ?ru5x5
        case yu5x5 => (intro w' hSw; (try dsimp only at hSw); go_simp; try (with_reducible rfl))
        simp only [List.setIfInBounds_toArray, List.set_cons_zero, List.set_cons_succ]
        refine take_op (v := ?vu5x6) 6 (Op.load 25 (Operand.tmp 6)) 25 rfl rfl rfl rfl rfl (by kernel_rfl) (by kernel_rfl) (by kernel_rfl) (fun _ _ _ h => h) ?yu5x6 (by assumption) ?ru5x6
        case yu5x6 => (intro w' hSw; (try dsimp only at hSw); go_simp; try (with_reducible rfl))
        simp only [List.setIfInBounds_toArray, List.set_cons_zero, List.set_cons_succ]
        refine take_movev (v := ?vu5x7) 7 (Operand.tmp 3) rfl rfl (by first | exact .inl rfl | exact .inr rfl) rfl (by kernel_rfl) (by kernel_rfl) (by kernel_rfl) (fun _ _ _ h => h) (by assumption) ?yu5x7 ?ru5x7
        case yu5x7 => (go_simp; try (with_reducible rfl))
        simp only [List.setIfInBounds_toArray, List.set_cons_zero, List.set_cons_succ]
        refine wpAnyH_ready (rs := [8]) (by kernel_rfl) (by simp) (AllReadyH.cons rfl (fun K8 hK8 => ?ku5x8) AllReadyH.nil)
        refine take_calls 8 10 [Operand.tmp 31, Operand.tmp 36, Operand.tmp 37, Operand.tmp 38] #[33, 3, 25, 4] rfl rfl (by kernel_rfl) (fun args w => run_enter Tryz.func10 (by kernel_rfl) rfl args w) ?_
        refine (HCI.out _ (hB1.trans (HR.mono hB1.size))).mono ?_
        rintro e w8 ⟨rfl, hb8⟩
        refine ⟨_, rfl, ?_⟩
        have z8 := hb8.size
        try simp only [World.size_drew] at z8
        replace q1 := Blk.below q1 hb8 (by first | exact Nat.le_refl _ | (simp only [World.size_alloc, World.size_setCell, World.size_drew] at *; omega) | omega)
        replace q2 := Blk.below q2 hb8 (by first | exact Nat.le_refl _ | (simp only [World.size_alloc, World.size_setCell, World.size_drew] at *; omega) | omega)
        replace q3 := Blk.below q3 hb8 (by first | exact Nat.le_refl _ | (simp only [World.size_alloc, World.size_setCell, World.size_drew] at *; omega) | omega)
        replace HR := HR.trans (hb8.mono (by first | exact HR.size | omega))
        have zHR8 := HR.size
        refine hK8.out _ _ ?su5x8 (fun hHeld => ?ru5x8)
        case su5x8 => ((try dsimp only); exact ⟨q1.cell_ 0 rfl, q1.cell_ 1 rfl, q1.cell_ 2 rfl, q2.cell_ 0 rfl, q2.cell_ 1 rfl, q2.cell_ 2 rfl, q2.cell_ 3 rfl, q2.cell_ 4 rfl, q2.cell_ 5 rfl, q2.cell_ 6 rfl, q3.cell_ 4 rfl, (HR.cell (p := ⟨b3, o3 + i, none⟩) hb31).trans hcj1⟩)
        try simp only [List.setIfInBounds_toArray, List.set_cons_zero, List.set_cons_succ]
        refine take_op (v := ?vu5x9) 9 (Op.assign (Operand.tmp 39)) 4 rfl rfl rfl rfl rfl (by kernel_rfl) (by kernel_rfl) (by kernel_rfl) (fun _ _ _ h => h) ?yu5x9 (by assumption) ?ru5x9
        case yu5x9 => (intro w' hSw; (try dsimp only at hSw); go_simp; try (with_reducible rfl))
        simp only [List.setIfInBounds_toArray, List.set_cons_zero, List.set_cons_succ]
        refine wpAnyH_done (by kernel_rfl) ?_ _
        have Q2 := Q1.below HR
        cases av <;> cases sv <;> cases is
        all_goals
          go_wp2_with fail
          go_roundw
          case rel => exact ⟨i + 1, by omega, by go_num, by rw [hna.out]; rfl, by rw [hns.out]; rfl, Q2⟩
          case measure => simp [intOf]; omega
      · have hiI : ¬ (i : Int) < (n3 : Int) := by omega
        have hbt : bl.take i = bl := List.take_of_length_le (by have := HBL.out; omega)
        have HA := HAV.out
        have HSS := HSV.out
        rw [hbt] at HA HSS
        have HA2 := Lib.hid HA
        have HS2 := Lib.hid HSS
        clear HA HSS hbt
        cases av <;> cases sv
        all_goals
          go_wp2_with fail
          go_ret
          exact ⟨ret_bool (by first | (show _ = (bl.any id); rw [HS2.out]) | (show _ = (bl.all id); rw [HA2.out])), hB1⟩
  · have kw0 : (byW true == [116, 105, 99, 107]) = false := by decide
    have kw1 : (byW true == [115, 101, 113]) = false := by decide
    have kw2 : (byW true == [115, 105, 122, 101]) = false := by decide
    have kw3 : (byW true == [104, 97, 115]) = false := by decide
    have kw4 : (byW true == [97, 108, 108]) = false := by decide
    have kw5 : (byW true == [110, 111, 116]) = false := by decide
    go_enter Tryz.func10, Tryz.ntmps10
    go_wp2_with fail
    refine (SkpW.rseqs_any m w1 hc hf).mono ?_
    rintro e w2 ⟨rfl, hb2⟩
    rw [hsq]
    have Q2 := Q.below hb2
    have HB2 := Q2.bel
    have Q2z := Q2.hz
    have Q3 := Q2.below (w' := w2.alloc (.cells #[.int .i64 sq.1, .int .i64 sq.2] 68)) ((Below.refl _ w2).alloc (Nat.le_refl _) _)
    have R3 := Blk.new w2 68 #[.int .i64 sq.1, .int .i64 sq.2]
    have HB3 := Q3.bel
    have Q3z := Q3.hz
    clear x0 x1 x2 y0 y1 y2 y3 y4 y5 y6 z0 z1 z2 z3 z4
    obtain ⟨w3, hw3⟩ : ∃ w3, w2.alloc (.cells #[.int .i64 sq.1, .int .i64 sq.2] 68) = w3 := ⟨_, rfl⟩
    rw [hw3] at Q3 R3 HB3 Q3z
    have hz23 : w2.heap.size + 1 ≤ w3.heap.size := by have := R3.lt; omega
    obtain ⟨x0, x1, x2, _⟩ := blk3 Q3.b1
    obtain ⟨y0, y1, y2, y3, y4, y5, y6⟩ := blk7 Q3.b2
    obtain ⟨z0, z1, z2, z3, z4, _⟩ := blk5 Q3.b3
    obtain ⟨r0, r1, g0, g1, _⟩ := blk2 R3
    go_wp2_with fail
    clear x0 x1 x2 y0 y1 y2 y3 y4 y5 y6 z0 z1 z2 z3 z4 r0 r1 g0 g1
    go_loopw [11, 12, 13] (fun av sv iv wr => ∃ i : Nat, i ≤ l.length ∧ iv = .int .i64 (i : Nat) ∧ av = .bool ((bl.take i).all id) ∧ sv = .bool ((bl.take i).any id) ∧ Asked w wr w.heap.size 25 #[.slice (some ⟨b, o, none⟩) n c, .int .i64 sz, .int .i64 dp] (mc m) ⟨byW true, 0, 0, [], js⟩ (.slice (some ⟨b3, o3, none⟩) n3 c3')) (fun _ _ iv _ => l.length - (intOf iv).toNat)
    case atStart => exact ⟨0, by omega, rfl, rfl, rfl, Q3⟩
    case round =>
      obtain ⟨i, hi, rfl, rfl, rfl, Q1⟩ := hrel
      obtain ⟨x0, x1, x2, _⟩ := blk3 Q1.b1
      obtain ⟨y0, y1, y2, y3, y4, y5, y6⟩ := blk7 Q1.b2
      obtain ⟨z0, z1, z2, z3, z4, _⟩ := blk5 Q1.b3
      have hB1 := Q1.bel
      have hQz := Q1.hz
      obtain ⟨av, hav⟩ : ∃ av, (bl.take i).all id = av := ⟨_, rfl⟩
      obtain ⟨sv, hsv⟩ : ∃ sv, (bl.take i).any id = sv := ⟨_, rfl⟩
      rw [hav, hsv]
      have HAV := Lib.hid hav
      have HSV := Lib.hid hsv
      clear hav hsv
      by_cases hlt : i < l.length
      · have hiI : (i : Int) < (n3 : Int) := by omega
        have hi0 : (0 : Int) ≤ (i : Int) := by omega
        have hi1 : IntKind.i64.wrap ((i : Int) + 1) = (i : Int) + 1 := w64k (by omega) (by omega)
        have hij : i < js.length := by have := HJL.out; omega
        have hib : i < bl.length := by have := HBL.out; omega
        obtain ⟨is, his⟩ : ∃ is, bl[i] = is := ⟨_, rfl⟩
        have HIS := Lib.hid his
        have HCI : Hid (∀ w', Below w.heap.size w w' → _) := Lib.hid (fun w' hb => HC.out i hlt hij w' hb)
        rw [HBI.out i hlt hib, his] at HCI
        have hcj1 := (hB1.cell (p := ⟨b3, o3 + i, none⟩) hb3).trans (HCJ.out i hij)
        obtain ⟨jj, hjj⟩ : ∃ jj, js[i] = jj := ⟨_, rfl⟩
        rw [hjj] at hcj1 HCI
        have hna : Hid ((bl.take (i + 1)).all id = (av && is)) := Lib.hid (by rw [take_all bl i hib, HAV.out, his])
        have hns : Hid ((bl.take (i + 1)).any id = (sv || is)) := Lib.hid (by rw [take_any bl i hib, HSV.out, his])
        have q1 := Q1.b1
        have q2 := Q1.b2
        have q3 := Q1.b3
        have HR := Below.refl wr.heap.size wr
        have hb31 : b3 < wr.heap.size := by omega
        clear his hjj
        go_wp2_with fail
        refine wp_region_held_drew (S := (fun w' => w'.cell? ⟨w.heap.size, 0, none⟩ = some (.slice (some ⟨b, o, none⟩) n c) ∧ w'.cell? ⟨w.heap.size, 1, none⟩ = some (.int .i64 sz) ∧ w'.cell? ⟨w.heap.size, 2, none⟩ = some (.int .i64 dp) ∧ w'.cell? ⟨w.heap.size + 1, 0, none⟩ = some (.int .i64 m.at_) ∧ w'.cell? ⟨w.heap.size + 1, 1, none⟩ = some (.int .i64 m.size) ∧ w'.cell? ⟨w.heap.size + 1, 2, none⟩ = some (.int .i64 m.raw) ∧ w'.cell? ⟨w.heap.size + 1, 3, none⟩ = some (.int .i64 m.count) ∧ w'.cell? ⟨w.heap.size + 1, 4, none⟩ = some (.int .i64 m.first) ∧ w'.cell? ⟨w.heap.size + 1, 5, none⟩ = some (.int .i64 m.early) ∧ w'.cell? ⟨w.heap.size + 1, 6, none⟩ = some (.int .i64 m.late) ∧ w'.cell? ⟨w.heap.size + 1 + 1, 4, none⟩ = some (.slice (some ⟨b3, o3, none⟩) n3 c3') ∧ w'.cell? ⟨b3, o3 + i, none⟩ = some (.int .i64 (jj : Nat)))) (by kernel_rfl) ?_ (fun hHeld => ?_)
        · replace q1 := Blk.drew q1; replace q2 := Blk.drew q2; replace q3 := Blk.drew q3; replace HR := Below.drew HR; (try dsimp only); exact ⟨q1.cell_ 0 rfl, q1.cell_ 1 rfl, q1.cell_ 2 rfl, q2.cell_ 0 rfl, q2.cell_ 1 rfl, q2.cell_ 2 rfl, q2.cell_ 3 rfl, q2.cell_ 4 rfl, q2.cell_ 5 rfl, q2.cell_ 6 rfl, q3.cell_ 4 rfl, (HR.cell (p := ⟨b3, o3 + i, none⟩) hb31).trans hcj1⟩
        replace q1 := Blk.drew q1
        replace q2 := Blk.drew q2
        replace q3 := Blk.drew q3
        replace HR := Below.drew HR
        have zHR := HR.size
        refine take_op (v := ?vu6x0) 0 (Op.load 33 (Operand.tmp 4)) 33 rfl rfl rfl rfl rfl (by kernel_rfl) (by kernel_rfl) (by kernel_rfl) (fun _ _ _ h => h) ?yu6x0 (by assumption) ?ru6x0
        case yu6x0 => (intro w' hSw; (try dsimp only at hSw); go_simp; try (with_reducible rfl))
        simp only [List.setIfInBounds_toArray, List.set_cons_zero, List.set_cons_succ]
        refine take_op (v := ?vu6x1) 1 (Op.fieldAddr 71 (Operand.tmp 9) 3) 0 rfl rfl rfl rfl rfl (by kernel_rfl) (by kernel_rfl) (by kernel_rfl) (fun _ _ _ h => h) ?yu6x1 (by assumption) ?ru6x1
        case yu6x1 => (intro w' hSw; (try dsimp only at hSw); go_simp; try (with_reducible rfl))
        simp only [List.setIfInBounds_toArray, List.set_cons_zero, List.set_cons_succ]
        refine take_op (v := ?vu6x2) 2 (Op.load 69 (Operand.tmp 32)) 69 rfl rfl rfl rfl rfl (by kernel_rfl) (by kernel_rfl) (by kernel_rfl) (fun _ _ _ h => h) ?yu6x2 (by assumption) ?ru6x2
        case yu6x2 => (intro w' hSw; (try dsimp only at hSw); go_simp; try (with_reducible rfl))
        simp only [List.setIfInBounds_toArray, List.set_cons_zero, List.set_cons_succ]
        refine take_movev (v := ?vu6x3) 3 (Operand.tmp 13) rfl rfl (by first | exact .inl rfl | exact .inr rfl) rfl (by kernel_rfl) (by kernel_rfl) (by kernel_rfl) (fun _ _ _ h => h) (by assumption) ?yu6x3 ?ru6x3
        case yu6x3 => (go_simp; try (with_reducible rfl))
        simp only [List.setIfInBounds_toArray, List.set_cons_zero, List.set_cons_succ]
        refine take_op (v := ?vu6x4) 4 (Op.indexAddr 69 (Operand.tmp 33) (Operand.tmp 34)) 0 rfl rfl rfl rfl rfl (by kernel_rfl) (by kernel_rfl) (by kernel_rfl) (fun _ _ _ h => h) ?yu6x4 (by assumption) ?ru6x4
        case yu6x4 => (intro w' hSw; (try dsimp only at hSw); go_simp; try (with_reducible rfl))
        simp only [List.setIfInBounds_toArray, List.set_cons_zero, List.set_cons_succ]
        refine take_op (v := ?vu6x5) 5 (Op.load 3 (Operand.tmp 35)) 3 rfl rfl rfl rfl rfl (by kernel_rfl) (by kernel_rfl) (by kernel_rfl) (fun _ _ _ h => h) ?yu6x5 (by assumption) ?ru6x5
        case yu6x5 => (intro w' hSw; (try dsimp only at hSw); go_simp; try (with_reducible rfl))
        simp only [List.setIfInBounds_toArray, List.set_cons_zero, List.set_cons_succ]
        refine take_op (v := ?vu6x6) 6 (Op.load 25 (Operand.tmp 6)) 25 rfl rfl rfl rfl rfl (by kernel_rfl) (by kernel_rfl) (by kernel_rfl) (fun _ _ _ h => h) ?yu6x6 (by assumption) ?ru6x6
        case yu6x6 => (intro w' hSw; (try dsimp only at hSw); go_simp; try (with_reducible rfl))
        simp only [List.setIfInBounds_toArray, List.set_cons_zero, List.set_cons_succ]
        refine take_movev (v := ?vu6x7) 7 (Operand.tmp 3) rfl rfl (by first | exact .inl rfl | exact .inr rfl) rfl (by kernel_rfl) (by kernel_rfl) (by kernel_rfl) (fun _ _ _ h => h) (by assumption) ?yu6x7 ?ru6x7
        case yu6x7 => (go_simp; try (with_reducible rfl))
        simp only [List.setIfInBounds_toArray, List.set_cons_zero, List.set_cons_succ]
        refine wpAnyH_ready (rs := [8]) (by kernel_rfl) (by simp) (AllReadyH.cons rfl (fun K8 hK8 => ?ku6x8) AllReadyH.nil)
        refine take_calls 8 10 [Operand.tmp 31, Operand.tmp 36, Operand.tmp 37, Operand.tmp 38] #[33, 3, 25, 4] rfl rfl (by kernel_rfl) (fun args w => run_enter Tryz.func10 (by kernel_rfl) rfl args w) ?_
        refine (HCI.out _ (hB1.trans (HR.mono hB1.size))).mono ?_
        rintro e w8 ⟨rfl, hb8⟩
        refine ⟨_, rfl, ?_⟩
        have z8 := hb8.size
        try simp only [World.size_drew] at z8
        replace q1 := Blk.below q1 hb8 (by first | exact Nat.le_refl _ | (simp only [World.size_alloc, World.size_setCell, World.size_drew] at *; omega) | omega)
        replace q2 := Blk.below q2 hb8 (by first | exact Nat.le_refl _ | (simp only [World.size_alloc, World.size_setCell, World.size_drew] at *; omega) | omega)
        replace q3 := Blk.below q3 hb8 (by first | exact Nat.le_refl _ | (simp only [World.size_alloc, World.size_setCell, World.size_drew] at *; omega) | omega)
        replace HR := HR.trans (hb8.mono (by first | exact HR.size | omega))
        have zHR8 := HR.size
        refine hK8.out _ _ ?su6x8 (fun hHeld => ?ru6x8)
        case su6x8 => ((try dsimp only); exact ⟨q1.cell_ 0 rfl, q1.cell_ 1 rfl, q1.cell_ 2 rfl, q2.cell_ 0 rfl, q2.cell_ 1 rfl, q2.cell_ 2 rfl, q2.cell_ 3 rfl, q2.cell_ 4 rfl, q2.cell_ 5 rfl, q2.cell_ 6 rfl, q3.cell_ 4 rfl, (HR.cell (p := ⟨b3, o3 + i, none⟩) hb31).trans hcj1⟩)
        try simp only [List.setIfInBounds_toArray, List.set_cons_zero, List.set_cons_succ]
        refine take_op (v := ?vu6x9) 9 (Op.assign (Operand.tmp 39)) 4 rfl rfl rfl rfl rfl (by kernel_rfl) (by kernel_rfl) (by kernel_rfl) (fun _ _ _ h => h) ?yu6x9 (by assumption) ?ru6x9
        case yu6x9 => (intro w' hSw; (try dsimp only at hSw); go_simp; try (with_reducible rfl))
        simp only [List.setIfInBounds_toArray, List.set_cons_zero, List.set_cons_succ]
        refine wpAnyH_done (by kernel_rfl) ?_ _
        have Q2 := Q1.below HR
        cases av <;> cases sv <;> cases is
        all_goals
          go_wp2_with fail
          go_roundw
          case rel => exact ⟨i + 1, by omega, by go_num, by rw [hna.out]; rfl, by rw [hns.out]; rfl, Q2⟩
          case measure => simp [intOf]; omega
      · have hiI : ¬ (i : Int) < (n3 : Int) := by omega
        have hbt : bl.take i = bl := List.take_of_length_le (by have := HBL.out; omega)
        have HA := HAV.out
        have HSS := HSV.out
        rw [hbt] at HA HSS
        have HA2 := Lib.hid HA
        have HS2 := Lib.hid HSS
        clear HA HSS hbt
        cases av <;> cases sv
        all_goals
          go_wp2_with fail
          go_ret
          exact ⟨ret_bool (by first | (show _ = (bl.any id); rw [HS2.out]) | (show _ = (bl.all id); rw [HA2.out])), hB1⟩
mutual
theorem rma_any (m : Me) (hc : I64 m.count) (hf : I64 m.first) : ∀ n : Nd, wfN n → szN n ≤ 1000 → RMa m n
  | .within 0 lo hi, hw, _ => rma_seq m hc hf lo hi
  | .within 1 lo hi, hw, _ => rma_tick m hc hf lo hi
  | .within 2 lo hi, hw, _ => rma_size m hc hf lo hi
  | .within (kk + 3) lo hi, hw, _ => absurd hw.1 (by omega)
  | .has u, hw, _ => rma_has m hc hf u
  | .all, _, _ => rma_all m hc hf
  | .not x, hw, hz => rma_not m hc hf x (rma_any m hc hf x hw (by simp only [szN] at hz; omega))
  | .row o l, hw, hz => by
    have hl := len_sz o l hw.2
    simp only [szN] at hz
    exact rma_row m hc hf o l hw.1 (by omega) (rma_list m hc hf o l hw.2 hz)
theorem rma_list (m : Me) (hc : I64 m.count) (hf : I64 m.first) (o : Bool) : ∀ l : List Nd, wfL o l → szL l ≤ 1000 → ∀ i (h : i < l.length), RMa m l[i]
  | [], _, _, i, h => by simp at h
  | a :: l, hw, hz, i, h => by
    simp only [szL] at hz
    cases i with
    | zero => exact rma_any m hc hf a hw.1 (by omega)
    | succ i => exact rma_list m hc hf o l hw.2.2 (by omega) i (by simp at h; omega)
end
end SieW
end Go.Proofs.YtdeiehgghhiijaaGreatDoor
