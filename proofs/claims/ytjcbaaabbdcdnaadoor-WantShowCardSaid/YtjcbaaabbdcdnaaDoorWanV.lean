/- The walks of the laws of package want: WantShows, WantParses. -/
import Derived.Test.YtjcbaaabbdcdnaaDoorWanU
namespace Go.Proofs.YtjcbaaabbdcdnaaDoor
set_option linter.unusedVariables false
set_option linter.unusedSimpArgs false
set_option linter.unnecessarySimpa false
open Go.RowKit
namespace WanW
open SkpW (Qy qv qc chkQ)

set_option maxRecDepth 100000 in
set_option maxHeartbeats 8000000 in
theorem wantShows_any (q : Qy) (w : World) (h : Wo w) : Calls Tryd.prog 4 #[qv q] w fun e w' => e = .returned (.bool true) ∧ Below w.heap.size w w' := by
  have HB := (Below.refl w.heap.size w).alloc (Nat.le_refl _) (.cells (qc q) 26)
  have g1 := Blk.new w 26 (qc q)
  obtain ⟨w0, hw0⟩ : ∃ w0, w.alloc (.cells (qc q) 26) = w0 := ⟨_, rfl⟩
  have W0 := h.below HB
  rw [hw0] at HB g1 W0
  have z0 := HB.size
  obtain ⟨x0, x1, x2, x3, x4, x5, x6⟩ := SkpW.blk7 g1
  by_cases hl : 1000 < q.find.length
  · have hI : (1000 : Int) < (q.find.length : Int) := by omega
    go_enter Tryd.func4, Tryd.ntmps4
    go_wp2_with fail
    refine (awake_any _ W0).mono ?_
    rintro e w1 ⟨rfl, b1⟩
    go_wp2_with fail
    go_ret
    exact ⟨rfl, HB.trans (b1.mono z0)⟩
  · have hI : ¬ (1000 : Int) < (q.find.length : Int) := by omega
    obtain ⟨⟨v, e⟩, hv⟩ : ∃ p, showV q = p := ⟨_, rfl⟩
    have C1 := fun w h => show_any q w h v e hv
    have C2 := fun w => refShow_any q w v e hv
    have hvv : (v == v) = true := beq_self_eq_true v
    clear hv
    go_enter Tryd.func4, Tryd.ntmps4
    go_wp2_with fail
    refine (C1 _ W0).mono ?_
    rintro e w1 ⟨rfl, b1⟩
    clear hw0 x0 x1 x2 x3 x4 x5 x6
    have g2 := g1.below b1 g1.lt
    have B2 := HB.trans (b1.mono z0)
    have z2 := B2.size
    obtain ⟨x0, x1, x2, x3, x4, x5, x6⟩ := SkpW.blk7 g2
    go_wp2_with fail
    refine (C2 _).mono ?_
    rintro e w2 ⟨rfl, b2⟩
    have B3 := B2.trans (b2.mono z2)
    have W3 := h.below B3
    go_wp2_with fail
    refine (awake_any _ W3).mono ?_
    rintro e w3 ⟨rfl, b3⟩
    go_wp2_with fail
    go_ret
    exact ⟨rfl, B3.trans (b3.mono B3.size)⟩
set_option maxRecDepth 100000 in
set_option maxHeartbeats 8000000 in
theorem wantParses_any (s : List UInt8) (w : World) (h : Wo w) : Calls Tryd.prog 3 #[str s] w fun e w' => e = .returned (.bool true) ∧ Below w.heap.size w w' := by
  have B0 := Below.refl w.heap.size w
  by_cases hl : 2000 < s.length
  · have hI : (2000 : Int) < (s.length : Int) := by omega
    go_enter Tryd.func3, Tryd.ntmps3
    go_wp2_with fail
    refine (awake_any _ h).mono ?_
    rintro e w1 ⟨rfl, b1⟩
    go_wp2_with fail
    go_ret
    exact ⟨rfl, b1⟩
  · have hI : ¬ (2000 : Int) < (s.length : Int) := by omega
    obtain ⟨⟨q, at', e'⟩, hv⟩ : ∃ p, parseV s = p := ⟨_, rfl⟩
    obtain ⟨⟨n, b⟩, hn⟩ : ∃ p, numV s = p := ⟨_, rfl⟩
    obtain ⟨⟨u, c⟩, hu⟩ : ∃ p, unhexV s = p := ⟨_, rfl⟩
    have C1 := Lib.hid (fun w h => parse_any s w h (by omega) q at' e' hv)
    have C2 := Lib.hid (fun w => refParse_any s w (by omega) q at' e' hv)
    have C3 := Lib.hid (fun w => number_any s w n b hn (by omega))
    have C4 := Lib.hid (fun w => refNumber_any s w n b hn (by omega))
    have C5 := Lib.hid (fun w => unhex_any s w u c hu (by omega))
    have C6 := Lib.hid (fun w => refUnhex_any s w u c hu (by omega))
    have C7 := Lib.hid (fun w => hex_any s w (by omega))
    have C8 := Lib.hid (fun w => refHex_any s w (by omega))
    clear hv hn hu
    obtain ⟨hx, hhx⟩ : ∃ x, hexL s = x := ⟨_, rfl⟩
    rw [hhx] at C7 C8
    clear hhx
    have hvv : (u == u) = true := beq_self_eq_true u
    have hxx : (hx == hx) = true := beq_self_eq_true hx
    have hff : (q.find == q.find) = true := beq_self_eq_true _
    have hbb : (b == b) = true := by simp
    have hcc : (c == c) = true := by simp
    go_enter Tryd.func3, Tryd.ntmps3
    go_wp2_with fail
    refine (C1.out _ h).mono ?_
    rintro e w1 ⟨rfl, b1⟩
    have B1 := B0.trans b1
    have z1 := B1.size
    have B2 := B1.alloc z1 (.cells (qc q) 26)
    have G2 := Blk.new w1 26 (qc q)
    obtain ⟨gA, hgA⟩ : ∃ g, w1.heap.size = g := ⟨_, rfl⟩
    obtain ⟨w2, hw2⟩ : ∃ w2, w1.alloc (.cells (qc q) 26) = w2 := ⟨_, rfl⟩
    rw [hw2] at B2 G2
    rw [hgA] at G2
    have z2 := B2.size
    go_wp2_with fail
    refine (C2.out _).mono ?_
    rintro e w3 ⟨rfl, b3⟩
    clear hw2 hgA
    have G3 := G2.below b3 G2.lt
    have B3 := B2.trans (b3.mono z2)
    have z3 := B3.size
    have B4 := B3.alloc z3 (.cells (qc q) 26)
    have G4 := G3.alloc (.cells (qc q) 26)
    have H4 := Blk.new w3 26 (qc q)
    obtain ⟨gB, hgB⟩ : ∃ g, w3.heap.size = g := ⟨_, rfl⟩
    obtain ⟨w4, hw4⟩ : ∃ w4, w3.alloc (.cells (qc q) 26) = w4 := ⟨_, rfl⟩
    rw [hw4] at B4 G4 H4
    rw [hgB] at H4
    have z4 := B4.size
    clear G2 G3 B1 B2 B3 b1 b3 z1 z2 z3 
    go_wp2_with fail
    refine (C3.out _).mono ?_
    rintro e w5 ⟨rfl, b5⟩
    clear hw4 hgB
    have G5 := G4.below b5 G4.lt
    have H5 := H4.below b5 H4.lt
    have B5 := B4.trans (b5.mono z4)
    have z5 := B5.size
    clear G4 H4 B4 b5 z4
    go_wp2_with fail
    refine (C4.out _).mono ?_
    rintro e w6 ⟨rfl, hq⟩
    subst w6
    go_wp2_with fail
    refine (C5.out _).mono ?_
    rintro e w7 ⟨rfl, b7⟩
    have G7 := G5.below b7 G5.lt
    have H7 := H5.below b7 H5.lt
    have B7 := B5.trans (b7.mono z5)
    have z7 := B7.size
    clear G5 H5 B5 b7 z5
    go_wp2_with fail
    refine (C6.out _).mono ?_
    rintro e w8 ⟨rfl, b8⟩
    have G8 := G7.below b8 G7.lt
    have H8 := H7.below b8 H7.lt
    have B8 := B7.trans (b8.mono z7)
    have z8 := B8.size
    clear G7 H7 B7 b8 z7
    obtain ⟨x0, x1, x2, x3, x4, x5, x6⟩ := SkpW.blk7 G8
    obtain ⟨y0, y1, y2, y3, y4, y5, y6⟩ := SkpW.blk7 H8
    go_wp2_with fail
    refine (C7.out _).mono ?_
    rintro e w9 ⟨rfl, b9⟩
    have B9 := B8.trans (b9.mono z8)
    have z9 := B9.size
    go_wp2_with fail
    refine (C8.out _).mono ?_
    rintro e w10 ⟨rfl, b10⟩
    have B10 := B9.trans (b10.mono z9)
    have z10 := B10.size
    go_wp2_with fail
    refine (awake_any _ (h.below B10)).mono ?_
    rintro e w11 ⟨rfl, b11⟩
    go_wp2_with fail
    go_ret
    exact ⟨rfl, B10.trans (b11.mono z10)⟩
end WanW
end Go.Proofs.YtjcbaaabbdcdnaaDoor
