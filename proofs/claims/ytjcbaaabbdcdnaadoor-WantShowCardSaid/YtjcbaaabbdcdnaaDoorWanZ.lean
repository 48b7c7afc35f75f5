/- The walks of the laws of package want: WantBack, WantShow. -/
import Derived.Test.YtjcbaaabbdcdnaaDoorWanY
namespace Go.Proofs.YtjcbaaabbdcdnaaDoor
set_option linter.unusedVariables false
set_option linter.unusedSimpArgs false
set_option linter.unnecessarySimpa false
open Go.RowKit
namespace WanW
open SkpW (Qy qv qc chkQ)

theorem show_cases (q : Qy) : (showV q = ([], 320)) ∨ (showV q = (showL q, 0) ∧ chkQ q = 0 ∧ mayV q.s1 q.s2 = true ∧ mayV q.t1 q.t2 = true) := by
  by_cases h : chkQ q = 0 ∧ mayV q.s1 q.s2 = true ∧ mayV q.t1 q.t2 = true
  · exact .inr ⟨show_yes q h, h⟩
  · exact .inl (show_no q h)
theorem showL_le (q : Qy) (h : chkQ q = 0 ∧ mayV q.s1 q.s2 = true ∧ mayV q.t1 q.t2 = true) : (showL q).length ≤ 1000 := by
  obtain ⟨a0, a1, a2, a3⟩ := (may_iff _ _).1 h.2.1
  obtain ⟨b0, b1, b2, b3⟩ := (may_iff _ _).1 h.2.2
  rcases SkpW.chk_cases q with ⟨e, _⟩ | ⟨_, hh⟩
  · rw [h.1] at e; cases e
  · exact show_len q a1 a3 b1 b3 (by omega) (by omega) (by omega)
set_option maxRecDepth 100000 in
set_option maxHeartbeats 8000000 in
theorem wantBack_any (q : Qy) (s : List UInt8) (w : World) (h : Wo w) : Calls Tryd.prog 5 #[qv q, str s] w fun e w' => e = .returned (.bool true) ∧ Below w.heap.size w w' := by
  have HB := (Below.refl w.heap.size w).alloc (Nat.le_refl _) (.cells (qc q) 26)
  have g1 := Blk.new w 26 (qc q)
  obtain ⟨w0, hw0⟩ : ∃ w0, w.alloc (.cells (qc q) 26) = w0 := ⟨_, rfl⟩
  have W0 := h.below HB
  rw [hw0] at HB g1 W0
  have z0 := HB.size
  have HWO := Lib.hid h
  clear h
  obtain ⟨x0, x1, x2, x3, x4, x5, x6⟩ := SkpW.blk7 g1
  by_cases hl : 1000 < q.find.length
  · have hI : (1000 : Int) < (q.find.length : Int) := by omega
    go_enter Tryd.func5, Tryd.ntmps5
    go_wp2_with fail
    refine (awake_any _ W0).mono ?_
    rintro e w1 ⟨rfl, b1⟩
    go_wp2_with fail
    go_ret
    exact ⟨rfl, HB.trans (b1.mono z0)⟩
  · have hI : ¬ (1000 : Int) < (q.find.length : Int) := by omega
    by_cases hl2 : 1000 < s.length
    · have hI2 : (1000 : Int) < (s.length : Int) := by omega
      go_enter Tryd.func5, Tryd.ntmps5
      go_wp2_with fail
      refine (awake_any _ W0).mono ?_
      rintro e w1 ⟨rfl, b1⟩
      go_wp2_with fail
      go_ret
      exact ⟨rfl, HB.trans (b1.mono z0)⟩
    · have hI2 : ¬ (1000 : Int) < (s.length : Int) := by omega
      have HX1 := Lib.hid (fun w => hex_any s w (by omega))
      obtain ⟨hx, hhx⟩ : ∃ x, hexL s = x := ⟨_, rfl⟩
      have hxl := hexL_len s
      have hxb := hex_back s
      rw [hhx] at HX1 hxl hxb
      have HX2 := Lib.hid (fun w => unhex_any hx w s true hxb (by omega))
      clear hhx hxb
      have hss : (s == s) = true := beq_self_eq_true s
      have hw2 : IntKind.i64.wrap (2 * (s.length : Int)) = 2 * (s.length : Int) := w64k (by omega) (by omega)
      have hxlI : ((hx.length : Int) == 2 * (s.length : Int)) = true := by simp; omega
      have HXL := Lib.hid hxl
      clear hxl
      rcases show_cases q with hv | ⟨hv, hc⟩
      · have C1 := fun w h => show_any q w h [] 320 hv
        clear hv
        go_enter Tryd.func5, Tryd.ntmps5
        go_wp2_with fail
        refine (C1 _ W0).mono ?_
        rintro e w1 ⟨rfl, b1⟩
        have B1 := HB.trans (b1.mono z0)
        have z1 := B1.size
        clear hw0 x0 x1 x2 x3 x4 x5 x6 b1
        go_wp2_with fail
        refine (HX1.out _).mono ?_
        rintro e w2 ⟨rfl, b2⟩
        have B2 := B1.trans (b2.mono z1)
        have z2 := B2.size
        go_wp2_with fail
        refine (HX2.out _).mono ?_
        rintro e w3 ⟨rfl, b3⟩
        have B3 := B2.trans (b3.mono z2)
        have z3 := B3.size
        go_wp2_with fail
        refine (HX1.out _).mono ?_
        rintro e w4 ⟨rfl, b4⟩
        have B4 := B3.trans (b4.mono z3)
        have z4 := B4.size
        go_wp2_with fail
        refine (awake_any _ (HWO.out.below B4)).mono ?_
        rintro e w5 ⟨rfl, b5⟩
        go_wp2_with fail
        go_ret
        exact ⟨rfl, B4.trans (b5.mono z4)⟩
      · have C1 := fun w h => show_any q w h _ 0 hv
        have hlen := showL_le q hc
        have C2 := fun w h => parse_any (showL q) w h (by omega) q _ 0 (show_back q hc.1 hc.2.1 hc.2.2)
        have C3 := fun w => SkpW.check_any q 0 hc.1 w
        obtain ⟨t, ht⟩ : ∃ t, showL q = t := ⟨_, rfl⟩
        rw [ht] at C1 C2 hlen
        have HC1 := Lib.hid C1
        have HC2 := Lib.hid C2
        have HC3 := Lib.hid C3
        have hff : (q.find == q.find) = true := beq_self_eq_true _
        clear C1 C2 C3 ht hv hc
        go_enter Tryd.func5, Tryd.ntmps5
        go_wp2_with fail
        refine (HC1.out _ W0).mono ?_
        rintro e w1 ⟨rfl, b1⟩
        have B1 := HB.trans (b1.mono z0)
        have z1 := B1.size
        have W1 := HWO.out.below B1
        have G1 := g1.below b1 g1.lt
        clear hw0 x0 x1 x2 x3 x4 x5 x6 b1
        go_wp2_with fail
        refine (HC2.out _ W1).mono ?_
        rintro e w2 ⟨rfl, b2⟩
        have B2 := B1.trans (b2.mono z1)
        have z2 := B2.size
        have G2 := G1.below b2 G1.lt
        have B3 := B2.alloc z2 (.cells (qc q) 26)
        have G3 := G2.alloc (.cells (qc q) 26)
        have H3 := Blk.new w2 26 (qc q)
        obtain ⟨gA, hgA⟩ : ∃ g, w2.heap.size = g := ⟨_, rfl⟩
        obtain ⟨w3, hw3⟩ : ∃ w3, w2.alloc (.cells (qc q) 26) = w3 := ⟨_, rfl⟩
        rw [hw3] at B3 G3 H3
        rw [hgA] at H3
        have z3 := B3.size
        obtain ⟨x0, x1, x2, x3, x4, x5, x6⟩ := SkpW.blk7 G3
        obtain ⟨y0, y1, y2, y3, y4, y5, y6⟩ := SkpW.blk7 H3
        go_wp2_with fail
        refine (HC3.out _).mono ?_
        rintro e w4 ⟨rfl, b4⟩
        have B4 := B3.trans (b4.mono z3)
        have z4 := B4.size
        clear hw3 hgA x0 x1 x2 x3 x4 x5 x6 y0 y1 y2 y3 y4 y5 y6 G1 G2 G3 H3 B1 B2 B3 b2 z1 z2 z3 b4
        go_wp2_with fail
        refine (HX1.out _).mono ?_
        rintro e w5 ⟨rfl, b5⟩
        have B5 := B4.trans (b5.mono z4)
        have z5 := B5.size
        go_wp2_with fail
        refine (HX2.out _).mono ?_
        rintro e w6 ⟨rfl, b6⟩
        have B6 := B5.trans (b6.mono z5)
        have z6 := B6.size
        go_wp2_with fail
        refine (HX1.out _).mono ?_
        rintro e w7 ⟨rfl, b7⟩
        have B7 := B6.trans (b7.mono z6)
        have z7 := B7.size
        go_wp2_with fail
        refine (awake_any _ (HWO.out.below B7)).mono ?_
        rintro e w8 ⟨rfl, b8⟩
        go_wp2_with fail
        go_ret
        exact ⟨rfl, B7.trans (b8.mono z7)⟩
set_option maxRecDepth 100000 in
set_option maxHeartbeats 8000000 in
theorem wantShow_any (a b : List UInt8) (w : World) (h : Wo w) (ha : a.length ≤ 140737488355328) (hb : b.length ≤ 140737488355328) : Calls Tryd.prog 6 #[str a, str b] w fun e w' => e = .returned (.bool true) ∧ Below w.heap.size w w' := by
  have B0 := Below.refl w.heap.size w
  have hadd : IntKind.i64.wrap ((a.length : Int) + (b.length : Int)) = (a.length : Int) + (b.length : Int) := w64k (by omega) (by omega)
  have HWO := Lib.hid h
  by_cases hl : 900 < a.length + b.length
  · have hI : (900 : Int) < (a.length : Int) + (b.length : Int) := by omega
    go_enter Tryd.func6, Tryd.ntmps6
    go_wp2_with fail
    refine (awake_any _ h).mono ?_
    rintro e w1 ⟨rfl, b1⟩
    go_wp2_with fail
    go_ret
    exact ⟨rfl, b1⟩
  · have hI : ¬ (900 : Int) < (a.length : Int) + (b.length : Int) := by omega
    obtain ⟨o1, o2⟩ := order_words a b (by omega)
    obtain ⟨⟨q, p1, e1⟩, hv1⟩ : ∃ r, parseV (a ++ 32 :: b) = r := ⟨_, rfl⟩
    obtain ⟨⟨q', p2, e2⟩, hv2⟩ : ∃ r, parseV (32 :: 32 :: (b ++ 32 :: 32 :: 32 :: (a ++ [32]))) = r := ⟨_, rfl⟩
    rw [hv1, hv2] at o1 o2
    dsimp only at o1 o2
    subst o1 o2
    have C1 := Lib.hid (fun w h => parse_any (a ++ 32 :: b) w h (by simp; omega) q p1 e1 hv1)
    have C2 := Lib.hid (fun w h => parse_any _ w h (by simp; omega) q p2 e1 hv2)
    have HQ := Lib.hid (fun he => parse_zero _ _ _ _ hv1 he)
    have HM := Lib.hid (fun he : e1 = 0 => parse_may (a ++ 32 :: b) q p1 (by rw [hv1, he]))
    clear hv1 hv2
    have s1 : ¬ 9223372036854775807 < a.length + 1 := by omega
    obtain ⟨u1, hu1⟩ : ∃ u, a ++ [32] = u := ⟨_, rfl⟩
    have t1 : (⟨a.toArray⟩ : ByteArray) ++ ⟨#[32]⟩ = ⟨u1.toArray⟩ := by rw [← hu1]; exact str_cat _ _
    have l1 : u1.length = a.length + 1 := by rw [← hu1]; simp
    have s2 : ¬ 9223372036854775807 < u1.length + b.length := by omega
    have t2 : (⟨u1.toArray⟩ : ByteArray) ++ ⟨b.toArray⟩ = ⟨(a ++ 32 :: b).toArray⟩ := by rw [← hu1, str_cat]; simp
    have s3 : ¬ 9223372036854775807 < 2 + b.length := by omega
    obtain ⟨u2, hu2⟩ : ∃ u, [32, 32] ++ b = u := ⟨_, rfl⟩
    have t3 : (⟨#[32, 32]⟩ : ByteArray) ++ ⟨b.toArray⟩ = ⟨u2.toArray⟩ := by rw [← hu2]; exact str_cat _ _
    have l2 : u2.length = b.length + 2 := by rw [← hu2]; simp
    have s4 : ¬ 9223372036854775807 < u2.length + 3 := by omega
    obtain ⟨u3, hu3⟩ : ∃ u, u2 ++ [32, 32, 32] = u := ⟨_, rfl⟩
    have t4 : (⟨u2.toArray⟩ : ByteArray) ++ ⟨#[32, 32, 32]⟩ = ⟨u3.toArray⟩ := by rw [← hu3]; exact str_cat _ _
    have l3 : u3.length = u2.length + 3 := by rw [← hu3]; simp
    have s5 : ¬ 9223372036854775807 < u3.length + a.length := by omega
    obtain ⟨u4, hu4⟩ : ∃ u, u3 ++ a = u := ⟨_, rfl⟩
    have t5 : (⟨u3.toArray⟩ : ByteArray) ++ ⟨a.toArray⟩ = ⟨u4.toArray⟩ := by rw [← hu4]; exact str_cat _ _
    have l4 : u4.length = u3.length + a.length := by rw [← hu4]; simp
    have s6 : ¬ 9223372036854775807 < u4.length + 1 := by omega
    have t6 : (⟨u4.toArray⟩ : ByteArray) ++ ⟨#[32]⟩ = ⟨(32 :: 32 :: (b ++ 32 :: 32 :: 32 :: (a ++ [32]))).toArray⟩ := by rw [← hu4, ← hu3, ← hu2, str_cat]; simp
    obtain ⟨ta, hta⟩ : ∃ u, a ++ 32 :: b = u := ⟨_, rfl⟩
    obtain ⟨tb, htb⟩ : ∃ u, (32 :: 32 :: (b ++ 32 :: 32 :: 32 :: (a ++ [32])) : List UInt8) = u := ⟨_, rfl⟩
    rw [hta] at C1 t2
    rw [htb] at C2 t6
    clear hta htb hu1 hu2 hu3 hu4 l1 l2 l3 l4
    have hff : (q.find == q.find) = true := beq_self_eq_true _
    by_cases he : e1 = 0
    · subst he
      obtain hm := HM.out rfl
      have S := fun w h => show_any q w h _ 0 (show_yes q hm)
      have hlen := showL_le q hm
      have P := fun w h => parse_any (showL q) w h (by omega) q _ 0 (show_back q hm.1 hm.2.1 hm.2.2)
      obtain ⟨t, ht⟩ : ∃ t, showL q = t := ⟨_, rfl⟩
      rw [ht] at S P hlen
      have HS := Lib.hid S
      have HP := Lib.hid P
      clear S P ht hm
      go_enter Tryd.func6, Tryd.ntmps6
      go_wp2_with fail
      refine (C1.out _ h).mono ?_
      rintro e w1 ⟨rfl, b1⟩
      have B1 := B0.trans b1
      have z1 := B1.size
      have B2 := B1.alloc z1 (.cells (qc q) 26)
      have G2 := Blk.new w1 26 (qc q)
      obtain ⟨gA, hgA⟩ : ∃ g, w1.heap.size = g := ⟨_, rfl⟩
      obtain ⟨w2, hw2⟩ : ∃ w2, w1.alloc (.cells (qc q) 26) = w2 := ⟨_, rfl⟩
      have W2 := HWO.out.below B2
      rw [hw2] at B2 G2 W2
      rw [hgA] at G2
      have z2 := B2.size
      go_wp2_with fail
      refine (C2.out _ W2).mono ?_
      rintro e w3 ⟨rfl, b3⟩
      clear hw2 hgA
      have G3 := G2.below b3 G2.lt
      have B3 := B2.trans (b3.mono z2)
      have z3 := B3.size
      have B4 := B3.alloc z3 (.cells (qc q) 26)
      have G4 := G3.alloc (.cells (qc q) 26)
      have H4 := Blk.new w3 26 (qc q)
      obtain ⟨gB, hgB⟩ : ∃ g, w3.heap.size = g := ⟨_, rfl⟩
      obtain ⟨w4, hw4⟩ : ∃ w4, w3.alloc (.cells (qc q) 26) = w4 := ⟨_, rfl⟩
      have W4 := HWO.out.below B4
      rw [hw4] at B4 G4 H4 W4
      rw [hgB] at H4
      have z4 := B4.size
      clear G2 G3 B1 B2 B3 b1 b3 z1 z2 z3
      obtain ⟨x0, x1, x2, x3, x4, x5, x6⟩ := SkpW.blk7 G4
      obtain ⟨y0, y1, y2, y3, y4, y5, y6⟩ := SkpW.blk7 H4
      go_wp2_with fail
      refine (HS.out _ W4).mono ?_
      rintro e w5 ⟨rfl, b5⟩
      clear hw4 hgB x0 x1 x2 x3 x4 x5 x6 y0 y1 y2 y3 y4 y5 y6
      have G5 := G4.below b5 G4.lt
      have B5 := B4.trans (b5.mono z4)
      have W5 := HWO.out.below B5
      have z5 := B5.size
      clear H4 G4 B4 b5 z4
      go_wp2_with fail
      refine (HP.out _ W5).mono ?_
      rintro e w6 ⟨rfl, b6⟩
      have G6 := G5.below b6 G5.lt
      have B6 := B5.trans (b6.mono z5)
      have z6 := B6.size
      have B7 := B6.alloc z6 (.cells (qc q) 26)
      have G7 := G6.alloc (.cells (qc q) 26)
      have H7 := Blk.new w6 26 (qc q)
      obtain ⟨gC, hgC⟩ : ∃ g, w6.heap.size = g := ⟨_, rfl⟩
      obtain ⟨w7, hw7⟩ : ∃ w7, w6.alloc (.cells (qc q) 26) = w7 := ⟨_, rfl⟩
      have W7 := HWO.out.below B7
      rw [hw7] at B7 G7 H7 W7
      rw [hgC] at H7
      have z7 := B7.size
      obtain ⟨x0, x1, x2, x3, x4, x5, x6⟩ := SkpW.blk7 G7
      obtain ⟨y0, y1, y2, y3, y4, y5, y6⟩ := SkpW.blk7 H7
      go_wp2_with fail
      refine (awake_any _ W7).mono ?_
      rintro e w8 ⟨rfl, b8⟩
      go_wp2_with fail
      go_ret
      exact ⟨rfl, B7.trans (b8.mono z7)⟩
    · obtain rfl := HQ.out he
      have heB : (e1 == 0) = false := by simp [he]
      have heB2 : (e1 != 0) = true := by simp [he]
      have hee : ((false : Bool) != false) = false := rfl
      go_enter Tryd.func6, Tryd.ntmps6
      go_wp2_with fail
      refine (C1.out _ h).mono ?_
      rintro e w1 ⟨rfl, b1⟩
      have B1 := B0.trans b1
      have z1 := B1.size
      have B2 := B1.alloc z1 (.cells (qc zeroQ) 26)
      have G2 := Blk.new w1 26 (qc zeroQ)
      obtain ⟨gA, hgA⟩ : ∃ g, w1.heap.size = g := ⟨_, rfl⟩
      obtain ⟨w2, hw2⟩ : ∃ w2, w1.alloc (.cells (qc zeroQ) 26) = w2 := ⟨_, rfl⟩
      have W2 := HWO.out.below B2
      rw [hw2] at B2 G2 W2
      rw [hgA] at G2
      have z2 := B2.size
      go_wp2_with fail
      refine (C2.out _ W2).mono ?_
      rintro e w3 ⟨rfl, b3⟩
      clear hw2 hgA
      have G3 := G2.below b3 G2.lt
      have B3 := B2.trans (b3.mono z2)
      have z3 := B3.size
      have B4 := B3.alloc z3 (.cells (qc zeroQ) 26)
      have G4 := G3.alloc (.cells (qc zeroQ) 26)
      have H4 := Blk.new w3 26 (qc zeroQ)
      obtain ⟨gB, hgB⟩ : ∃ g, w3.heap.size = g := ⟨_, rfl⟩
      obtain ⟨w4, hw4⟩ : ∃ w4, w3.alloc (.cells (qc zeroQ) 26) = w4 := ⟨_, rfl⟩
      have W4 := HWO.out.below B4
      rw [hw4] at B4 G4 H4 W4
      rw [hgB] at H4
      have z4 := B4.size
      clear G2 G3 B1 B2 B3 b1 b3 z1 z2 z3
      obtain ⟨x0, x1, x2, x3, x4, x5, x6⟩ := SkpW.blk7 G4
      obtain ⟨y0, y1, y2, y3, y4, y5, y6⟩ := SkpW.blk7 H4
      go_wp2_with fail
      refine (awake_any _ W4).mono ?_
      rintro e w5 ⟨rfl, b5⟩
      go_wp2_with fail
      go_ret
      exact ⟨rfl, B4.trans (b5.mono z4)⟩
end WanW
end Go.Proofs.YtjcbaaabbdcdnaaDoor
