/- Walks over package record: a record is taken. -/
import Derived.Test.YtnghmcadhjneeaaRecX
import Derived.WalkMore
import Derived.ScopeJumps
import Derived.Deep.LoopGhost
namespace Go.Proofs.Ytnghmcadhjneeaa
set_option linter.unusedVariables false
set_option linter.unusedSimpArgs false
set_option linter.unnecessarySimpa false
open Go.RowKit
namespace RecW

set_option maxRecDepth 100000 in
set_option maxHeartbeats 4000000 in
theorem getR_any (s : List UInt8) (a : Int) (w : World) (hs : s.length ≤ 1000000) (v : Rc × Int × Int) (hv : getR s a = v) :
    Calls Try.prog 50 #[str s, .int .i64 a] w fun e w' => e = .returned (rtup v) ∧ Below w.heap.size w w' := by
  obtain ⟨x, hx⟩ : ∃ x, getV s a = x := ⟨_, rfl⟩
  obtain ⟨y, hy⟩ : ∃ y, getV s x.2.1 = y := ⟨_, rfl⟩
  obtain ⟨u, hu⟩ : ∃ u, getV s y.2.1 = u := ⟨_, rfl⟩
  have C1 := fun w => VarW.get_any s a w (by omega) x hx
  have C2 := fun w => VarW.get_any s x.2.1 w (by omega) y hy
  have C3 := fun w => VarW.get_any s y.2.1 w (by omega) u hu
  go_enter Try.func50, Try.ntmps50
  go_wp2_with fail
  have gR : Blk ((w.alloc (.cells #[.int .i64 0, .int .i64 0, .string ⟨#[]⟩] 26)).alloc (.cells #[.int .i64 0, .int .i64 0, .int .i64 0] 134)) w.heap.size 26 #[.int .i64 0, .int .i64 0, str []] := (Blk.new _ _ _).alloc _
  have gA : Blk ((w.alloc (.cells #[.int .i64 0, .int .i64 0, .string ⟨#[]⟩] 26)).alloc (.cells #[.int .i64 0, .int .i64 0, .int .i64 0] 134)) (w.heap.size + 1) 134 #[.int .i64 0, .int .i64 0, .int .i64 0] := by
    have := Blk.new (w.alloc (.cells #[.int .i64 0, .int .i64 0, .string ⟨#[]⟩] 26)) 134 #[.int .i64 0, .int .i64 0, .int .i64 0]
    rwa [World.size_alloc] at this
  have HB : Below w.heap.size w ((w.alloc (.cells #[.int .i64 0, .int .i64 0, .string ⟨#[]⟩] 26)).alloc (.cells #[.int .i64 0, .int .i64 0, .int .i64 0] 134)) := (by first | exact Below.refl _ _ | (repeat (first | exact Below.refl _ _ | assumption | refine Below.drew ?_ | refine Below.drewN_ ?_ _ | refine Below.alloc ?_ (by first | exact Nat.le_refl _ | (simp; done) | (simp; omega) | omega) _ | refine Below.setCell ?_ (by first | exact Nat.le_refl _ | (simp; done) | (simp; omega) | omega) _ | (refine Below.trans ?_ (Below.mono (by assumption) (by first | exact Nat.le_refl _ | (simp; done) | (simp; omega) | omega))))))
  go_step3
  go_wp2_with fail
  go_step3
  go_wp2_with fail
  go_loopw [1, 6, 9] (fun at_ e i wr => ∃ k : Nat, ((k = 0 ∧ at_ = .int .i64 a ∧ Blk wr (w.heap.size + 1) 134 #[.int .i64 0, .int .i64 0, .int .i64 0]) ∨ (k = 1 ∧ x.2.2 = 0 ∧ at_ = .int .i64 x.2.1 ∧ Blk wr (w.heap.size + 1) 134 #[.int .i64 x.1, .int .i64 0, .int .i64 0]) ∨
    (k = 2 ∧ x.2.2 = 0 ∧ y.2.2 = 0 ∧ at_ = .int .i64 y.2.1 ∧ Blk wr (w.heap.size + 1) 134 #[.int .i64 x.1, .int .i64 y.1, .int .i64 0]) ∨ (k = 3 ∧ x.2.2 = 0 ∧ y.2.2 = 0 ∧ u.2.2 = 0 ∧ at_ = .int .i64 u.2.1 ∧ Blk wr (w.heap.size + 1) 134 #[.int .i64 x.1, .int .i64 y.1, .int .i64 u.1])) ∧
    i = .int .i64 k ∧ Blk wr w.heap.size 26 #[.int .i64 0, .int .i64 0, str []] ∧ Below w.heap.size w wr) (fun _ _ i _ => 3 - (intOf i).toNat)
  case atStart => exact ⟨0, .inl ⟨rfl, rfl, gA⟩, rfl, gR, HB⟩
  case round =>
    clear gR gA HB
    obtain ⟨k, hk, rfl, gR, hbw⟩ := hrel
    have HX := Lib.hid hx
    have HY := Lib.hid hy
    have HU := Lib.hid hu
    have HV := Lib.hid hv
    clear hx hy hu hv
    rcases hk with ⟨rfl, rfl, gA⟩ | ⟨rfl, h1, rfl, gA⟩ | ⟨rfl, h1, h2, rfl, gA⟩ | ⟨rfl, h1, h2, h3, rfl, gA⟩
    · have C := C1 wr
      by_cases h1 : x.2.2 = 0
      · have hS := Lib.hid h1
        go_wp2_with fail
        refine C.mono ?_
        rintro e w1 ⟨rfl, rfl⟩
        obtain ⟨c0, c1, c2, f0, f1, f2, z0⟩ := blk3 gA
        go_wp2_with fail
        go_roundw
        case rel =>
          replace gA := gA.set 0 (.int .i64 x.1)
          replace gR := gR.far (p := ⟨w.heap.size + 1, 0, none⟩) (by show w.heap.size ≠ w.heap.size + 1; omega) (.int .i64 x.1)
          replace hbw := hbw.setCell (p := ⟨w.heap.size + 1, 0, none⟩) (by show w.heap.size ≤ w.heap.size + 1; omega) (.int .i64 x.1)
          exact ⟨1, .inr (.inl ⟨rfl, hS.out, rfl, gA⟩), rfl, gR, hbw⟩
        case measure => simp [intOf]
      · have hI : (x.2.2 == 0) = false := by simpa using h1
        have HVV := Lib.hid (HV.out.symm.trans (getR_1 HX.out h1))
        clear h1
        go_wp2_with fail
        refine C.mono ?_
        rintro e w1 ⟨rfl, rfl⟩
        have gA' := gA
        obtain ⟨c0, c1, c2, f0, f1, f2, z0⟩ := blk3 gA'
        clear gA'
        obtain ⟨d0, d1, d2, e0, e1, e2, z1⟩ := blk3 gR
        go_wp2_with fail
        try rw [Exit.noGoto_ret]
        refine bodyPost_ret (results_row2 rfl _ _ w.heap.size 26 #[.int .i64 0, .int .i64 0, str []] (0, 0) _ rfl ((((gR.far (p := ⟨w.heap.size + 1, 0, none⟩) (by show w.heap.size ≠ w.heap.size + 1; omega) (.int .i64 x.1)).set 0 (.int .i64 0)).set 1 (.int .i64 0)).set 2 (str [])) Try.underlying26 rfl (by kernel_rfl)) rfl ?_
        refine ⟨by rw [HVV.out]; rfl, ?_⟩
        exact (((hbw.setCell (p := ⟨w.heap.size + 1, 0, none⟩) (by show w.heap.size ≤ w.heap.size + 1; omega) _).setCell (p := ⟨w.heap.size, 0, none⟩) (Nat.le_refl _) _).setCell (p := ⟨w.heap.size, 1, none⟩) (Nat.le_refl _) _).setCell (p := ⟨w.heap.size, 2, none⟩) (Nat.le_refl _) _
    · have C := C2 wr
      by_cases h2 : y.2.2 = 0
      · have hS := Lib.hid h2
        go_wp2_with fail
        refine C.mono ?_
        rintro e w1 ⟨rfl, rfl⟩
        obtain ⟨c0, c1, c2, f0, f1, f2, z0⟩ := blk3 gA
        go_wp2_with fail
        go_roundw
        case rel =>
          replace gA := gA.set 1 (.int .i64 y.1)
          replace gR := gR.far (p := ⟨w.heap.size + 1, 1, none⟩) (by show w.heap.size ≠ w.heap.size + 1; omega) (.int .i64 y.1)
          replace hbw := hbw.setCell (p := ⟨w.heap.size + 1, 1, none⟩) (by show w.heap.size ≤ w.heap.size + 1; omega) (.int .i64 y.1)
          exact ⟨2, .inr (.inr (.inl ⟨rfl, h1, hS.out, rfl, gA⟩)), rfl, gR, hbw⟩
        case measure => simp [intOf]
      · have hI : (y.2.2 == 0) = false := by simpa using h2
        have HVV := Lib.hid (HV.out.symm.trans (getR_2 HX.out h1 HY.out h2))
        clear h2
        go_wp2_with fail
        refine C.mono ?_
        rintro e w1 ⟨rfl, rfl⟩
        have gA' := gA
        obtain ⟨c0, c1, c2, f0, f1, f2, z0⟩ := blk3 gA'
        clear gA'
        obtain ⟨d0, d1, d2, e0, e1, e2, z1⟩ := blk3 gR
        go_wp2_with fail
        try rw [Exit.noGoto_ret]
        refine bodyPost_ret (results_row2 rfl _ _ w.heap.size 26 #[.int .i64 0, .int .i64 0, str []] (0, 0) _ rfl ((((gR.far (p := ⟨w.heap.size + 1, 1, none⟩) (by show w.heap.size ≠ w.heap.size + 1; omega) (.int .i64 y.1)).set 0 (.int .i64 0)).set 1 (.int .i64 0)).set 2 (str [])) Try.underlying26 rfl (by kernel_rfl)) rfl ?_
        refine ⟨by rw [HVV.out]; rfl, ?_⟩
        exact (((hbw.setCell (p := ⟨w.heap.size + 1, 1, none⟩) (by show w.heap.size ≤ w.heap.size + 1; omega) _).setCell (p := ⟨w.heap.size, 0, none⟩) (Nat.le_refl _) _).setCell (p := ⟨w.heap.size, 1, none⟩) (Nat.le_refl _) _).setCell (p := ⟨w.heap.size, 2, none⟩) (Nat.le_refl _) _
    · have C := C3 wr
      by_cases h3 : u.2.2 = 0
      · have hS := Lib.hid h3
        go_wp2_with fail
        refine C.mono ?_
        rintro e w1 ⟨rfl, rfl⟩
        obtain ⟨c0, c1, c2, f0, f1, f2, z0⟩ := blk3 gA
        go_wp2_with fail
        go_roundw
        case rel =>
          replace gA := gA.set 2 (.int .i64 u.1)
          replace gR := gR.far (p := ⟨w.heap.size + 1, 2, none⟩) (by show w.heap.size ≠ w.heap.size + 1; omega) (.int .i64 u.1)
          replace hbw := hbw.setCell (p := ⟨w.heap.size + 1, 2, none⟩) (by show w.heap.size ≤ w.heap.size + 1; omega) (.int .i64 u.1)
          exact ⟨3, .inr (.inr (.inr ⟨rfl, h1, h2, hS.out, rfl, gA⟩)), rfl, gR, hbw⟩
        case measure => simp [intOf]
      · have hI : (u.2.2 == 0) = false := by simpa using h3
        have HVV := Lib.hid (HV.out.symm.trans (getR_3 HX.out h1 HY.out h2 HU.out h3))
        clear h3
        go_wp2_with fail
        refine C.mono ?_
        rintro e w1 ⟨rfl, rfl⟩
        have gA' := gA
        obtain ⟨c0, c1, c2, f0, f1, f2, z0⟩ := blk3 gA'
        clear gA'
        obtain ⟨d0, d1, d2, e0, e1, e2, z1⟩ := blk3 gR
        go_wp2_with fail
        try rw [Exit.noGoto_ret]
        refine bodyPost_ret (results_row2 rfl _ _ w.heap.size 26 #[.int .i64 0, .int .i64 0, str []] (0, 0) _ rfl ((((gR.far (p := ⟨w.heap.size + 1, 2, none⟩) (by show w.heap.size ≠ w.heap.size + 1; omega) (.int .i64 u.1)).set 0 (.int .i64 0)).set 1 (.int .i64 0)).set 2 (str [])) Try.underlying26 rfl (by kernel_rfl)) rfl ?_
        refine ⟨by rw [HVV.out]; rfl, ?_⟩
        exact (((hbw.setCell (p := ⟨w.heap.size + 1, 2, none⟩) (by show w.heap.size ≤ w.heap.size + 1; omega) _).setCell (p := ⟨w.heap.size, 0, none⟩) (Nat.le_refl _) _).setCell (p := ⟨w.heap.size, 1, none⟩) (Nat.le_refl _) _).setCell (p := ⟨w.heap.size, 2, none⟩) (Nat.le_refl _) _
    · have k3 := getV_ok (s := s) (a := y.2.1) (by rw [HU.out]; exact h3)
      have k1 := getV_ok (s := s) (a := a) (by rw [HX.out]; exact h1)
      have k2 := getV_ok (s := s) (a := x.2.1) (by rw [HY.out]; exact h2)
      rw [HU.out] at k3
      rw [HX.out] at k1
      rw [HY.out] at k2
      have gA' := gA
      obtain ⟨c0, c1, c2, _, _, _, z0⟩ := blk3 gA'
      clear gA'
      obtain ⟨d0, d1, d2, e0, e1, e2, z1⟩ := blk3 gR
      by_cases h4 : x.1 < 1 ∨ 1000000000 < x.1 ∨ 1000000000 < y.1 ∨ 2000 < u.1
      · have HVV := Lib.hid (HV.out.symm.trans (getR_4 HX.out h1 HY.out h2 HU.out h3 h4))
        have h4' : x.1 < 1 ∨ (¬ x.1 < 1 ∧ 1000000000 < x.1) ∨ (¬ x.1 < 1 ∧ ¬ 1000000000 < x.1 ∧ 1000000000 < y.1) ∨ (¬ x.1 < 1 ∧ ¬ 1000000000 < x.1 ∧ ¬ 1000000000 < y.1 ∧ 2000 < u.1) := by omega
        clear h1 h2 h3 h4 k1 k2 k3 C1 C2 C3
        rcases h4' with h4 | ⟨h4, h5⟩ | ⟨h4, h5, h6⟩ | ⟨h4, h5, h6, h7⟩
        all_goals
          go_wp2_with fail
          try rw [Exit.noGoto_ret]
          refine bodyPost_ret (results_row2 rfl _ _ w.heap.size 26 #[.int .i64 0, .int .i64 0, str []] (0, 0) _ rfl (((gR.set 0 (.int .i64 0)).set 1 (.int .i64 0)).set 2 (str [])) Try.underlying26 rfl (by kernel_rfl)) rfl ?_
          refine ⟨by rw [HVV.out]; rfl, ?_⟩
          exact ((hbw.setCell (p := ⟨w.heap.size, 0, none⟩) (Nat.le_refl _) _).setCell (p := ⟨w.heap.size, 1, none⟩) (Nat.le_refl _) _).setCell (p := ⟨w.heap.size, 2, none⟩) (Nat.le_refl _) _
      · have g1 : ¬ x.1 < 1 := by omega
        have g2 : ¬ 1000000000 < x.1 := by omega
        have g3 : ¬ 1000000000 < y.1 := by omega
        have g4 : ¬ 2000 < u.1 := by omega
        have hsub : IntKind.i64.wrap ((s.length : Int) - u.2.1) = (s.length : Int) - u.2.1 := IntWalk.i64_in _ (by omega)
        by_cases h5 : (s.length : Int) < u.2.1 + u.1
        · have HVV := Lib.hid (HV.out.symm.trans (getR_5 HX.out h1 HY.out h2 HU.out h3 h4 h5))
          have h6 : (s.length : Int) - u.2.1 < u.1 := by omega
          obtain ⟨k31, k32, k33, k34, k35⟩ := k3
          clear h1 h2 h3 h4 k1 k2 C1 C2 C3
          go_wp2_with fail
          try rw [Exit.noGoto_ret]
          refine bodyPost_ret (results_row2 rfl _ _ w.heap.size 26 #[.int .i64 0, .int .i64 0, str []] (0, 0) _ rfl (((gR.set 0 (.int .i64 0)).set 1 (.int .i64 0)).set 2 (str [])) Try.underlying26 rfl (by kernel_rfl)) rfl ?_
          refine ⟨by rw [HVV.out]; rfl, ?_⟩
          exact ((hbw.setCell (p := ⟨w.heap.size, 0, none⟩) (Nat.le_refl _) _).setCell (p := ⟨w.heap.size, 1, none⟩) (Nat.le_refl _) _).setCell (p := ⟨w.heap.size, 2, none⟩) (Nat.le_refl _) _
        · have HVV := Lib.hid (HV.out.symm.trans (getR_6 HX.out h1 HY.out h2 HU.out h3 h4 h5))
          have h6 : ¬ (s.length : Int) - u.2.1 < u.1 := by omega
          obtain ⟨k31, k32, k33, k34, k35⟩ := k3
          clear HX HY HU HV h1 h2 h3 h4 k1 k2 C1 C2 C3
          obtain ⟨x0, x1, x2⟩ := x; obtain ⟨y0, y1, y2⟩ := y; obtain ⟨u0, u1, u2⟩ := u
          dsimp only at *
          obtain ⟨u0, rfl⟩ := Int.eq_ofNat_of_zero_le k34
          obtain ⟨u1, rfl⟩ := Int.eq_ofNat_of_zero_le (show 0 ≤ u1 by omega)
          have hw : IntKind.i64.wrap ((u1 : Int) + (u0 : Int)) = (u1 : Int) + (u0 : Int) := IntWalk.i64_in _ (by omega)
          have HXT := Lib.hid (ext_cut s u1 (u1 + u0))
          have hp1 : (u1 : Int) ≤ (u1 : Int) + (u0 : Int) := by omega
          have hp2 : (u1 : Int) + (u0 : Int) ≤ (s.length : Int) := by omega
          go_wp2_with fail
          go_region
          all_goals
            go_wp2_with fail
            try rw [Exit.noGoto_ret]
            refine bodyPost_ret (results_row2 rfl _ _ w.heap.size 26 #[.int .i64 x0, .int .i64 y0, .string ((⟨s.toArray⟩ : ByteArray).extract u1 (u1 + u0))] (0, 0) _ rfl ((((gR.set 0 (.int .i64 x0)).set 1 (.int .i64 y0)).set 2 (.string ((⟨s.toArray⟩ : ByteArray).extract u1 (u1 + u0)))).drew) Try.underlying26 rfl (by kernel_rfl)) rfl ?_
            refine ⟨?_, ?_⟩
            · rw [HVV.out, HXT.out, show u1 + u0 - u1 = u0 from by omega]
              simp [rtup, recv]
            · exact (((hbw.setCell (p := ⟨w.heap.size, 0, none⟩) (Nat.le_refl _) _).setCell (p := ⟨w.heap.size, 1, none⟩) (Nat.le_refl _) _).setCell (p := ⟨w.heap.size, 2, none⟩) (Nat.le_refl _) _).drew
end RecW
end Go.Proofs.Ytnghmcadhjneeaa
