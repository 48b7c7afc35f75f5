/- Walks over package record and its reference: a record is taken; a record is put. -/
import Derived.Test.YtjdmbpkabeaccaaRecV
import Derived.Test.YtjdmbpkabeaccaaRecW
import Derived.Test.YtjdmbpkabeaccaaVarG
import Derived.Test.YtjdmbpkabeaccaaBld
namespace Go.Proofs.Ytjdmbpkabeaccaa
set_option linter.unusedVariables false
set_option linter.unusedSimpArgs false
set_option linter.unnecessarySimpa false
open Go.RowKit
namespace RecW

theorem results_row2 {P : Program} {fn : Func} {p u v : Tmp} {ty : TypeId} (h : fn.results = #[.cell p ty, .tmp u, .tmp v]) (tmps : Array Value) (w : World) (g : Nat) (t : TypeId) (cs : Array Value) (fr : Nat × Nat) (d : TypeDesc)
    (hp : tmps.getD p undef = .pointer (some ⟨g, 0, none⟩)) (hg : w.heap[g]? = some (.cells cs t fr))
    (hu : P.underlying ty = some d) (hd : (match d with | .struct _ | .array _ _ => true | _ => false) = true) (hi : (P.info? ty).map (·.size) = some cs.size) :
    (results fn tmps).run P w = .ok (.tuple #[.agg cs, tmps.getD u undef, tmps.getD v undef]) w := by
  have hp' : tmps[p]?.getD undef = .pointer (some ⟨g, 0, none⟩) := by simpa using hp
  simp [results, h, hp', asAddr, run_loadVar_row w g t ty cs fr d hg hu hd hi]
abbrev rtup (y : Rc × Int × Int) : Value := .tuple #[recv y.1, .int .i64 y.2.1, .int .i64 y.2.2]
theorem ext_cut (l : List UInt8) (p q : Nat) : (⟨l.toArray⟩ : ByteArray).extract p q = ⟨((l.drop p).take (q - p)).toArray⟩ := by
  apply ByteArray.ext
  simp

set_option maxRecDepth 100000 in
set_option maxHeartbeats 2000000 in
theorem refGetR_any (s : List UInt8) (a : Int) (w : World) (hs : s.length ≤ 1000000) (v : Rc × Int × Int) (hv : getR s a = v) :
    Calls Try.prog 50 #[str s, .int .i64 a] w fun e w' => e = .returned (rtup v) ∧ Below w.heap.size w w' := by
  obtain ⟨x, hx⟩ : ∃ x, getV s a = x := ⟨_, rfl⟩
  have C1 := fun w => VarW.refGet_any s a w (by omega) x hx
  by_cases h1 : x.2.2 = 0
  · obtain ⟨y, hy⟩ : ∃ y, getV s x.2.1 = y := ⟨_, rfl⟩
    have C2 := fun w => VarW.refGet_any s x.2.1 w (by omega) y hy
    have k1 := getV_ok (s := s) (a := a) (by rw [hx]; exact h1)
    rw [hx] at k1
    by_cases h2 : y.2.2 = 0
    · obtain ⟨u, hu⟩ : ∃ u, getV s y.2.1 = u := ⟨_, rfl⟩
      have C3 := fun w => VarW.refGet_any s y.2.1 w (by omega) u hu
      have k2 := getV_ok (s := s) (a := x.2.1) (by rw [hy]; exact h2)
      rw [hy] at k2
      by_cases h3 : u.2.2 = 0
      · have k3 := getV_ok (s := s) (a := y.2.1) (by rw [hu]; exact h3)
        rw [hu] at k3
        by_cases h4 : x.1 < 1 ∨ 1000000000 < x.1 ∨ 1000000000 < y.1 ∨ 2000 < u.1
        · have HV := Lib.hid (hv.symm.trans (getR_4 hx h1 hy h2 hu h3 h4))
          rw [HV.out]
          have h4' : x.1 < 1 ∨ (¬ x.1 < 1 ∧ 1000000000 < x.1) ∨ (¬ x.1 < 1 ∧ ¬ 1000000000 < x.1 ∧ 1000000000 < y.1) ∨ (¬ x.1 < 1 ∧ ¬ 1000000000 < x.1 ∧ ¬ 1000000000 < y.1 ∧ 2000 < u.1) := by omega
          clear HV hv hx hy hu k1 k2 k3 h4
          obtain ⟨x0, x1, x2⟩ := x; obtain ⟨y0, y1, y2⟩ := y; obtain ⟨u0, u1, u2⟩ := u
          dsimp only at h1 h2 h3 h4'
          subst h1; subst h2; subst h3
          rcases h4' with h4 | ⟨h4, h5⟩ | ⟨h4, h5, h6⟩ | ⟨h4, h5, h6, h7⟩
          all_goals
            go_enter Try.func50, Try.ntmps50
            go_wp2_with fail
            refine (C1 _).mono ?_
            rintro e w1 ⟨rfl, rfl⟩
            go_wp2_with fail
            refine (C2 _).mono ?_
            rintro e w1 ⟨rfl, rfl⟩
            go_wp2_with fail
            refine (C3 _).mono ?_
            rintro e w1 ⟨rfl, rfl⟩
            go_wp2_with fail
            refine bodyPost_ret (results_row2 rfl _ _ w.heap.size 72 #[.int .i64 0, .int .i64 0, str []] (0, 0) _ rfl (heap_alloc_new w _) Try.underlying72 rfl (by kernel_rfl)) rfl ?_
            exact ⟨rfl, (by first | exact Below.refl _ _ | (repeat (first | exact Below.refl _ _ | assumption | refine Below.drew ?_ | refine Below.drewN_ ?_ _ | refine Below.alloc ?_ (by first | exact Nat.le_refl _ | (simp; done) | (simp; omega) | omega) _ | refine Below.setCell ?_ (by first | exact Nat.le_refl _ | (simp; done) | (simp; omega) | omega) _ | (refine Below.trans ?_ (Below.mono (by assumption) (by first | exact Nat.le_refl _ | (simp; done) | (simp; omega) | omega))))))⟩
        · by_cases h5 : (s.length : Int) < u.2.1 + u.1
          · have HV := Lib.hid (hv.symm.trans (getR_5 hx h1 hy h2 hu h3 h4 h5))
            rw [HV.out]
            clear HV hv hx hy hu
            obtain ⟨x0, x1, x2⟩ := x; obtain ⟨y0, y1, y2⟩ := y; obtain ⟨u0, u1, u2⟩ := u
            dsimp only at h1 h2 h3 h4 h5 k1 k2 k3
            subst h1; subst h2; subst h3
            have g1 : ¬ x0 < 1 := by omega
            have g2 : ¬ 1000000000 < x0 := by omega
            have g3 : ¬ 1000000000 < y0 := by omega
            have g4 : ¬ 2000 < u0 := by omega
            have hw : IntKind.i64.wrap (u1 + u0) = u1 + u0 := IntWalk.i64_in _ (by omega)
            obtain ⟨k31, k32, k33, k34, k35⟩ := k3
            clear k1 k2 h4
            go_enter Try.func50, Try.ntmps50
            go_wp2_with fail
            refine (C1 _).mono ?_
            rintro e w1 ⟨rfl, rfl⟩
            go_wp2_with fail
            refine (C2 _).mono ?_
            rintro e w1 ⟨rfl, rfl⟩
            go_wp2_with fail
            refine (C3 _).mono ?_
            rintro e w1 ⟨rfl, rfl⟩
            go_wp2_with fail
            refine bodyPost_ret (results_row2 rfl _ _ w.heap.size 72 #[.int .i64 0, .int .i64 0, str []] (0, 0) _ rfl (heap_alloc_new w _) Try.underlying72 rfl (by kernel_rfl)) rfl ?_
            exact ⟨rfl, (by first | exact Below.refl _ _ | (repeat (first | exact Below.refl _ _ | assumption | refine Below.drew ?_ | refine Below.drewN_ ?_ _ | refine Below.alloc ?_ (by first | exact Nat.le_refl _ | (simp; done) | (simp; omega) | omega) _ | refine Below.setCell ?_ (by first | exact Nat.le_refl _ | (simp; done) | (simp; omega) | omega) _ | (refine Below.trans ?_ (Below.mono (by assumption) (by first | exact Nat.le_refl _ | (simp; done) | (simp; omega) | omega))))))⟩
          · have HV := Lib.hid (hv.symm.trans (getR_6 hx h1 hy h2 hu h3 h4 h5))
            rw [HV.out]
            clear HV hv hx hy hu
            obtain ⟨x0, x1, x2⟩ := x; obtain ⟨y0, y1, y2⟩ := y; obtain ⟨u0, u1, u2⟩ := u
            dsimp only at h1 h2 h3 h4 h5 k1 k2 k3 C2 C3 ⊢
            subst h1; subst h2; subst h3
            have g1 : ¬ x0 < 1 := by omega
            have g2 : ¬ 1000000000 < x0 := by omega
            have g3 : ¬ 1000000000 < y0 := by omega
            have g4 : ¬ 2000 < u0 := by omega
            obtain ⟨k31, k32, k33, k34, k35⟩ := k3
            obtain ⟨u0, rfl⟩ := Int.eq_ofNat_of_zero_le k34
            obtain ⟨u1, rfl⟩ := Int.eq_ofNat_of_zero_le (show 0 ≤ u1 by omega)
            have hw : IntKind.i64.wrap ((u1 : Int) + (u0 : Int)) = (u1 : Int) + (u0 : Int) := IntWalk.i64_in _ (by omega)
            have HX := Lib.hid (ext_cut s u1 (u1 + u0))
            have hp1 : (u1 : Int) ≤ (u1 : Int) + (u0 : Int) := by omega
            have hp2 : (u1 : Int) + (u0 : Int) ≤ (s.length : Int) := by omega
            clear k1 k2 h4
            go_enter Try.func50, Try.ntmps50
            go_wp2_with fail
            refine (C1 _).mono ?_
            rintro e w1 ⟨rfl, rfl⟩
            go_wp2_with fail
            refine (C2 _).mono ?_
            rintro e w1 ⟨rfl, rfl⟩
            go_wp2_with fail
            refine (C3 _).mono ?_
            rintro e w1 ⟨rfl, rfl⟩
            go_wp2_with fail
            refine bodyPost_ret (results_row2 rfl _ _ w.heap.size 72 #[.int .i64 x0, .int .i64 y0, .string ((⟨s.toArray⟩ : ByteArray).extract u1 (u1 + u0))] (0, 0) _ rfl (heap_alloc_new w _) Try.underlying72 rfl (by kernel_rfl)) rfl ?_
            refine ⟨?_, (by first | exact Below.refl _ _ | (repeat (first | exact Below.refl _ _ | assumption | refine Below.drew ?_ | refine Below.drewN_ ?_ _ | refine Below.alloc ?_ (by first | exact Nat.le_refl _ | (simp; done) | (simp; omega) | omega) _ | refine Below.setCell ?_ (by first | exact Nat.le_refl _ | (simp; done) | (simp; omega) | omega) _ | (refine Below.trans ?_ (Below.mono (by assumption) (by first | exact Nat.le_refl _ | (simp; done) | (simp; omega) | omega))))))⟩
            rw [HX.out, show u1 + u0 - u1 = u0 from by omega]
            simp [rtup, recv]
      · have HV := Lib.hid (hv.symm.trans (getR_3 hx h1 hy h2 hu h3))
        rw [HV.out]
        clear HV hv hx hy hu k1 k2
        obtain ⟨x0, x1, x2⟩ := x; obtain ⟨y0, y1, y2⟩ := y; obtain ⟨u0, u1, u2⟩ := u
        dsimp only at h1 h2 h3
        subst h1; subst h2
        have h3I : (u2 != 0) = true := by simp [h3]
        clear h3
        go_enter Try.func50, Try.ntmps50
        go_wp2_with fail
        refine (C1 _).mono ?_
        rintro e w1 ⟨rfl, rfl⟩
        go_wp2_with fail
        refine (C2 _).mono ?_
        rintro e w1 ⟨rfl, rfl⟩
        go_wp2_with fail
        refine (C3 _).mono ?_
        rintro e w1 ⟨rfl, rfl⟩
        go_wp2_with fail
        refine bodyPost_ret (results_row2 rfl _ _ w.heap.size 72 #[.int .i64 0, .int .i64 0, str []] (0, 0) _ rfl (heap_alloc_new w _) Try.underlying72 rfl (by kernel_rfl)) rfl ?_
        exact ⟨rfl, (by first | exact Below.refl _ _ | (repeat (first | exact Below.refl _ _ | assumption | refine Below.drew ?_ | refine Below.drewN_ ?_ _ | refine Below.alloc ?_ (by first | exact Nat.le_refl _ | (simp; done) | (simp; omega) | omega) _ | refine Below.setCell ?_ (by first | exact Nat.le_refl _ | (simp; done) | (simp; omega) | omega) _ | (refine Below.trans ?_ (Below.mono (by assumption) (by first | exact Nat.le_refl _ | (simp; done) | (simp; omega) | omega))))))⟩
    · have HV := Lib.hid (hv.symm.trans (getR_2 hx h1 hy h2))
      rw [HV.out]
      clear HV hv hx hy k1
      obtain ⟨x0, x1, x2⟩ := x; obtain ⟨y0, y1, y2⟩ := y
      dsimp only at h1 h2
      subst h1
      have h3I : (y2 != 0) = true := by simp [h2]
      clear h2
      go_enter Try.func50, Try.ntmps50
      go_wp2_with fail
      refine (C1 _).mono ?_
      rintro e w1 ⟨rfl, rfl⟩
      go_wp2_with fail
      refine (C2 _).mono ?_
      rintro e w1 ⟨rfl, rfl⟩
      go_wp2_with fail
      refine bodyPost_ret (results_row2 rfl _ _ w.heap.size 72 #[.int .i64 0, .int .i64 0, str []] (0, 0) _ rfl (heap_alloc_new w _) Try.underlying72 rfl (by kernel_rfl)) rfl ?_
      exact ⟨rfl, (by first | exact Below.refl _ _ | (repeat (first | exact Below.refl _ _ | assumption | refine Below.drew ?_ | refine Below.drewN_ ?_ _ | refine Below.alloc ?_ (by first | exact Nat.le_refl _ | (simp; done) | (simp; omega) | omega) _ | refine Below.setCell ?_ (by first | exact Nat.le_refl _ | (simp; done) | (simp; omega) | omega) _ | (refine Below.trans ?_ (Below.mono (by assumption) (by first | exact Nat.le_refl _ | (simp; done) | (simp; omega) | omega))))))⟩
  · have HV := Lib.hid (hv.symm.trans (getR_1 hx h1))
    rw [HV.out]
    clear HV hv hx
    obtain ⟨x0, x1, x2⟩ := x
    dsimp only at h1
    have h3I : (x2 != 0) = true := by simp [h1]
    clear h1
    go_enter Try.func50, Try.ntmps50
    go_wp2_with fail
    refine (C1 _).mono ?_
    rintro e w1 ⟨rfl, rfl⟩
    go_wp2_with fail
    refine bodyPost_ret (results_row2 rfl _ _ w.heap.size 72 #[.int .i64 0, .int .i64 0, str []] (0, 0) _ rfl (heap_alloc_new w _) Try.underlying72 rfl (by kernel_rfl)) rfl ?_
    exact ⟨rfl, (by first | exact Below.refl _ _ | (repeat (first | exact Below.refl _ _ | assumption | refine Below.drew ?_ | refine Below.drewN_ ?_ _ | refine Below.alloc ?_ (by first | exact Nat.le_refl _ | (simp; done) | (simp; omega) | omega) _ | refine Below.setCell ?_ (by first | exact Nat.le_refl _ | (simp; done) | (simp; omega) | omega) _ | (refine Below.trans ?_ (Below.mono (by assumption) (by first | exact Nat.le_refl _ | (simp; done) | (simp; omega) | omega))))))⟩
end RecW
end Go.Proofs.Ytjdmbpkabeaccaa
