/- Walks over package varint and its reference: lists are taken. -/
import Derived.Test.YtjdmbpkabeaccaaVarL
namespace Go.Proofs.Ytjdmbpkabeaccaa
set_option linter.unusedVariables false
set_option linter.unusedSimpArgs false
set_option linter.unnecessarySimpa false
open Go.RowKit
namespace VarW

theorem El_int : El Try.prog 39 3 1 8 := El.mk' Try.underlying39 (z := .int .i64 0) (by kernel_rfl) rfl (by decide)
theorem ints_app (l m : List Int) : ints (l ++ m) = ints l ++ ints m := by simp [ints]


set_option maxRecDepth 100000 in
set_option maxHeartbeats 2000000 in
theorem unlist_any (s : List UInt8) (a most : Int) (w : World) (hs : s.length ≤ 1000000) (x : List Int × Int × Int) (hx : unlistV s a most = x) :
    Calls Try.prog 28 #[str s, .int .i64 a, .int .i64 most] w fun e w' => ∃ A n c, e = .returned (.tuple #[.slice A n c, .int .i64 x.2.1, .int .i64 x.2.2]) ∧ n ≤ c ∧ Rd w' w'.heap.size 1 A n (ints x.1) ∧ Below w.heap.size w w' := by
  obtain ⟨y, hy⟩ : ∃ y, getV s a = y := ⟨_, rfl⟩
  have HY := Lib.hid hy
  have HG := Lib.hid (fun a => @getV_ok s a)
  have hxx : x = if y.2.2 = 0 then (if most < y.1 then ([], 0, 3) else unl y.1.toNat s y.2.1 []) else ([], 0, y.2.2) := by rw [← hx, unlistV, hy]
  obtain ⟨n, p, er⟩ := y
  dsimp only at hxx
  have C := get_any s a w (by omega) (n, p, er) hy
  have HXX := Lib.hid hxx
  clear hx hy hxx
  go_enter Try.func28, Try.ntmps28
  go_wp2_with fail
  refine C.mono ?_
  clear C
  rintro e w1 ⟨rfl, rfl⟩
  by_cases he : er = 0
  · subst he
    obtain ⟨g1, g2, g3, g4, g5⟩ := HG.out a (by rw [HY.out])
    rw [HY.out] at g2 g3 g4 g5
    dsimp only at g2 g3 g4 g5
    obtain ⟨K, rfl⟩ := Int.eq_ofNat_of_zero_le g4
    by_cases hm : most < (K : Int)
    · have hx : x = ([], 0, 3) := by rw [HXX.out, if_pos rfl, if_pos hm]
      subst hx
      go_wp2_with fail
      go_ret3
      exact ⟨none, 0, 0, rfl, Nat.le_refl _, Rd.nil _ _ _ _, (by first | exact Below.refl _ _ | (repeat (first | exact Below.refl _ _ | assumption | refine Below.drew ?_ | refine Below.drewN_ ?_ _ | refine Below.alloc ?_ (by first | exact Nat.le_refl _ | (simp; done) | (simp; omega) | omega) _ | refine Below.setCell ?_ (by first | exact Nat.le_refl _ | (simp; done) | (simp; omega) | omega) _ | (refine Below.trans ?_ (Below.mono (by assumption) (by first | exact Nat.le_refl _ | (simp; done) | (simp; omega) | omega))))))⟩
    · have hx : x = unl K s p [] := by rw [HXX.out, if_pos rfl, if_neg hm, Int.toNat_natCast]
      have HX := Lib.hid hx
      clear hx
      go_wp2_with fail
      go_loopw [1, 6, 27] (fun a' out i wr => ∃ (j : Nat) (q : Int) (acc : List Int) (A2 : Option Addr) (c2 : Nat), i = .int .i64 j ∧ a' = .int .i64 q ∧ out = .slice A2 j c2 ∧ j ≤ K ∧ 0 ≤ q ∧ (j : Int) ≤ q ∧ q ≤ s.length ∧ x = unl (K - j) s q acc ∧
        Own wr w1.heap.size 3 1 A2 j c2 (ints acc) ∧ Below w1.heap.size w1 wr) (fun _ _ i _ => K - (intOf i).toNat)
      case atStart => exact ⟨0, p, [], none, 0, rfl, rfl, rfl, by omega, by omega, by omega, by omega, HX.out, Own.nil _ _ _ _, (by first | exact Below.refl _ _ | (repeat (first | exact Below.refl _ _ | assumption | refine Below.drew ?_ | refine Below.drewN_ ?_ _ | refine Below.alloc ?_ (by first | exact Nat.le_refl _ | (simp; done) | (simp; omega) | omega) _ | refine Below.setCell ?_ (by first | exact Nat.le_refl _ | (simp; done) | (simp; omega) | omega) _ | (refine Below.trans ?_ (Below.mono (by assumption) (by first | exact Nat.le_refl _ | (simp; done) | (simp; omega) | omega))))))⟩
      case round =>
        obtain ⟨j, q, acc, A2, c2, rfl, rfl, rfl, hj, hq0, hjq, hqs, hr, o2, hbw⟩ := hrel
        have HR := Lib.hid hr
        have hsz := hbw.size
        clear hr
        by_cases hlt : j < K
        · have hsp : K - j = (K - (j + 1)) + 1 := by omega
          obtain ⟨z, hz⟩ : ∃ z, getV s q = z := ⟨_, rfl⟩
          have C2 := get_any s q wr (by omega) z hz
          have hun : x = if z.2.2 = 0 then unl (K - (j + 1)) s z.2.1 (acc ++ [z.1]) else ([], 0, z.2.2) := by rw [HR.out, hsp, unl, hz]
          have HUN := Lib.hid hun
          have HZ := Lib.hid hz
          obtain ⟨n2, p2, e2⟩ := z
          dsimp only at hun
          clear hun hz hsp
          go_wp2_with fail
          refine C2.mono ?_
          clear C2
          rintro e w2 ⟨rfl, rfl⟩
          by_cases he2 : e2 = 0
          · subst he2
            obtain ⟨f1, f2, f3, f4, f5⟩ := HG.out q (by rw [HZ.out])
            rw [HZ.out] at f2 f3 f4 f5
            dsimp only at f2 f3 f4 f5
            go_wp2_with (at_builtin; with_reducible refine wp_append El_int rfl (s := .tmp 39) (x := .tmp 41) rfl rfl (o2.alloc _) rfl (rd_new (cs := ints [n2]) (m := 1) rfl rfl) (ints_one _) (by unfold maxLen; omega) (by omega) (by simp; omega) ?_; intro A4 c4 w4 o4 hg4 hat4)
            have hb4 := below_grown hbw (grown_alloc hg4) o2 (Nat.le_refl _)
            rw [← ints_app] at o4
            go_roundw
            case rel => exact ⟨j + 1, p2, acc ++ [n2], A4, c4, by go_num, rfl, rfl, by omega, by omega, by omega, f3, by rw [HUN.out]; simp, o4, hb4⟩
            case measure => simp [intOf]; omega
          · have heI : (e2 != 0) = true := by simp [he2]
            have hx : x = ([], 0, e2) := by rw [HUN.out, if_neg he2]
            subst hx
            clear he2
            go_wp2_with fail
            go_ret3
            exact ⟨none, 0, 0, rfl, Nat.le_refl _, Rd.nil _ _ _ _, hbw⟩
        · have hx : x = (acc, q, 0) := by rw [HR.out, show K - j = 0 by omega, unl]
          subst hx
          go_wp2_with fail
          go_ret3
          exact ⟨A2, j, c2, rfl, o2.cap, o2.rd, hbw⟩
  · have heI : (er != 0) = true := by simp [he]
    have hx : x = ([], 0, er) := by rw [HXX.out, if_neg he]
    subst hx
    clear he
    go_wp2_with fail
    go_ret3
    exact ⟨none, 0, 0, rfl, Nat.le_refl _, Rd.nil _ _ _ _, (by first | exact Below.refl _ _ | (repeat (first | exact Below.refl _ _ | assumption | refine Below.drew ?_ | refine Below.drewN_ ?_ _ | refine Below.alloc ?_ (by first | exact Nat.le_refl _ | (simp; done) | (simp; omega) | omega) _ | refine Below.setCell ?_ (by first | exact Nat.le_refl _ | (simp; done) | (simp; omega) | omega) _ | (refine Below.trans ?_ (Below.mono (by assumption) (by first | exact Nat.le_refl _ | (simp; done) | (simp; omega) | omega))))))⟩

set_option maxRecDepth 100000 in
set_option maxHeartbeats 2000000 in
theorem refUnlist_any (s : List UInt8) (a most : Int) (w : World) (hs : s.length ≤ 1000000) (x : List Int × Int × Int) (hx : unlistV s a most = x) :
    Calls Try.prog 29 #[str s, .int .i64 a, .int .i64 most] w fun e w' => ∃ A n c, e = .returned (.tuple #[.slice A n c, .int .i64 x.2.1, .int .i64 x.2.2]) ∧ n ≤ c ∧ Rd w' w'.heap.size 1 A n (ints x.1) ∧ Below w.heap.size w w' := by
  obtain ⟨y, hy⟩ : ∃ y, getV s a = y := ⟨_, rfl⟩
  have HY := Lib.hid hy
  have HG := Lib.hid (fun a => @getV_ok s a)
  have hxx : x = if y.2.2 = 0 then (if most < y.1 then ([], 0, 3) else unl y.1.toNat s y.2.1 []) else ([], 0, y.2.2) := by rw [← hx, unlistV, hy]
  obtain ⟨n, p, er⟩ := y
  dsimp only at hxx
  have C := refGet_any s a w (by omega) (n, p, er) hy
  have HXX := Lib.hid hxx
  clear hx hy hxx
  go_enter Try.func29, Try.ntmps29
  go_wp2_with fail
  refine C.mono ?_
  clear C
  rintro e w1 ⟨rfl, rfl⟩
  by_cases he : er = 0
  · subst he
    obtain ⟨g1, g2, g3, g4, g5⟩ := HG.out a (by rw [HY.out])
    rw [HY.out] at g2 g3 g4 g5
    dsimp only at g2 g3 g4 g5
    obtain ⟨K, rfl⟩ := Int.eq_ofNat_of_zero_le g4
    by_cases hm : most < (K : Int)
    · have hx : x = ([], 0, 3) := by rw [HXX.out, if_pos rfl, if_pos hm]
      subst hx
      go_wp2_with fail
      go_ret3
      exact ⟨none, 0, 0, rfl, Nat.le_refl _, Rd.nil _ _ _ _, (by first | exact Below.refl _ _ | (repeat (first | exact Below.refl _ _ | assumption | refine Below.drew ?_ | refine Below.drewN_ ?_ _ | refine Below.alloc ?_ (by first | exact Nat.le_refl _ | (simp; done) | (simp; omega) | omega) _ | refine Below.setCell ?_ (by first | exact Nat.le_refl _ | (simp; done) | (simp; omega) | omega) _ | (refine Below.trans ?_ (Below.mono (by assumption) (by first | exact Nat.le_refl _ | (simp; done) | (simp; omega) | omega))))))⟩
    · have hx : x = unl K s p [] := by rw [HXX.out, if_pos rfl, if_neg hm, Int.toNat_natCast]
      have HX := Lib.hid hx
      clear hx
      go_wp2_with fail
      go_loopw [10, 12, 13] (fun a' out i wr => ∃ (j : Nat) (q : Int) (acc : List Int) (A2 : Option Addr) (c2 : Nat), i = .int .i64 j ∧ a' = .int .i64 q ∧ out = .slice A2 j c2 ∧ j ≤ K ∧ 0 ≤ q ∧ (j : Int) ≤ q ∧ q ≤ s.length ∧ x = unl (K - j) s q acc ∧
        Own wr w1.heap.size 3 1 A2 j c2 (ints acc) ∧ Below w1.heap.size w1 wr) (fun _ _ i _ => K - (intOf i).toNat)
      case atStart => exact ⟨0, p, [], none, 0, rfl, rfl, rfl, by omega, by omega, by omega, by omega, HX.out, Own.nil _ _ _ _, (by first | exact Below.refl _ _ | (repeat (first | exact Below.refl _ _ | assumption | refine Below.drew ?_ | refine Below.drewN_ ?_ _ | refine Below.alloc ?_ (by first | exact Nat.le_refl _ | (simp; done) | (simp; omega) | omega) _ | refine Below.setCell ?_ (by first | exact Nat.le_refl _ | (simp; done) | (simp; omega) | omega) _ | (refine Below.trans ?_ (Below.mono (by assumption) (by first | exact Nat.le_refl _ | (simp; done) | (simp; omega) | omega))))))⟩
      case round =>
        obtain ⟨j, q, acc, A2, c2, rfl, rfl, rfl, hj, hq0, hjq, hqs, hr, o2, hbw⟩ := hrel
        have HR := Lib.hid hr
        have hsz := hbw.size
        clear hr
        by_cases hlt : j < K
        · have hsp : K - j = (K - (j + 1)) + 1 := by omega
          obtain ⟨z, hz⟩ : ∃ z, getV s q = z := ⟨_, rfl⟩
          have C2 := refGet_any s q wr (by omega) z hz
          have hun : x = if z.2.2 = 0 then unl (K - (j + 1)) s z.2.1 (acc ++ [z.1]) else ([], 0, z.2.2) := by rw [HR.out, hsp, unl, hz]
          have HUN := Lib.hid hun
          have HZ := Lib.hid hz
          obtain ⟨n2, p2, e2⟩ := z
          dsimp only at hun
          clear hun hz hsp
          go_wp2_with fail
          refine C2.mono ?_
          clear C2
          rintro e w2 ⟨rfl, rfl⟩
          by_cases he2 : e2 = 0
          · subst he2
            obtain ⟨f1, f2, f3, f4, f5⟩ := HG.out q (by rw [HZ.out])
            rw [HZ.out] at f2 f3 f4 f5
            dsimp only at f2 f3 f4 f5
            go_wp2_with (at_builtin; with_reducible refine wp_append El_int rfl (s := .tmp 45) (x := .tmp 47) rfl rfl (o2.alloc _) rfl (rd_new (cs := ints [n2]) (m := 1) rfl rfl) (ints_one _) (by unfold maxLen; omega) (by omega) (by simp; omega) ?_; intro A4 c4 w4 o4 hg4 hat4)
            have hb4 := below_grown hbw (grown_alloc hg4) o2 (Nat.le_refl _)
            rw [← ints_app] at o4
            go_roundw
            case rel => exact ⟨j + 1, p2, acc ++ [n2], A4, c4, by go_num, rfl, rfl, by omega, by omega, by omega, f3, by rw [HUN.out]; simp, o4, hb4⟩
            case measure => simp [intOf]; omega
          · have heI : (e2 != 0) = true := by simp [he2]
            have hx : x = ([], 0, e2) := by rw [HUN.out, if_neg he2]
            subst hx
            clear he2
            go_wp2_with fail
            go_ret3
            exact ⟨none, 0, 0, rfl, Nat.le_refl _, Rd.nil _ _ _ _, hbw⟩
        · have hx : x = (acc, q, 0) := by rw [HR.out, show K - j = 0 by omega, unl]
          subst hx
          go_wp2_with fail
          go_ret3
          exact ⟨A2, j, c2, rfl, o2.cap, o2.rd, hbw⟩
  · have heI : (er != 0) = true := by simp [he]
    have hx : x = ([], 0, er) := by rw [HXX.out, if_neg he]
    subst hx
    clear he
    go_wp2_with fail
    go_ret3
    exact ⟨none, 0, 0, rfl, Nat.le_refl _, Rd.nil _ _ _ _, (by first | exact Below.refl _ _ | (repeat (first | exact Below.refl _ _ | assumption | refine Below.drew ?_ | refine Below.drewN_ ?_ _ | refine Below.alloc ?_ (by first | exact Nat.le_refl _ | (simp; done) | (simp; omega) | omega) _ | refine Below.setCell ?_ (by first | exact Nat.le_refl _ | (simp; done) | (simp; omega) | omega) _ | (refine Below.trans ?_ (Below.mono (by assumption) (by first | exact Nat.le_refl _ | (simp; done) | (simp; omega) | omega))))))⟩
end VarW
end Go.Proofs.Ytjdmbpkabeaccaa
