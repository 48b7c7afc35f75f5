/- The walks of package lens: a row is turned. -/
import Derived.Test.YtpnccehaomikbaaLenS
namespace Go.Proofs.Ytpnccehaomikbaa
set_option linter.unusedVariables false
set_option linter.unusedSimpArgs false
set_option linter.unnecessarySimpa false
open Go.RowKit
namespace LenW

set_option maxRecDepth 100000 in
set_option maxHeartbeats 8000000 in
theorem rotate_any (base : Nat) (A0 : Option Addr) (N c : Nat) (P X Y T : List (Int × Int)) (w : World) (a m b : Nat) (ha : P.length = a) (hm : a + X.length = m) (hb : m + Y.length = b) (hX : 1 ≤ X.length) (hY : 1 ≤ Y.length) (hN : P.length + X.length + Y.length + T.length = N) (hN3 : N ≤ 1000)
    (ho : Own w base 39 2 A0 N c (fcells (P ++ (X ++ (Y ++ T))))) (hbs : base ≤ w.heap.size) :
    Calls Try.prog 38 #[.slice A0 N c, .int .i64 a, .int .i64 m, .int .i64 b, .func (.func 30) #[] #[]] w fun e w' => e = .returned (.tuple #[]) ∧ Own w' base 39 2 A0 N c (fcells (P ++ (Y ++ (X ++ T)))) ∧ Below base w w' := by
  obtain ⟨i0, hi0⟩ : ∃ i, X.length = i := ⟨_, rfl⟩
  obtain ⟨j0, hj0⟩ : ∃ j, Y.length = j := ⟨_, rfl⟩
  obtain ⟨t0, ht0⟩ : ∃ t, T.length = t := ⟨_, rfl⟩
  rw [hi0] at hm hX hN
  rw [hj0] at hb hY hN
  rw [ht0, ha] at hN
  have hbN : b ≤ N := by omega
  have hmb : m ≤ b := by omega
  have hw1 : IntKind.i64.wrap ((m : Int) - (a : Int)) = (i0 : Int) := (w64k (by omega) (by omega)).trans (by omega)
  have hw2 : IntKind.i64.wrap ((b : Int) - (m : Int)) = (j0 : Int) := (w64k (by omega) (by omega)).trans (by omega)
  have HI0 := Lib.hid hi0
  have HJ0 := Lib.hid hj0
  have HA := Lib.hid ha
  have hiN : a + i0 + j0 ≤ N := by omega
  have HM := Lib.hid hm
  clear hi0 hj0 ht0 ha hm hb hN
  go_enter Try.func38, Try.ntmps38
  go_wp2_with fail
  go_loopw [10, 11] (fun s r wr => ∃ (i j u : Nat) (P' X' Y' T' : List (Int × Int)), s = .int .i64 i ∧ r = .int .i64 j ∧ X'.length = i ∧ Y'.length = j ∧ P'.length = u ∧ u + i = m ∧ 1 ≤ i ∧ 1 ≤ j ∧ u + i + j ≤ N ∧ u + i + j + T'.length = N ∧ Own wr base 39 2 A0 N c (fcells (P' ++ (X' ++ (Y' ++ T')))) ∧ P' ++ (Y' ++ (X' ++ T')) = P ++ (Y ++ (X ++ T)) ∧ Below base w wr) (fun s r _ => (intOf s).toNat + (intOf r).toNat)
  case atStart => exact ⟨i0, j0, a, P, X, Y, T, rfl, rfl, HI0.out, HJ0.out, HA.out, HM.out, by omega, by omega, by omega, by have := ho.len; rw [fcells_len] at this; simp only [List.length_append] at this; have := HI0.out; have := HJ0.out; have := HA.out; omega, ho, rfl, Below.refl _ _⟩
  case round =>
    clear ho
    obtain ⟨i, j, u, P', X', Y', T', rfl, rfl, hX', hY', hP', hum, hi1, hj1, huN, hNN, o2, hE, HB⟩ := hrel
    have hz := HB.size
    have HX' := Lib.hid hX'
    have HY' := Lib.hid hY'
    have HP' := Lib.hid hP'
    have HE := Lib.hid hE
    have HU := Lib.hid hum
    have hu1 : u + i ≤ m := Nat.le_of_eq hum
    have hu2 : m ≤ u + i := Nat.le_of_eq hum.symm
    have HNN := Lib.hid hNN
    have hmi : IntKind.i64.wrap ((m : Int) - (i : Int)) = (u : Int) := (w64k (by omega) (by omega)).trans (by omega)
    clear hX' hY' hP' hE hum hNN
    by_cases hij : i = j
    · have hd : (i != j) = false := by simp [hij]
      subst hij
      have C := swapRange_any base A0 N c P' X' [] Y' T' wr u m i HP'.out (by have := HX'.out; have := HU.out; simp; omega) HX'.out HY'.out (by have := HX'.out; have := HY'.out; have := HP'.out; have := HNN.out; simp; omega) hN3 (by simpa using o2) (by omega)
      go_wp2_with fail
      refine C.mono ?_
      rintro e w2 ⟨rfl, o3, hb3⟩
      go_wp2_with fail
      go_end0
      refine ⟨rfl, ?_, HB.trans hb3⟩
      rw [← HE.out]
      simpa using o3
    · have hneI : ¬ (i : Int) = (j : Int) := by omega
      by_cases hgt : j < i
      · have hgtI : (j : Int) < (i : Int) := by omega
        obtain ⟨X1, X2, hXX, hX1⟩ : ∃ X1 X2, X' = X1 ++ X2 ∧ X1.length = j := ⟨X'.take j, X'.drop j, (List.take_append_drop _ _).symm, by rw [List.length_take, HX'.out]; omega⟩
        have hX2 : X2.length = i - j := by have := HX'.out; rw [hXX, List.length_append] at this; omega
        have hw3 : IntKind.i64.wrap ((i : Int) - (j : Int)) = ((i - j : Nat) : Int) := (w64k (by omega) (by omega)).trans (by omega)
        have C := swapRange_any base A0 N c P' X1 X2 Y' T' wr u m j HP'.out (by have := HU.out; omega) hX1 HY'.out (by have := HY'.out; have := HP'.out; have := HNN.out; omega) hN3 (by rw [hXX] at o2; simpa using o2) (by omega)
        have HXX := Lib.hid hXX
        have HX1 := Lib.hid hX1
        have HX2 := Lib.hid hX2
        obtain ⟨d, hd⟩ : ∃ d, i - j = d := ⟨_, rfl⟩
        rw [hd] at hw3 HX2
        have hd1 : d + j ≤ i := by omega
        have hd2 : i ≤ d + j := by omega
        clear hXX hX1 hX2 hd
        go_wp2_with fail
        refine C.mono ?_
        rintro e w2 ⟨rfl, o3, hb3⟩
        go_wp2_with fail
        go_roundw
        case rel => exact ⟨d, j, u + j, P' ++ Y', X2, X1, T', by simp, rfl, HX2.out, HX1.out, by rw [List.length_append, HP'.out, HY'.out], by omega, by omega, by omega, by omega, by have := HNN.out; omega, by simpa using o3, by rw [← HE.out, HXX.out]; simp, HB.trans hb3⟩
        case measure => simp [intOf]; omega
      · have hgtI : ¬ (j : Int) < (i : Int) := by omega
        obtain ⟨Y1, Y2, hYY, hY1⟩ : ∃ Y1 Y2, Y' = Y1 ++ Y2 ∧ Y1.length = j - i := ⟨Y'.take (j - i), Y'.drop (j - i), (List.take_append_drop _ _).symm, by rw [List.length_take, HY'.out]; omega⟩
        have hY2 : Y2.length = i := by have := HY'.out; rw [hYY, List.length_append] at this; omega
        obtain ⟨d, hd⟩ : ∃ d, j - i = d := ⟨_, rfl⟩
        obtain ⟨q, hq⟩ : ∃ q, m + d = q := ⟨_, rfl⟩
        rw [hd] at hY1
        have hw3 : IntKind.i64.wrap ((j : Int) - (i : Int)) = (d : Int) := (w64k (by omega) (by omega)).trans (by omega)
        have hw4 : IntKind.i64.wrap ((m : Int) + (j : Int)) = (m : Int) + (j : Int) := w64k (by omega) (by omega)
        have hw5 : IntKind.i64.wrap ((m : Int) + (j : Int) - (i : Int)) = (q : Int) := (w64k (by omega) (by omega)).trans (by omega)
        have C := swapRange_any base A0 N c P' X' Y1 Y2 T' wr u q i HP'.out (by have := HU.out; have := HX'.out; omega) HX'.out hY2 (by have := HX'.out; have := HP'.out; have := HNN.out; omega) hN3 (by rw [hYY] at o2; simpa using o2) (by omega)
        have HYY := Lib.hid hYY
        have HY1 := Lib.hid hY1
        have HY2 := Lib.hid hY2
        have hd1 : d + i ≤ j := by omega
        have hd2 : j ≤ d + i := by omega
        clear hYY hY1 hY2 hd hq
        go_wp2_with fail
        refine C.mono ?_
        rintro e w2 ⟨rfl, o3, hb3⟩
        go_wp2_with fail
        go_roundw
        case rel => exact ⟨i, d, u, P', Y2, Y1, X' ++ T', rfl, by simp, HY2.out, HY1.out, HP'.out, HU.out, by omega, by omega, by omega, by rw [List.length_append, HX'.out]; have := HNN.out; omega, by simpa using o3, by rw [← HE.out, HYY.out]; simp, HB.trans hb3⟩
        case measure => simp [intOf]; omega
end LenW
end Go.Proofs.Ytpnccehaomikbaa
