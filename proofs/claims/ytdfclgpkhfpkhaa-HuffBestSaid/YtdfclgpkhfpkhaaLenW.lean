/- The walks of package lens and its reference: may lengths be? The walks of package lens and its reference: a code's lengths. The reference's walks on lengths. -/
import Derived.Test.YtdfclgpkhfpkhaaCanP
namespace Go.Proofs.Ytdfclgpkhfpkhaa
set_option linter.unusedVariables false
set_option linter.unusedSimpArgs false
set_option linter.unnecessarySimpa false
open Go.RowKit
namespace LenW

set_option maxRecDepth 100000 in
set_option maxHeartbeats 2000000 in
theorem used_any (A : Option Addr) (n c : Nat) (l : List Int) (w : World) (h : Rd w w.heap.size 1 A n (ints l)) (hn : n ≤ 1000000) (v : Nat) (hv : usedL l = v) :
    Calls Try.prog 60 #[.slice A n c] w fun e w' => e = .returned (.int .i64 v) ∧ w' = w := by
  have hl : l.length = n := rd_len h
  have hl1 : l.length ≤ n := by omega
  have hl2 : n ≤ l.length := by omega
  have HV := Lib.hid hv
  clear hl hv
  go_enter Try.func60, Try.ntmps60
  go_wp2_with fail
  go_loopw [3, 8] (fun u i wr => ∃ k : Nat, i = .int .i64 k ∧ k ≤ n ∧ u = .int .i64 (usedL (l.take k)) ∧ wr = w) (fun _ i _ => n - (intOf i).toNat)
  case atStart => exact ⟨0, rfl, by omega, by simp [usedL], rfl⟩
  case round =>
    obtain ⟨k, rfl, hk, rfl, rfl⟩ := hrel
    have hki0 : (0 : Int) ≤ (k : Int) := by omega
    by_cases hlt : k < n
    · have hkl : k < l.length := by omega
      obtain ⟨b, o, rfl, hb, hc⟩ := rd_ints h (by omega)
      have d0 : wr.cell? ⟨b, o + k, none⟩ = some (.int .i64 l[k]) := hc k hkl
      have hs := usedL_snoc l k hkl
      have hle := usedL_le (l.take k)
      rw [List.length_take] at hle
      have hle : usedL (l.take k) ≤ 1000000 := by omega
      have HS := Lib.hid hs
      generalize usedL (l.take k) = u at *
      generalize hx : l[k] = x at *
      have hki : (k : Int) < (n : Int) := by omega
      have hw1 : wrap64 ((k : Int) + 1) = (k : Int) + 1 := (w64 (by omega) (by omega)).trans (by omega)
      have hw2 : wrap64 ((u : Int) + 1) = (u : Int) + 1 := (w64 (by omega) (by omega)).trans (by omega)
      clear hc hs hx
      by_cases hp : 0 < x
      · go_wp2_with fail
        go_roundw
        case rel => exact ⟨k + 1, by go_num, by omega, by rw [HS.out, if_pos hp]; go_num, trivial⟩
        case measure => simp [intOf]; omega
      · go_wp2_with fail
        go_roundw
        case rel => exact ⟨k + 1, by go_num, by omega, by rw [HS.out, if_neg hp]; rfl, trivial⟩
        case measure => simp [intOf]; omega
    · have hz := Lib.hid (show l.take k = l from List.take_of_length_le (by omega))
      rw [hz.out, HV.out]
      go_wp2_with fail
      go_ret
      exact ⟨rfl, rfl⟩
set_option maxRecDepth 100000 in
set_option maxHeartbeats 2000000 in
theorem refUsed_any (A : Option Addr) (n c : Nat) (l : List Int) (w : World) (h : Rd w w.heap.size 1 A n (ints l)) (hn : n ≤ 1000000) (v : Nat) (hv : usedL l = v) :
    Calls Try.prog 33 #[.slice A n c] w fun e w' => e = .returned (.int .i64 v) ∧ w' = w := by
  have hl : l.length = n := rd_len h
  have hl1 : l.length ≤ n := by omega
  have hl2 : n ≤ l.length := by omega
  have HV := Lib.hid hv
  clear hl hv
  go_enter Try.func33, Try.ntmps33
  go_wp2_with fail
  go_loopw [3, 4] (fun u i wr => ∃ k : Nat, i = .int .i64 k ∧ k ≤ n ∧ u = .int .i64 (usedL (l.take k)) ∧ wr = w) (fun _ i _ => n - (intOf i).toNat)
  case atStart => exact ⟨0, rfl, by omega, by simp [usedL], rfl⟩
  case round =>
    obtain ⟨k, rfl, hk, rfl, rfl⟩ := hrel
    have hki0 : (0 : Int) ≤ (k : Int) := by omega
    by_cases hlt : k < n
    · have hkl : k < l.length := by omega
      obtain ⟨b, o, rfl, hb, hc⟩ := rd_ints h (by omega)
      have d0 : wr.cell? ⟨b, o + k, none⟩ = some (.int .i64 l[k]) := hc k hkl
      have hs := usedL_snoc l k hkl
      have hle := usedL_le (l.take k)
      rw [List.length_take] at hle
      have hle : usedL (l.take k) ≤ 1000000 := by omega
      have HS := Lib.hid hs
      generalize usedL (l.take k) = u at *
      generalize hx : l[k] = x at *
      have hki : (k : Int) < (n : Int) := by omega
      have hw1 : wrap64 ((k : Int) + 1) = (k : Int) + 1 := (w64 (by omega) (by omega)).trans (by omega)
      have hw2 : wrap64 ((u : Int) + 1) = (u : Int) + 1 := (w64 (by omega) (by omega)).trans (by omega)
      clear hc hs hx
      by_cases hp : 0 < x
      · go_wp2_with fail
        go_roundw
        case rel => exact ⟨k + 1, by go_num, by omega, by rw [HS.out, if_pos hp]; go_num, trivial⟩
        case measure => simp [intOf]; omega
      · go_wp2_with fail
        go_roundw
        case rel => exact ⟨k + 1, by go_num, by omega, by rw [HS.out, if_neg hp]; rfl, trivial⟩
        case measure => simp [intOf]; omega
    · have hz := Lib.hid (show l.take k = l from List.take_of_length_le (by omega))
      rw [hz.out, HV.out]
      go_wp2_with fail
      go_ret
      exact ⟨rfl, rfl⟩
end LenW
end Go.Proofs.Ytdfclgpkhfpkhaa

namespace Go.Proofs.Ytdfclgpkhfpkhaa
set_option linter.unusedVariables false
set_option linter.unusedSimpArgs false
set_option linter.unnecessarySimpa false
open Go.RowKit
namespace LenW

set_option maxRecDepth 100000 in
set_option maxHeartbeats 4000000 in
theorem check_any (A : Option Addr) (n c : Nat) (l : List Int) (w : World) (h : Rd w w.heap.size 1 A n (ints l)) (hn : n ≤ 1000000) (v : Int) (hv : chkL l = v) :
    Calls Try.prog 41 #[.slice A n c] w fun e w' => e = .returned (.int .i64 v) ∧ w' = w := by
  have hl : l.length = n := rd_len h
  have hl1 : l.length ≤ n := by omega
  have hl2 : n ≤ l.length := by omega
  by_cases hbig : 257 < n
  · have : v = 3 := by rw [← hv]; unfold chkL; rw [if_pos (by omega)]
    subst this
    have hbI : (257 : Int) < (n : Int) := by omega
    go_enter Try.func41, Try.ntmps41
    go_wp2_with fail
    go_ret
    exact ⟨rfl, rfl⟩
  · have hbI : ¬ (257 : Int) < (n : Int) := by omega
    have hno : ¬ 257 < l.length := by omega
    have HBAD := Lib.hid (fun (hb : okL l = false) => show (80 : Int) = v from by
      have e : chkL l = 80 := by unfold chkL; rw [if_neg hno, if_pos hb]
      exact e.symm.trans hv)
    have HV := Lib.hid (fun (hb : okL l = true) => show (if sumL l = 0 ∨ sumL l = 32768 ∨ (usedL l = 1 ∧ sumL l = 16384) then (0 : Int) else 80) = v from by
      have e : chkL l = (if sumL l = 0 ∨ sumL l = 32768 ∨ (usedL l = 1 ∧ sumL l = 16384) then (0 : Int) else 80) := by unfold chkL; rw [if_neg hno, if_neg (by simp [hb])]
      exact e.symm.trans hv)
    clear hno
    have CU := used_any A n c l w h hn _ rfl
    have hsl := sumL_le l
    generalize usedL l = us at *
    clear hl hv
    go_enter Try.func41, Try.ntmps41
    go_wp2_with fail
    go_loopw [3, 12] (fun u i wr => ∃ k : Nat, i = .int .i64 k ∧ k ≤ n ∧ u = .int .i64 (sumL (l.take k)) ∧ okL (l.take k) = true ∧ wr = w) (fun _ i _ => n - (intOf i).toNat)
    case atStart => exact ⟨0, rfl, by omega, by simp [sumL], rfl, rfl⟩
    case round =>
      obtain ⟨k, rfl, hk, rfl, hok, rfl⟩ := hrel
      have hki0 : (0 : Int) ≤ (k : Int) := by omega
      by_cases hlt : k < n
      · have hkl : k < l.length := by omega
        obtain ⟨b, o, rfl, hb, hc⟩ := rd_ints h (by omega)
        have d0 : wr.cell? ⟨b, o + k, none⟩ = some (.int .i64 l[k]) := hc k hkl
        have hs := sumL_snoc l k hkl
        have ho := okL_snoc l k hkl
        have hle := sumL_le (l.take k)
        rw [List.length_take] at hle
        have hle : sumL (l.take k) ≤ 32768 * 257 := by omega
        have HNO := Lib.hid (okL_no l k hkl)
        have HS := Lib.hid hs
        rw [hok] at ho
        have HO := Lib.hid ho
        generalize sumL (l.take k) = u at *
        generalize hx : l[k] = x at *
        have hki : (k : Int) < (n : Int) := by omega
        have hw1 : wrap64 ((k : Int) + 1) = (k : Int) + 1 := (w64 (by omega) (by omega)).trans (by omega)
        clear hc hs ho hx CU
        by_cases h0 : x < 0
        · have hbad := HBAD.out (HNO.out (by omega))
          subst hbad
          go_wp2_with fail
          go_ret
          exact ⟨rfl, rfl⟩
        · by_cases h15 : 15 < x
          · have hbad := HBAD.out (HNO.out (by omega))
            subst hbad
            go_wp2_with fail
            go_ret
            exact ⟨rfl, rfl⟩
          · have hok2 := Lib.hid (show okL (l.take (k + 1)) = true by rw [HO.out]; simp; omega)
            by_cases hp : 0 < x
            · obtain ⟨y, rfl⟩ := Int.eq_ofNat_of_zero_le (show 0 ≤ x by omega)
              have hy : y ≤ 15 := by omega
              have hy0 : 0 < y := by omega
              have hpl := partL_le (y : Int)
              have hpe : partL (y : Int) = 2 ^ (15 - y) := by unfold partL; rw [if_pos hp]; simp
              have hw3 : wrap64 (15 - (y : Int)) = ((15 - y : Nat) : Int) := (w64 (by omega) (by omega)).trans (by omega)
              have hp2 : 2 ^ (15 - y) ≤ 32768 := by rw [← hpe]; exact hpl
              have hpw : (2 : Int) ^ (15 - y) = ((2 ^ (15 - y) : Nat) : Int) := by push_cast; rfl
              have hsh : wrap64 ((u : Int) + wrap64 (2 ^ (15 - y))) = ((u + 2 ^ (15 - y) : Nat) : Int) := by
                rw [hpw]
                generalize 2 ^ (15 - y) = z at hp2
                rw [w64 (x := (z : Int)) (by omega) (by omega), w64 (by omega) (by omega)]
                omega
              have HSH := Lib.hid hsh
              have HPE := Lib.hid hpe
              clear hsh hpw hp2 hpe hpl
              go_wp2_with fail
              go_roundw
              case rel => exact ⟨k + 1, by go_num, by omega, by rw [HSH.out, HS.out, HPE.out], hok2.out, trivial⟩
              case measure => simp [intOf]; omega
            · have hpe : partL x = 0 := by unfold partL; rw [if_neg hp]
              have HPE := Lib.hid hpe
              go_wp2_with fail
              go_roundw
              case rel => exact ⟨k + 1, by go_num, by omega, by rw [HS.out, HPE.out]; rfl, hok2.out, trivial⟩
              case measure => simp [intOf]; omega
      · have hz := show l.take k = l from List.take_of_length_le (by omega)
        rw [hz] at hok
        have hv := HV.out hok
        rw [hz]
        generalize sumL l = sm at *
        have HVV := Lib.hid hv
        clear hz hok HV HBAD hv
        go_wp2_with fail
        refine CU.mono ?_
        rintro e w1 ⟨rfl, rfl⟩
        have HVV2 := HVV.out
        by_cases h1 : us = 1
        · subst h1
          by_cases h2 : sm = 16384
          · subst h2
            rw [if_pos (by omega)] at HVV2
            subst HVV2
            go_wp2_with fail
            go_ret
            exact ⟨rfl, rfl⟩
          · have q2 : ((sm : Int) == 16384) = false := by simp; omega
            have q2d : decide ((sm : Int) = 16384) = false := by simp; omega
            by_cases h3 : sm = 0
            · subst h3
              rw [if_pos (by omega)] at HVV2
              subst HVV2
              go_wp2_with fail
              go_ret
              exact ⟨rfl, rfl⟩
            · have q3 : ((sm : Int) != 0) = true := by simp; omega
              by_cases h4 : sm = 32768
              · subst h4
                rw [if_pos (by omega)] at HVV2
                subst HVV2
                go_wp2_with fail
                go_ret
                exact ⟨rfl, rfl⟩
              · have q4 : ((sm : Int) != 32768) = true := by simp; omega
                rw [if_neg (by omega)] at HVV2
                subst HVV2
                go_wp2_with fail
                go_ret
                exact ⟨rfl, rfl⟩
        · have q1 : ((us : Int) == 1) = false := by simp; omega
          have q1d : decide ((us : Int) = 1) = false := by simp; omega
          by_cases h3 : sm = 0
          · subst h3
            rw [if_pos (by omega)] at HVV2
            subst HVV2
            go_wp2_with fail
            go_ret
            exact ⟨rfl, rfl⟩
          · have q3 : ((sm : Int) != 0) = true := by simp; omega
            by_cases h4 : sm = 32768
            · subst h4
              rw [if_pos (by omega)] at HVV2
              subst HVV2
              go_wp2_with fail
              go_ret
              exact ⟨rfl, rfl⟩
            · have q4 : ((sm : Int) != 32768) = true := by simp; omega
              rw [if_neg (by omega)] at HVV2
              subst HVV2
              go_wp2_with fail
              go_ret
              exact ⟨rfl, rfl⟩
end LenW
end Go.Proofs.Ytdfclgpkhfpkhaa

namespace Go.Proofs.Ytdfclgpkhfpkhaa
set_option linter.unusedVariables false
set_option linter.unusedSimpArgs false
set_option linter.unnecessarySimpa false
open Go.RowKit
namespace LenW

set_option maxRecDepth 100000 in
theorem power_any (m : Nat) (hm : m ≤ 40) (w : World) (v : Nat) (hv : 2 ^ m = v) :
    Calls Try.prog 32 #[.int .i64 m] w fun e w' => e = .returned (.int .i64 v) ∧ w' = w := by
  have HV := Lib.hid hv
  clear hv
  go_enter Try.func32, Try.ntmps32
  go_wp2_with fail
  go_loopw [3, 4] (fun u i wr => ∃ k : Nat, i = .int .i64 k ∧ k ≤ m ∧ u = .int .i64 ((2 ^ k : Nat) : Int) ∧ wr = w) (fun _ i _ => m - (intOf i).toNat)
  case atStart => exact ⟨0, rfl, by omega, rfl, rfl⟩
  case round =>
    obtain ⟨k, rfl, hk, rfl, rfl⟩ := hrel
    by_cases hlt : k < m
    · have hki : (k : Int) < (m : Int) := by omega
      have hp := Nat.pow_le_pow_right (n := 2) (by omega) (show k ≤ 40 by omega)
      have hs := Lib.hid (show (2 : Nat) ^ (k + 1) = 2 * 2 ^ k from by rw [Nat.pow_succ, Nat.mul_comm])
      generalize (2 : Nat) ^ k = z at *
      have hz : z ≤ 1099511627776 := by simpa using hp
      clear hp
      have hw1 : wrap64 (2 * (z : Int)) = 2 * (z : Int) := w64 (by omega) (by omega)
      have hw2 : wrap64 ((k : Int) + 1) = (k : Int) + 1 := w64 (by omega) (by omega)
      go_wp2_with fail
      go_roundw
      case rel => exact ⟨k + 1, by go_num, by omega, by rw [hs.out]; go_num, trivial⟩
      case measure => simp [intOf]; omega
    · obtain rfl : k = m := by omega
      rw [HV.out]
      go_wp2_with fail
      go_ret
      exact ⟨rfl, rfl⟩
def sumR (l : List Int) : Int := if okL l = true then sumL l else -1
set_option maxRecDepth 100000 in
set_option maxHeartbeats 4000000 in
theorem refSum_any (A : Option Addr) (n c : Nat) (l : List Int) (w : World) (h : Rd w w.heap.size 1 A n (ints l)) (hn : n ≤ 1000000) (v : Int) (hv : sumR l = v) :
    Calls Try.prog 31 #[.slice A n c] w fun e w' => e = .returned (.int .i64 v) ∧ w' = w := by
  have hl : l.length = n := rd_len h
  have hl1 : l.length ≤ n := by omega
  have hl2 : n ≤ l.length := by omega
  have HBAD := Lib.hid (fun (hb : okL l = false) => show (-1 : Int) = v from by rw [← hv]; unfold sumR; rw [if_neg (by simp [hb])])
  have HV := Lib.hid (fun (hb : okL l = true) => show (sumL l : Int) = v from by rw [← hv]; unfold sumR; rw [if_pos hb])
  have hsl := sumL_le l
  clear hl hv
  go_enter Try.func31, Try.ntmps31
  go_wp2_with fail
  go_loopw [3, 4] (fun u i wr => ∃ k : Nat, i = .int .i64 k ∧ k ≤ n ∧ u = .int .i64 (sumL (l.take k)) ∧ okL (l.take k) = true ∧ wr = w) (fun _ i _ => n - (intOf i).toNat)
  case atStart => exact ⟨0, rfl, by omega, by simp [sumL], rfl, rfl⟩
  case round =>
    obtain ⟨k, rfl, hk, rfl, hok, rfl⟩ := hrel
    have hki0 : (0 : Int) ≤ (k : Int) := by omega
    by_cases hlt : k < n
    · have hkl : k < l.length := by omega
      obtain ⟨b, o, rfl, hb, hc⟩ := rd_ints h (by omega)
      have d0 : wr.cell? ⟨b, o + k, none⟩ = some (.int .i64 l[k]) := hc k hkl
      have hs := sumL_snoc l k hkl
      have ho := okL_snoc l k hkl
      have hle := sumL_le (l.take k)
      rw [List.length_take] at hle
      have hle2 : sumL (l.take k) ≤ 32768 * 1000000 := by omega
      clear hle
      have HNO := Lib.hid (okL_no l k hkl)
      have HS := Lib.hid hs
      rw [hok] at ho
      have HO := Lib.hid ho
      generalize sumL (l.take k) = u at *
      generalize hx : l[k] = x at *
      have hki : (k : Int) < (n : Int) := by omega
      have hw1 : wrap64 ((k : Int) + 1) = (k : Int) + 1 := (w64 (by omega) (by omega)).trans (by omega)
      clear hc hs ho hx
      by_cases h0 : x < 0
      · have hbad := HBAD.out (HNO.out (by omega))
        subst hbad
        go_wp2_with fail
        go_ret
        exact ⟨rfl, rfl⟩
      · by_cases h15 : 15 < x
        · have hbad := HBAD.out (HNO.out (by omega))
          subst hbad
          go_wp2_with fail
          go_ret
          exact ⟨rfl, rfl⟩
        · have hok2 := Lib.hid (show okL (l.take (k + 1)) = true by rw [HO.out]; simp; omega)
          by_cases hp : 0 < x
          · obtain ⟨y, rfl⟩ := Int.eq_ofNat_of_zero_le (show 0 ≤ x by omega)
            have hy : y ≤ 15 := by omega
            have hpl := partL_le (y : Int)
            have hpe : partL (y : Int) = 2 ^ (15 - y) := by unfold partL; rw [if_pos hp]; simp
            obtain ⟨m, hm⟩ : ∃ m, 15 - y = m := ⟨_, rfl⟩
            have hw3 : wrap64 (15 - (y : Int)) = (m : Int) := (w64 (by omega) (by omega)).trans (by omega)
            have hw3' : 15 - (y : Int) = (m : Int) := by omega
            rw [hm] at hpe
            have C := fun w => power_any m (by omega) w _ rfl
            rw [← hpe] at C
            have HPE := Lib.hid hpe
            generalize partL (y : Int) = z at *
            clear hpe
            have HW4 := Lib.hid (show wrap64 ((u : Int) + (z : Int)) = (u : Int) + (z : Int) from w64 (by omega) (by omega))
            go_wp2_with fail
            refine (C _).mono ?_
            rintro e w1 ⟨rfl, rfl⟩
            clear hle2 hm hw3 hw3' hpl C hp hy h15 h0 hsl HPE HNO HO d0
            go_wp2_with fail
            go_roundw
            case rel => exact ⟨k + 1, by go_num, by omega, by rw [HS.out, HW4.out]; go_num, hok2.out, trivial⟩
            case measure => simp [intOf]; omega
          · have hpe : partL x = 0 := by unfold partL; rw [if_neg hp]
            have HPE := Lib.hid hpe
            go_wp2_with fail
            go_roundw
            case rel => exact ⟨k + 1, by go_num, by omega, by rw [HS.out, HPE.out]; rfl, hok2.out, trivial⟩
            case measure => simp [intOf]; omega
    · have hz := show l.take k = l from List.take_of_length_le (by omega)
      rw [hz] at hok
      have hv := HV.out hok
      rw [hz]
      subst hv
      go_wp2_with fail
      go_ret
      exact ⟨rfl, rfl⟩
set_option maxRecDepth 100000 in
set_option maxHeartbeats 4000000 in
theorem refCheck_any (A : Option Addr) (n c : Nat) (l : List Int) (w : World) (h : Rd w w.heap.size 1 A n (ints l)) (hn : n ≤ 1000000) (v : Int) (hv : chkL l = v) :
    Calls Try.prog 15 #[.slice A n c] w fun e w' => e = .returned (.int .i64 v) ∧ w' = w := by
  have hl : l.length = n := rd_len h
  by_cases hbig : 257 < n
  · have : v = 3 := by rw [← hv]; unfold chkL; rw [if_pos (by omega)]
    subst this
    have hbI : (257 : Int) < (n : Int) := by omega
    go_enter Try.func15, Try.ntmps15
    go_wp2_with fail
    go_ret
    exact ⟨rfl, rfl⟩
  · have hbI : ¬ (257 : Int) < (n : Int) := by omega
    have hno : ¬ 257 < l.length := by omega
    obtain ⟨sm, hsm⟩ : ∃ x, sumR l = x := ⟨_, rfl⟩
    have hv2 : (if sm = 0 ∨ sm = 32768 ∨ (usedL l = 1 ∧ sm = 16384) then (0 : Int) else 80) = v := by
      by_cases hb : okL l = true
      · have e : chkL l = (if sumL l = 0 ∨ sumL l = 32768 ∨ (usedL l = 1 ∧ sumL l = 16384) then (0 : Int) else 80) := by unfold chkL; rw [if_neg hno, if_neg (by simp [hb])]
        have es : sm = sumL l := by rw [← hsm]; unfold sumR; rw [if_pos hb]
        rw [← hv, e, es]
        by_cases hc : sumL l = 0 ∨ sumL l = 32768 ∨ (usedL l = 1 ∧ sumL l = 16384)
        · rw [if_pos hc, if_pos (by omega)]
        · rw [if_neg hc, if_neg (by omega)]
      · have e : chkL l = 80 := by unfold chkL; rw [if_neg hno, if_pos (by simpa using hb)]
        have es : sm = -1 := by rw [← hsm]; unfold sumR; rw [if_neg hb]
        rw [← hv, e, es, if_neg (by omega)]
    have CS := fun w HH => refSum_any A n c l w HH hn sm hsm
    have CU := fun w HH => refUsed_any A n c l w HH hn _ rfl
    have CP := fun w => power_any 15 (by omega) w _ rfl
    have CQ := fun w => power_any 14 (by omega) w _ rfl
    generalize usedL l = us at *
    have HVV := Lib.hid hv2
    clear hv hsm hno hl hv2
    go_enter Try.func15, Try.ntmps15
    go_wp2_with fail
    refine (CS _ h).mono ?_
    rintro e w1 ⟨rfl, rfl⟩
    have HVV2 := HVV.out
    by_cases h3 : sm = 0
    · subst h3
      rw [if_pos (by omega)] at HVV2
      subst HVV2
      go_wp2_with fail
      go_ret
      exact ⟨rfl, rfl⟩
    · have q3 : (sm == 0) = false := by simp; omega
      have q3d : decide (sm = 0) = false := by simp; omega
      go_wp2_with fail
      refine (CP _).mono ?_
      rintro e w2 ⟨rfl, rfl⟩
      by_cases h4 : sm = 32768
      · subst h4
        rw [if_pos (by omega)] at HVV2
        subst HVV2
        go_wp2_with fail
        go_ret
        exact ⟨rfl, rfl⟩
      · have q4 : (sm == 32768) = false := by simp; omega
        have q4d : decide (sm = 32768) = false := by simp; omega
        have H1 := Lib.hid (fun (h : us = 1) (h' : sm = 16384) => show (0 : Int) = v by rw [← HVV2, if_pos (by omega)])
        have H2 := Lib.hid (fun (h : us = 1) (h' : ¬ sm = 16384) => show (80 : Int) = v by rw [← HVV2, if_neg (by omega)])
        have H3 := Lib.hid (fun (h : ¬ us = 1) => show (80 : Int) = v by rw [← HVV2, if_neg (by omega)])
        clear HVV2
        go_wp2_with fail
        refine (CU _ h).mono ?_
        rintro e w3 ⟨rfl, rfl⟩
        by_cases h1 : us = 1
        · subst h1
          go_wp2_with fail
          refine (CQ _).mono ?_
          rintro e w4 ⟨rfl, rfl⟩
          by_cases h2 : sm = 16384
          · subst h2
            obtain rfl := H1.out (by trivial) (by trivial)
            go_wp2_with fail
            go_ret
            exact ⟨rfl, rfl⟩
          · have q2 : (sm == 16384) = false := by simp; omega
            have q2d : decide (sm = 16384) = false := by simp; omega
            obtain rfl := H2.out (by trivial) h2
            go_wp2_with fail
            go_ret
            exact ⟨rfl, rfl⟩
        · have q1 : ((us : Int) == 1) = false := by simp; omega
          have q1d : decide ((us : Int) = 1) = false := by simp; omega
          obtain rfl := H3.out h1
          go_wp2_with fail
          go_ret
          exact ⟨rfl, rfl⟩
end LenW
end Go.Proofs.Ytdfclgpkhfpkhaa
