/- The walks of package lens and its reference: a code's lengths. -/
import Derived.Test.YtpnccehaomikbaaLenW
namespace Go.Proofs.Ytpnccehaomikbaa
set_option linter.unusedVariables false
set_option linter.unusedSimpArgs false
set_option linter.unnecessarySimpa false
open Go.RowKit
namespace LenW

set_option maxRecDepth 100000 in
set_option maxHeartbeats 4000000 in
theorem check_any (A : Option Addr) (n c : Nat) (l : List Int) (w : World) (h : Rd w w.heap.size 1 A n (ints l)) (hn : n ≤ 1000000) (v : Int) (hv : chkL l = v) :
    Calls Try.prog 11 #[.slice A n c] w fun e w' => e = .returned (.int .i64 v) ∧ w' = w := by
  have hl : l.length = n := rd_len h
  have hl1 : l.length ≤ n := by omega
  have hl2 : n ≤ l.length := by omega
  by_cases hbig : 257 < n
  · have : v = 3 := by rw [← hv]; unfold chkL; rw [if_pos (by omega)]
    subst this
    have hbI : (257 : Int) < (n : Int) := by omega
    go_enter Try.func11, Try.ntmps11
    go_wp2_with fail
    go_ret
    exact ⟨rfl, rfl⟩
  · have hbI : ¬ (257 : Int) < (n : Int) := by omega
    have hno : ¬ 257 < l.length := by omega
    have HBAD := Lib.hid (fun (hb : okL l = false) => show (80 : Int) = v from by
      have e : chkL l = 80 := by unfold chkL; rw [if_neg hno, if_pos hb]
      exact e.symm.trans hv)
    have HV := Lib.hid (fun (hb : okL l = true) => show (if sumL l = 0 ∨ sumL l = 32768 ∨ (usedL l = 1 ∧ sumL l = 16384) then (0 : Int) else 80) = v from by
      have e : chkL l = (if sumL l = 0 ∨ sumL l = 32768 ∨ (usedL l = 1 ∧ sumL l = 16384) then (0 : Int) else 80) := by unfold chkL; rw [if_neg hno, if_neg (by simp [hb])]
      exact e.symm.trans hv)
    clear hno
    have CU := used_any A n c l w h hn _ rfl
    have hsl := sumL_le l
    generalize usedL l = us at *
    clear hl hv
    go_enter Try.func11, Try.ntmps11
    go_wp2_with fail
    go_loopw [3, 12] (fun u i wr => ∃ k : Nat, i = .int .i64 k ∧ k ≤ n ∧ u = .int .i64 (sumL (l.take k)) ∧ okL (l.take k) = true ∧ wr = w) (fun _ i _ => n - (intOf i).toNat)
    case atStart => exact ⟨0, rfl, by omega, by simp [sumL], rfl, rfl⟩
    case round =>
      obtain ⟨k, rfl, hk, rfl, hok, rfl⟩ := hrel
      have hki0 : (0 : Int) ≤ (k : Int) := by omega
      by_cases hlt : k < n
      · have hkl : k < l.length := by omega
        obtain ⟨b, o, rfl, hb, hc⟩ := rd_ints h (by omega)
        have d0 : wr.cell? ⟨b, o + k, none⟩ = some (.int .i64 l[k]) := hc k hkl
        have hs := sumL_snoc l k hkl
        have ho := okL_snoc l k hkl
        have hle := sumL_le (l.take k)
        rw [List.length_take] at hle
        have hle : sumL (l.take k) ≤ 32768 * 257 := by omega
        have HNO := Lib.hid (okL_no l k hkl)
        have HS := Lib.hid hs
        rw [hok] at ho
        have HO := Lib.hid ho
        generalize sumL (l.take k) = u at *
        generalize hx : l[k] = x at *
        have hki : (k : Int) < (n : Int) := by omega
        have hw1 : wrap64 ((k : Int) + 1) = (k : Int) + 1 := (w64 (by omega) (by omega)).trans (by omega)
        clear hc hs ho hx CU
        by_cases h0 : x < 0
        · have hbad := HBAD.out (HNO.out (by omega))
          subst hbad
          go_wp2_with fail
          go_ret
          exact ⟨rfl, rfl⟩
        · by_cases h15 : 15 < x
          · have hbad := HBAD.out (HNO.out (by omega))
            subst hbad
            go_wp2_with fail
            go_ret
            exact ⟨rfl, rfl⟩
          · have hok2 := Lib.hid (show okL (l.take (k + 1)) = true by rw [HO.out]; simp; omega)
            by_cases hp : 0 < x
            · obtain ⟨y, rfl⟩ := Int.eq_ofNat_of_zero_le (show 0 ≤ x by omega)
              have hy : y ≤ 15 := by omega
              have hy0 : 0 < y := by omega
              have hpl := partL_le (y : Int)
              have hpe : partL (y : Int) = 2 ^ (15 - y) := by unfold partL; rw [if_pos hp]; simp
              have hw3 : wrap64 (15 - (y : Int)) = ((15 - y : Nat) : Int) := (w64 (by omega) (by omega)).trans (by omega)
              have hp2 : 2 ^ (15 - y) ≤ 32768 := by rw [← hpe]; exact hpl
              have hpw : (2 : Int) ^ (15 - y) = ((2 ^ (15 - y) : Nat) : Int) := by push_cast; rfl
              have hsh : wrap64 ((u : Int) + wrap64 (2 ^ (15 - y))) = ((u + 2 ^ (15 - y) : Nat) : Int) := by
                rw [hpw]
                generalize 2 ^ (15 - y) = z at hp2
                rw [w64 (x := (z : Int)) (by omega) (by omega), w64 (by omega) (by omega)]
                omega
              have HSH := Lib.hid hsh
              have HPE := Lib.hid hpe
              clear hsh hpw hp2 hpe hpl
              go_wp2_with fail
              go_roundw
              case rel => exact ⟨k + 1, by go_num, by omega, by rw [HSH.out, HS.out, HPE.out], hok2.out, trivial⟩
              case measure => simp [intOf]; omega
            · have hpe : partL x = 0 := by unfold partL; rw [if_neg hp]
              have HPE := Lib.hid hpe
              go_wp2_with fail
              go_roundw
              case rel => exact ⟨k + 1, by go_num, by omega, by rw [HS.out, HPE.out]; rfl, hok2.out, trivial⟩
              case measure => simp [intOf]; omega
      · have hz := show l.take k = l from List.take_of_length_le (by omega)
        rw [hz] at hok
        have hv := HV.out hok
        rw [hz]
        generalize sumL l = sm at *
        have HVV := Lib.hid hv
        clear hz hok HV HBAD hv
        go_wp2_with fail
        refine CU.mono ?_
        rintro e w1 ⟨rfl, rfl⟩
        have HVV2 := HVV.out
        by_cases h1 : us = 1
        · subst h1
          by_cases h2 : sm = 16384
          · subst h2
            rw [if_pos (by omega)] at HVV2
            subst HVV2
            go_wp2_with fail
            go_ret
            exact ⟨rfl, rfl⟩
          · have q2 : ((sm : Int) == 16384) = false := by simp; omega
            have q2d : decide ((sm : Int) = 16384) = false := by simp; omega
            by_cases h3 : sm = 0
            · subst h3
              rw [if_pos (by omega)] at HVV2
              subst HVV2
              go_wp2_with fail
              go_ret
              exact ⟨rfl, rfl⟩
            · have q3 : ((sm : Int) != 0) = true := by simp; omega
              by_cases h4 : sm = 32768
              · subst h4
                rw [if_pos (by omega)] at HVV2
                subst HVV2
                go_wp2_with fail
                go_ret
                exact ⟨rfl, rfl⟩
              · have q4 : ((sm : Int) != 32768) = true := by simp; omega
                rw [if_neg (by omega)] at HVV2
                subst HVV2
                go_wp2_with fail
                go_ret
                exact ⟨rfl, rfl⟩
        · have q1 : ((us : Int) == 1) = false := by simp; omega
          have q1d : decide ((us : Int) = 1) = false := by simp; omega
          by_cases h3 : sm = 0
          · subst h3
            rw [if_pos (by omega)] at HVV2
            subst HVV2
            go_wp2_with fail
            go_ret
            exact ⟨rfl, rfl⟩
          · have q3 : ((sm : Int) != 0) = true := by simp; omega
            by_cases h4 : sm = 32768
            · subst h4
              rw [if_pos (by omega)] at HVV2
              subst HVV2
              go_wp2_with fail
              go_ret
              exact ⟨rfl, rfl⟩
            · have q4 : ((sm : Int) != 32768) = true := by simp; omega
              rw [if_neg (by omega)] at HVV2
              subst HVV2
              go_wp2_with fail
              go_ret
              exact ⟨rfl, rfl⟩
end LenW
end Go.Proofs.Ytpnccehaomikbaa
