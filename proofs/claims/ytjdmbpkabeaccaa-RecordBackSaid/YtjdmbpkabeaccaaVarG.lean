/- Walks over varint's reference: a number is taken. -/
import Derived.Test.YtjdmbpkabeaccaaVarW
namespace Go.Proofs.Ytjdmbpkabeaccaa
set_option linter.unusedVariables false
set_option linter.unusedSimpArgs false
set_option linter.unnecessarySimpa false
open Go.RowKit
namespace VarW

theorem refGet_no (s : List UInt8) (a : Int) (w : World) (h : a < 0 ∨ (s.length : Int) < a) :
    Calls Try.prog 23 #[str s, .int .i64 a] w fun e w' => e = .returned (tri (0, 0, 2)) ∧ w' = w := by
  have h' : a < 0 ∨ (¬ a < 0 ∧ (s.length : Int) < a) := by omega
  clear h
  rcases h' with h | ⟨h, h2⟩
  all_goals
    go_enter Try.func23, Try.ntmps23
    go_wp2_with fail
    go_ret3
    exact ⟨rfl, rfl⟩

set_option maxRecDepth 100000 in
set_option maxHeartbeats 2000000 in
theorem refGet_yes (s : List UInt8) (p : Nat) (w : World) (hs : s.length ≤ 9223372036854775807) (hp : p ≤ s.length) (x : Int × Int × Int) (hx : getV s p = x) :
    Calls Try.prog 23 #[str s, .int .i64 p] w fun e w' => e = .returned (tri x) ∧ w' = w := by
  rw [getV_in hp] at hx
  have HX := Lib.hid hx
  clear hx
  have hp0 : (p : Int) ≤ (s.length : Int) := by omega
  have hp1 : ¬ (p : Int) < 0 := by omega
  have hd1 : decide ((p : Int) < 0) = false := decide_eq_false hp1
  have hd2 : decide ((s.length : Int) < (p : Int)) = false := decide_eq_false (by omega)
  have hd3 : decide (s.length < p) = false := decide_eq_false (by omega)
  go_enter Try.func23, Try.ntmps23
  go_wp2_with fail
  go_loop [7] (fun k => ∃ j : Nat, k = .int .i64 (j : Int) ∧ j ≤ 9 ∧ p + j ≤ s.length ∧ ∀ i (h : i < j) (h2 : p + i < s.length), 128 ≤ s[p + i].toNat) (fun k => 9 - (intOf k).toNat)
  case atStart => exact ⟨0, rfl, by omega, by omega, fun i h => by omega⟩
  case round =>
    obtain ⟨j, rfl, hj, hpj, hall⟩ := hrel
    have HA := Lib.hid hall
    clear hall
    have HD := Lib.hid (dec_run s p j hj hpj (fun i h => HA.out i h (by omega)))
    by_cases hj9 : j < 9
    · have hjI : (j : Int) < 9 := by omega
      obtain ⟨f, hf⟩ : ∃ f, 9 - j = f + 1 := ⟨8 - j, by omega⟩
      by_cases hlt : p + j < s.length
      · obtain ⟨b, hb, hb'⟩ : ∃ b, (⟨s.toArray⟩ : ByteArray)[p + j]'(by show p + j < s.toArray.size; simpa using hlt) = b ∧ s[p + j] = b := ⟨_, rfl, rfl⟩
        have hb256 : b.toNat < 256 := b.toNat_lt
        have HF := Lib.hid hf
        have HB' := Lib.hid hb'
        have hlI : (p : Int) + (j : Int) < (s.length : Int) := by omega
        clear hf hb'
        by_cases hbig : 128 ≤ b.toNat
        · go_wp2_with fail
          go_round
          case rel =>
            refine ⟨j + 1, by go_num, by omega, by omega, fun i h h2 => ?_⟩
            by_cases hi : i < j
            · exact HA.out i hi h2
            · obtain rfl : i = j := by omega
              rw [HB'.out]
              exact hbig
          case measure => first | (simp [intOf]; done) | (simp [intOf]; omega)
        · have hj9I : ((j : Int) == 9) = false := by rw [beq_eq_false_iff_ne]; omega
          have hleI : ((p : Int) + (j : Int) == (s.length : Int)) = false := by rw [beq_eq_false_iff_ne]; omega
          by_cases hz : b.toNat = 0 ∧ 0 < j
          · obtain ⟨hz1, hz2⟩ := hz
            have hx : x = (0, 0, 5) := by
              have h1 := HX.out
              rw [HD.out, HF.out, show decide (j = 0) = false from by simp; omega, vdec_zero f s (p + j) hlt (by rw [HB'.out]; exact hz1)] at h1
              exact h1.symm
            subst hx
            have hb0I : ((b.toNat : Int) == 0) = true := by rw [beq_iff_eq]; omega
            have hjp : (0 : Int) < (j : Int) := by omega
            clear hz1
            go_wp2_with fail
            go_ret3
            exact ⟨rfl, rfl⟩
          · have hx : x = (((hor ((s.drop p).take j) + b.toNat * 128 ^ j : Nat) : Int), ((p + j + 1 : Nat) : Int), 0) := by
              have h1 := HX.out
              rw [HD.out, HF.out, vdec_last f _ s (p + j) hlt (by rw [HB'.out]; omega) (by rw [HB'.out]; intro h; simp; omega), HB'.out] at h1
              exact h1.symm
            subst hx
            have HW := Lib.hid (horW_all s p j hlt (by rw [HB'.out]; omega))
            have hfin : ∀ n : Int, n = (horW s p j 0 : Nat) → Ending.returned (.tuple #[.int .i64 n, .int .i64 ((p : Int) + (j : Int) + 1), .int .i64 0]) = Ending.returned (tri (((hor ((s.drop p).take j) + b.toNat * 128 ^ j : Nat) : Int), ((p + j + 1 : Nat) : Int), 0)) := by
              intro n hn
              rw [hn, HW.out, HB'.out]
              rfl
            have HFIN := Lib.hid hfin
            have hcases : (j : Int) = 0 ∨ ((0 : Int) < (j : Int) ∧ ((b.toNat : Int) == 0) = false) := by
              rcases Nat.eq_zero_or_pos j with h | h
              · exact .inl (by omega)
              · exact .inr ⟨by omega, by rw [beq_eq_false_iff_ne]; omega⟩
            have hq1 : decide ((j : Int) < 9) = true := decide_eq_true hjI
            have hq2 : decide (j < 9) = true := decide_eq_true hj9
            have hq3 : decide ((128 : Int) ≤ (b.toNat : Int)) = false := decide_eq_false (by omega)
            have hq4 : decide (128 ≤ b.toNat) = false := decide_eq_false (by omega)
            have hq5 : decide ((p : Int) + (j : Int) < (s.length : Int)) = true := decide_eq_true hlI
            have hq6 : decide (p + j < s.length) = true := decide_eq_true hlt
            clear hz hfin
            subst hb
            rcases hcases with hc | ⟨hc1, hc2⟩
            · have hjn : ¬ (0 : Int) < (j : Int) := by omega
              have hjd : decide ((0 : Int) < (j : Int)) = false := decide_eq_false hjn
              have hjd2 : decide (0 < j) = false := decide_eq_false (by omega)
              clear hc
              go_wp2_with fail
              go_loop [8, 9] (fun n i => ∃ m : Nat, m ≤ j + 1 ∧ i = .int .i64 ((m : Int) - 1) ∧ n = .int .i64 ((horW s p j m : Nat) : Int)) (fun _ i => (intOf i + 1).toNat)
              case atStart => exact ⟨j + 1, by omega, by first | go_num | (congr 1 <;> omega), by rw [horW_end] <;> rfl⟩
              case round =>
                obtain ⟨m, hm, rfl, rfl⟩ := hrel
                rcases Nat.eq_zero_or_pos m with hm0 | hm0
                · subst hm0
                  go_wp2_with fail
                  go_ret3
                  exact ⟨HFIN.out _ rfl, rfl⟩
                · obtain ⟨m, rfl⟩ : ∃ m', m = m' + 1 := ⟨m - 1, by omega⟩
                  have hml : p + m < s.length := by omega
                  have HS := Lib.hid (horW_step s p j m (by omega) hlt)
                  have hWl := horW_lt s p j (m + 1) (by omega) hj9
                  obtain ⟨d, hd, hd'⟩ : ∃ d, (⟨s.toArray⟩ : ByteArray)[p + m]'(by show p + m < s.toArray.size; simpa using hml) = d ∧ s[p + m] = d := ⟨_, rfl, rfl⟩
                  have HD' := Lib.hid hd'
                  have hd256 : d.toNat < 256 := d.toNat_lt
                  clear hd'
                  go_wp2_with fail
                  go_round
                  case rel => exact ⟨m, by omega, by first | go_num | (congr 1 <;> omega), by rw [HS.out, HD'.out]; go_num⟩
                  case measure => first | (simp [intOf]; done) | (simp [intOf]; omega)
            · have hjd : decide ((0 : Int) < (j : Int)) = true := decide_eq_true hc1
              have hjd2 : decide (0 < j) = true := decide_eq_true (by omega)
              go_wp2_with fail
              go_loop [8, 9] (fun n i => ∃ m : Nat, m ≤ j + 1 ∧ i = .int .i64 ((m : Int) - 1) ∧ n = .int .i64 ((horW s p j m : Nat) : Int)) (fun _ i => (intOf i + 1).toNat)
              case atStart => exact ⟨j + 1, by omega, by first | go_num | (congr 1 <;> omega), by rw [horW_end] <;> rfl⟩
              case round =>
                obtain ⟨m, hm, rfl, rfl⟩ := hrel
                rcases Nat.eq_zero_or_pos m with hm0 | hm0
                · subst hm0
                  go_wp2_with fail
                  go_ret3
                  exact ⟨HFIN.out _ rfl, rfl⟩
                · obtain ⟨m, rfl⟩ : ∃ m', m = m' + 1 := ⟨m - 1, by omega⟩
                  have hml : p + m < s.length := by omega
                  have HS := Lib.hid (horW_step s p j m (by omega) hlt)
                  have hWl := horW_lt s p j (m + 1) (by omega) hj9
                  obtain ⟨d, hd, hd'⟩ : ∃ d, (⟨s.toArray⟩ : ByteArray)[p + m]'(by show p + m < s.toArray.size; simpa using hml) = d ∧ s[p + m] = d := ⟨_, rfl, rfl⟩
                  have HD' := Lib.hid hd'
                  have hd256 : d.toNat < 256 := d.toNat_lt
                  clear hd'
                  go_wp2_with fail
                  go_round
                  case rel => exact ⟨m, by omega, by first | go_num | (congr 1 <;> omega), by rw [HS.out, HD'.out]; go_num⟩
                  case measure => first | (simp [intOf]; done) | (simp [intOf]; omega)
      · have hx : x = (0, 0, 4) := by
          have h1 := HX.out
          rw [HD.out, hf, vdec_short f _ s (p + j) (by omega)] at h1
          exact h1.symm
        subst hx
        clear hf
        have hlI : ¬ (p : Int) + (j : Int) < (s.length : Int) := by omega
        have hj9I : ((j : Int) == 9) = false := by rw [beq_eq_false_iff_ne]; omega
        have hleI : ((p : Int) + (j : Int) == (s.length : Int)) = true := by rw [beq_iff_eq]; omega
        go_wp2_with fail
        go_ret3
        exact ⟨rfl, rfl⟩
    · have hx : x = (0, 0, 5) := by
        have h1 := HX.out
        rw [HD.out, show 9 - j = 0 from by omega, vdec_full] at h1
        exact h1.symm
      subst hx
      have hjI : ¬ (j : Int) < 9 := by omega
      have hj9I : ((j : Int) == 9) = true := by rw [beq_iff_eq]; omega
      go_wp2_with fail
      go_ret3
      exact ⟨rfl, rfl⟩

theorem refGet_any (s : List UInt8) (a : Int) (w : World) (hs : s.length ≤ 9223372036854775807) (x : Int × Int × Int) (hx : getV s a = x) :
    Calls Try.prog 23 #[str s, .int .i64 a] w fun e w' => e = .returned (tri x) ∧ w' = w := by
  by_cases h : a < 0 ∨ (s.length : Int) < a
  · rw [getV_out h] at hx
    subst hx
    exact refGet_no s a w h
  · obtain ⟨p, rfl⟩ := Int.eq_ofNat_of_zero_le (show 0 ≤ a by omega)
    exact refGet_yes s p w hs (by omega) x hx

end VarW
end Go.Proofs.Ytjdmbpkabeaccaa
