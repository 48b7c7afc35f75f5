/- Walks over package varint and its reference: fixed numbers are taken. -/
import Derived.Test.YtjdmbpkabeaccaaVarF
namespace Go.Proofs.Ytjdmbpkabeaccaa
set_option linter.unusedVariables false
set_option linter.unusedSimpArgs false
set_option linter.unnecessarySimpa false
open Go.RowKit
namespace VarW

set_option maxRecDepth 100000 in
set_option maxHeartbeats 2000000 in
theorem unfix_any (s : List UInt8) (a width : Int) (w : World) (hs : s.length ≤ 9223372036854775807) (x : Int × Int × Int) (hx : unfixV s a width = x) :
    Calls Try.prog 24 #[str s, .int .i64 a, .int .i64 width] w fun e w' => e = .returned (tri x) ∧ w' = w := by
  by_cases hw : width < 1 ∨ 8 < width ∨ a < 0 ∨ (s.length : Int) < a
  · rw [unfixV_arg hw] at hx
    subst hx
    have hw' : width < 1 ∨ (¬ width < 1 ∧ 8 < width) ∨ (¬ width < 1 ∧ ¬ 8 < width ∧ a < 0) ∨ (¬ width < 1 ∧ ¬ 8 < width ∧ ¬ a < 0 ∧ (s.length : Int) < a) := by omega
    clear hw
    rcases hw' with hw | ⟨hw, hw2⟩ | ⟨hw, hw2, hw3⟩ | ⟨hw, hw2, hw3, hw4⟩
    all_goals
      go_enter Try.func24, Try.ntmps24
      go_wp2_with fail
      go_ret3
      exact ⟨rfl, rfl⟩
  · obtain ⟨k, rfl⟩ := Int.eq_ofNat_of_zero_le (show 0 ≤ width by omega)
    obtain ⟨p, rfl⟩ := Int.eq_ofNat_of_zero_le (show 0 ≤ a by omega)
    have hk1 : ¬ (k : Int) < 1 := by omega
    have hk2 : ¬ (8 : Int) < (k : Int) := by omega
    have hp0 : ¬ (p : Int) < 0 := by omega
    have hp1 : ¬ (s.length : Int) < (p : Int) := by omega
    have hd1 : decide ((k : Int) < 1) = false := decide_eq_false hk1
    have hd2 : decide ((8 : Int) < (k : Int)) = false := decide_eq_false hk2
    have hd3 : decide ((p : Int) < 0) = false := decide_eq_false hp0
    have hd4 : decide ((s.length : Int) < (p : Int)) = false := decide_eq_false hp1
    have hd5 : decide (s.length < p) = false := decide_eq_false (by omega)
    clear hw
    by_cases hsh : s.length < p + k
    · rw [unfixV_short (by omega) (by omega) (by omega) hsh] at hx
      subst hx
      have hI : (s.length : Int) - (p : Int) < (k : Int) := by omega
      go_enter Try.func24, Try.ntmps24
      go_wp2_with fail
      go_ret3
      exact ⟨rfl, rfl⟩
    · rw [unfixV_in (by omega) (by omega) (by omega)] at hx
      have HX := Lib.hid hx
      have hI : ¬ (s.length : Int) - (p : Int) < (k : Int) := by omega
      have hId : decide ((s.length : Int) - (p : Int) < (k : Int)) = false := decide_eq_false hI
      clear hx
      go_enter Try.func24, Try.ntmps24
      go_wp2_with fail
      go_loop [9, 10] (fun u i => ∃ m : Nat, m ≤ k ∧ i = .int .i64 ((m : Int) - 1) ∧ u = .int .u64 ((fvW s p k m : Nat) : Int)) (fun _ i => (intOf i + 1).toNat)
      case atStart => exact ⟨k, by omega, by first | rfl | go_num, by rw [fvW_end] <;> rfl⟩
      case round =>
        obtain ⟨m, hm, rfl, rfl⟩ := hrel
        rcases Nat.eq_zero_or_pos m with hm0 | hm0
        · subst hm0
          have hl0 := fvW_lt0 s p k (by omega)
          by_cases hbig : 9223372036854775808 ≤ fvW s p k 0
          · have hx : x = (0, 0, 5) := by have := HX.out; rw [if_pos hbig] at this; exact this.symm
            have hqI : (((fvW s p k 0 : Nat) : Int) / 9223372036854775808 != 0) = true := by rw [bne_iff_ne]; omega
            subst hx
            clear HX
            go_wp2_with fail
            go_ret3
            exact ⟨rfl, rfl⟩
          · have hx : x = ((fvW s p k 0 : Int), (p : Int) + k, 0) := by have := HX.out; rw [if_neg hbig] at this; exact this.symm
            have hqI : (((fvW s p k 0 : Nat) : Int) / 9223372036854775808 != 0) = false := by rw [bne_eq_false_iff_eq]; omega
            have hle : fvW s p k 0 < 9223372036854775808 := by omega
            have hwr : wrap64 ((fvW s p k 0 : Nat) : Int) = ((fvW s p k 0 : Nat) : Int) := by unfold wrap64; omega
            have HWR := Lib.hid hwr
            subst hx
            clear HX hwr hbig
            go_wp2_with fail
            go_ret3
            refine ⟨?_, rfl⟩
            try rw [HWR.out]
            rfl
        · obtain ⟨m, rfl⟩ : ∃ m', m = m' + 1 := ⟨m - 1, by omega⟩
          have hml : p + m < s.length := by omega
          have HS := Lib.hid (fvW_step s p k m (by omega) (by omega))
          have hWl := fvW_lt s p k (m + 1) (by omega) (by omega)
          obtain ⟨d, hd, hd'⟩ : ∃ d, (⟨s.toArray⟩ : ByteArray)[p + m]'(by show p + m < s.toArray.size; simpa using hml) = d ∧ s[p + m] = d := ⟨_, rfl, rfl⟩
          have HD' := Lib.hid hd'
          have hd256 : d.toNat < 256 := d.toNat_lt
          have ho := bits_u64_or 8 d.toNat (fvW s p k (m + 1)) (by omega) (by omega)
          rw [show ((fvW s p k (m + 1) * 2 ^ 8 : Nat) : Int) = ((fvW s p k (m + 1) : Nat) : Int) * 256 by push_cast; rfl] at ho
          have HO := Lib.hid ho
          clear hd' ho
          go_wp2_with fail
          go_round
          case rel => exact ⟨m, by omega, by first | rfl | go_num, by rw [HO.out, HS.out, HD'.out]; congr 1; omega⟩
          case measure => first | (simp [intOf]; done) | (simp [intOf]; omega)

set_option maxRecDepth 100000 in
set_option maxHeartbeats 2000000 in
theorem refUnfix_any (s : List UInt8) (a width : Int) (w : World) (hs : s.length ≤ 9223372036854775000) (x : Int × Int × Int) (hx : unfixV s a width = x) :
    Calls Try.prog 25 #[str s, .int .i64 a, .int .i64 width] w fun e w' => e = .returned (tri x) ∧ w' = w := by
  by_cases hw : width < 1 ∨ 8 < width ∨ a < 0 ∨ (s.length : Int) < a
  · rw [unfixV_arg hw] at hx
    subst hx
    have hw' : width < 1 ∨ (¬ width < 1 ∧ 8 < width) ∨ (¬ width < 1 ∧ ¬ 8 < width ∧ a < 0) ∨ (¬ width < 1 ∧ ¬ 8 < width ∧ ¬ a < 0 ∧ (s.length : Int) < a) := by omega
    clear hw
    rcases hw' with hw | ⟨hw, hw2⟩ | ⟨hw, hw2, hw3⟩ | ⟨hw, hw2, hw3, hw4⟩
    all_goals
      go_enter Try.func25, Try.ntmps25
      go_wp2_with fail
      go_ret3
      exact ⟨rfl, rfl⟩
  · obtain ⟨k, rfl⟩ := Int.eq_ofNat_of_zero_le (show 0 ≤ width by omega)
    obtain ⟨p, rfl⟩ := Int.eq_ofNat_of_zero_le (show 0 ≤ a by omega)
    have hk1 : ¬ (k : Int) < 1 := by omega
    have hk2 : ¬ (8 : Int) < (k : Int) := by omega
    have hp0 : ¬ (p : Int) < 0 := by omega
    have hp1 : ¬ (s.length : Int) < (p : Int) := by omega
    have hd1 : decide ((k : Int) < 1) = false := decide_eq_false hk1
    have hd2 : decide ((8 : Int) < (k : Int)) = false := decide_eq_false hk2
    have hd3 : decide ((p : Int) < 0) = false := decide_eq_false hp0
    have hd4 : decide ((s.length : Int) < (p : Int)) = false := decide_eq_false hp1
    have hd5 : decide (s.length < p) = false := decide_eq_false (by omega)
    clear hw
    by_cases hsh : s.length < p + k
    · rw [unfixV_short (by omega) (by omega) (by omega) hsh] at hx
      subst hx
      have hI : (s.length : Int) < (p : Int) + (k : Int) := by omega
      go_enter Try.func25, Try.ntmps25
      go_wp2_with fail
      go_ret3
      exact ⟨rfl, rfl⟩
    · rw [unfixV_in (by omega) (by omega) (by omega)] at hx
      have HX := Lib.hid hx
      have hI : ¬ (s.length : Int) < (p : Int) + (k : Int) := by omega
      have hId : decide ((s.length : Int) < (p : Int) + (k : Int)) = false := decide_eq_false hI
      have hId2 : decide (s.length < p + k) = false := decide_eq_false hsh
      have hp3 : p + k ≤ s.length := by omega
      have HT := Lib.hid (fvW_top s p k (by omega) hp3)
      clear hx hsh
      have loop : ∀ tmps : Array Value, True := fun _ => trivial
      have htop : (k = 8 ∧ ∃ b : UInt8, ∃ h : p + 7 < s.length, (⟨s.toArray⟩ : ByteArray)[p + 7]'(by show p + 7 < s.toArray.size; simpa using h) = b ∧ 128 ≤ b.toNat ∧ 9223372036854775808 ≤ fvW s p k 0) ∨
          (fvW s p k 0 < 9223372036854775808 ∧ (k ≠ 8 ∨ (k = 8 ∧ ∃ b : UInt8, ∃ h : p + 7 < s.length, (⟨s.toArray⟩ : ByteArray)[p + 7]'(by show p + 7 < s.toArray.size; simpa using h) = b ∧ ¬ 128 ≤ b.toNat))) := by
        have := HT.out
        by_cases h8 : k = 8
        · subst h8
          have hb : p + 7 < s.length := by omega
          have hgd : s.getD (p + 7) 0 = s[p + 7]'hb := by simp [List.getD, List.getElem?_eq_getElem hb]
          rw [hgd] at this
          by_cases hbig : 128 ≤ (s[p + 7]'hb).toNat
          · exact .inl ⟨rfl, _, hb, rfl, hbig, this.1 ⟨rfl, hbig⟩⟩
          · refine .inr ⟨?_, .inr ⟨rfl, _, hb, rfl, hbig⟩⟩
            rcases Nat.lt_or_ge (fvW s p 8 0) 9223372036854775808 with h | h
            · exact h
            · exact absurd (this.2 h).2 hbig
        · refine .inr ⟨?_, .inl h8⟩
          rcases Nat.lt_or_ge (fvW s p k 0) 9223372036854775808 with h | h
          · exact h
          · exact absurd (this.2 h).1 h8
      clear loop
      rcases htop with ⟨h8, b, hb, hbe, hbig, hov⟩ | ⟨hlow, hrest⟩
      · have hx : x = (0, 0, 5) := by have := HX.out; rw [if_pos hov] at this; exact this.symm
        subst hx h8
        clear HX hov
        go_enter Try.func25, Try.ntmps25
        go_wp2_with fail
        go_ret3
        exact ⟨rfl, rfl⟩
      · have hx : x = ((fvW s p k 0 : Int), (p : Int) + k, 0) := by have := HX.out; rw [if_neg (by omega)] at this; exact this.symm
        subst hx
        clear HX
        have HLOW := Lib.hid hlow
        clear hlow
        rcases hrest with h8 | ⟨h8, b, hb, hbe, hbig⟩
        · have h8I : ((k : Int) == 8) = false := by rw [beq_eq_false_iff_ne]; omega
          clear h8
          go_enter Try.func25, Try.ntmps25
          go_wp2_with fail
          go_loop [9, 10] (fun u i => ∃ m : Nat, m ≤ k ∧ i = .int .i64 ((m : Int) - 1) ∧ u = .int .i64 ((fvW s p k m : Nat) : Int)) (fun _ i => (intOf i + 1).toNat)
          case atStart => exact ⟨k, by omega, by first | rfl | go_num, by rw [fvW_end] <;> rfl⟩
          case round =>
            obtain ⟨m, hm, rfl, rfl⟩ := hrel
            rcases Nat.eq_zero_or_pos m with hm0 | hm0
            · subst hm0
              go_wp2_with fail
              go_ret3
              exact ⟨rfl, rfl⟩
            · obtain ⟨m, rfl⟩ : ∃ m', m = m' + 1 := ⟨m - 1, by omega⟩
              have hml : p + m < s.length := by omega
              have HS := Lib.hid (fvW_step s p k m (by omega) (by omega))
              have hWl := fvW_lt s p k (m + 1) (by omega) (by omega)
              have hle : fvW s p k m < 9223372036854775808 := by have := fvW_mono s p k m hp3 (by omega); have := HLOW.out; omega
              obtain ⟨d, hd, hd'⟩ : ∃ d, (⟨s.toArray⟩ : ByteArray)[p + m]'(by show p + m < s.toArray.size; simpa using hml) = d ∧ s[p + m] = d := ⟨_, rfl, rfl⟩
              have HD' := Lib.hid hd'
              have hd256 : d.toNat < 256 := d.toNat_lt
              have hsum : (fvW s p k (m + 1) : Int) * 256 + (d.toNat : Int) ≤ 9223372036854775807 := by have := HS.out; rw [HD'.out] at this; omega
              clear hd'
              go_wp2_with fail
              go_round
              case rel => exact ⟨m, by omega, by first | rfl | go_num, by rw [HS.out, HD'.out]; congr 1; omega⟩
              case measure => first | (simp [intOf]; done) | (simp [intOf]; omega)
        · have h8I : ((k : Int) == 8) = true := by rw [beq_iff_eq]; omega
          have hk8 : 8 ≤ k := by omega
          subst hbe
          have hbd : decide ((128 : Int) ≤ ((⟨s.toArray⟩ : ByteArray)[p + 7]'(by show p + 7 < s.toArray.size; simpa using hb)).toNat) = false := decide_eq_false (by omega)
          clear h8
          go_enter Try.func25, Try.ntmps25
          go_wp2_with fail
          go_loop [9, 10] (fun u i => ∃ m : Nat, m ≤ k ∧ i = .int .i64 ((m : Int) - 1) ∧ u = .int .i64 ((fvW s p k m : Nat) : Int)) (fun _ i => (intOf i + 1).toNat)
          case atStart => exact ⟨k, by omega, by first | rfl | go_num, by rw [fvW_end] <;> rfl⟩
          case round =>
            obtain ⟨m, hm, rfl, rfl⟩ := hrel
            rcases Nat.eq_zero_or_pos m with hm0 | hm0
            · subst hm0
              go_wp2_with fail
              go_ret3
              exact ⟨rfl, rfl⟩
            · obtain ⟨m, rfl⟩ : ∃ m', m = m' + 1 := ⟨m - 1, by omega⟩
              have hml : p + m < s.length := by omega
              have HS := Lib.hid (fvW_step s p k m (by omega) (by omega))
              have hWl := fvW_lt s p k (m + 1) (by omega) (by omega)
              have hle : fvW s p k m < 9223372036854775808 := by have := fvW_mono s p k m hp3 (by omega); have := HLOW.out; omega
              obtain ⟨d, hd, hd'⟩ : ∃ d, (⟨s.toArray⟩ : ByteArray)[p + m]'(by show p + m < s.toArray.size; simpa using hml) = d ∧ s[p + m] = d := ⟨_, rfl, rfl⟩
              have HD' := Lib.hid hd'
              have hd256 : d.toNat < 256 := d.toNat_lt
              have hsum : (fvW s p k (m + 1) : Int) * 256 + (d.toNat : Int) ≤ 9223372036854775807 := by have := HS.out; rw [HD'.out] at this; omega
              clear hd'
              go_wp2_with fail
              go_round
              case rel => exact ⟨m, by omega, by first | rfl | go_num, by rw [HS.out, HD'.out]; congr 1; omega⟩
              case measure => first | (simp [intOf]; done) | (simp [intOf]; omega)
end VarW
end Go.Proofs.Ytjdmbpkabeaccaa
