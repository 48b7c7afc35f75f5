/- The law of package front on the way back: its walk. -/
import Derived.Test.YtehlgpfkpagaeaaFrontM
import Derived.Test.YtehlgpfkpagaeaaFrontQ
namespace Go.Proofs.Ytehlgpfkpagaeaa
set_option linter.unusedVariables false
set_option linter.unusedSimpArgs false
set_option linter.unnecessarySimpa false
open Go.RowKit Go.ChangeShapes Go.WideShapes
namespace FrontW

set_option maxHeartbeats 2000000 in
theorem back_law (s : List UInt8) (A : Option Addr) (n c : Nat) (l : List Int) (w : World) (hs : s.length ≤ maxLen) (h : Rd w w.heap.size 1 A n (ints l)) (hnc : n ≤ c) (hcm : c ≤ maxLen) :
    Calls Try.prog 8 #[str s, .slice A n c] w fun e w' => e = .returned (.bool true) ∧ Below w.heap.size w w' := by
  unfold maxLen at hs hcm
  by_cases h1 : (2000 : Int) < (s.length : Int)
  · go_enter Try.func8, Try.ntmps8
    go_wp2_with fail
    refine (awake_any _).mono ?_
    rintro e w1 ⟨rfl, hb1⟩
    go_wp2
    go_ret
    exact ⟨rfl, hb1⟩
  · by_cases h2 : (2000 : Int) < (n : Int)
    · go_enter Try.func8, Try.ntmps8
      go_wp2_with fail
      refine (awake_any _).mono ?_
      rintro e w1 ⟨rfl, hb1⟩
      go_wp2
      go_ret
      exact ⟨rfl, hb1⟩
    · have hl := rd_len h
      have HT := Lib.hid (text_back s)
      go_enter Try.func8, Try.ntmps8
      go_wp2_with fail
      refine (ranks_any s _ (by omega)).mono ?_
      rintro e w1 ⟨A1, c1, rfl, hown1, hb1⟩
      go_wp2_with fail
      refine (text_any A1 s.length c1 (runR s).2 _ hown1.rd (by omega)).mono ?_
      rintro e w2 ⟨rfl, hb2⟩
      rw [HT.out]
      have HB2 := hb1.trans (hb2.mono hb1.size)
      go_wp2_with fail
      refine (text_any A n c l _ ((h.below HB2).more HB2.size) (by omega)).mono ?_
      rintro e w3 ⟨rfl, hb3⟩
      have HB3 := HB2.trans (hb3.mono HB2.size)
      by_cases hok : okB l = true
      · have e0 : ∃ u : List UInt8, textS l = (u, 0) ∧ u.length = n ∧ (runR u).2 = l := ⟨(runT l).2, by rw [textS, if_pos hok], by rw [runT_len, hl], by rw [back2 l ((okB_iff l).1 hok)]⟩
        obtain ⟨u, e1, e3, e2⟩ := e0
        have E2 := Lib.hid e2
        clear e2
        rw [e1]
        go_wp2_with fail
        refine (ranks_any u _ (by omega)).mono ?_
        rintro e w4 ⟨A2, c2, rfl, hown2, hb4⟩
        have HB4 := HB3.trans (hb4.mono HB3.size)
        go_wp2_with fail
        rw [e3] at hown2
        refine (same_any A2 A n c2 n c (runR u).2 l _ hown2.rd ((h.below HB4).more HB4.size) (by omega) (by omega)).mono ?_
        rintro e w5 ⟨rfl, hb5⟩
        have HB5 := HB4.trans (hb5.mono HB4.size)
        rw [decide_eq_true (show (runR u).2 = l from E2.out)]
        go_wp2_with fail
        refine (awake_any _).mono ?_
        rintro e w6 ⟨rfl, hb6⟩
        go_wp2
        go_ret
        exact ⟨rfl, HB5.trans (hb6.mono HB5.size)⟩
      · have e1 : textS l = ([], 60) := by rw [textS, if_neg hok]
        rw [e1]
        go_wp2_with fail
        refine (awake_any _).mono ?_
        rintro e w6 ⟨rfl, hb6⟩
        go_wp2
        go_ret
        exact ⟨rfl, HB3.trans (hb6.mono HB3.size)⟩

theorem back_lawB (s : ByteArray) (A : Option Addr) (n c : Nat) (l : List Int) (w : World) (hs : s.size ≤ maxLen) (h : Rd w w.heap.size 1 A n (ints l)) (hnc : n ≤ c) (hcm : c ≤ maxLen) :
    Calls Try.prog 8 #[.string s, .slice A n c] w fun e w' => e = .returned (.bool true) ∧ Below w.heap.size w w' := by
  obtain ⟨m, rfl, hm⟩ := str_of s
  exact back_law m A n c l w (by omega) h hnc hcm
end FrontW
end Go.Proofs.Ytehlgpfkpagaeaa
