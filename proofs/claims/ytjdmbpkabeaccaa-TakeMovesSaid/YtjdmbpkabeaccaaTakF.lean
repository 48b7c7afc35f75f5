/- The law of package take on a taker that goes on: its walk. -/
import Derived.Test.YtjdmbpkabeaccaaTakB
namespace Go.Proofs.Ytjdmbpkabeaccaa
set_option linter.unusedVariables false
set_option linter.unusedSimpArgs false
set_option linter.unnecessarySimpa false
open Go.RowKit Go.ChangeShapes Go.WideShapes Go.Deep
namespace TakW

/-- What a kind's call gives where all is well. -/
theorem kinds {s : List UInt8} {p : Nat} {k n : Int} (hp : p ≤ s.length) (h : (oneV s p k n).2.2 = 0) :
    (k = 1 ∧ ∃ h : p < s.length, (oneV s p k n).2.1 = p + 1) ∨ (k = 2 ∧ (getV s p).2.2 = 0 ∧ (oneV s p k n).2.1 = (getV s p).2.1) ∨ (k = 3 ∧ (unfixV s p n).2.2 = 0 ∧ (oneV s p k n).2.1 = (unfixV s p n).2.1) ∨
    (k = 4 ∧ ∃ j : Nat, n = j ∧ p + j ≤ s.length ∧ (oneV s p k n).2.1 = p + j) ∨ (k = 5 ∧ (oneV s p k n).2.1 = s.length) ∨ (k = 6 ∧ s.length ≤ p ∧ (oneV s p k n).2.1 = p) := by
  revert h
  unfold oneV
  rw [Int.toNat_natCast]
  by_cases h1 : k = 1
  · rw [if_pos h1]
    split
    · intro _; exact .inl ⟨h1, by assumption, rfl⟩
    · intro h; simp at h
  rw [if_neg h1]
  by_cases h2 : k = 2
  · rw [if_pos h2]
    split
    · intro _; exact .inr (.inl ⟨h2, by assumption, rfl⟩)
    · intro h; exact absurd h (by assumption)
  rw [if_neg h2]
  by_cases h3 : k = 3
  · rw [if_pos h3]
    split
    · intro _; exact .inr (.inr (.inl ⟨h3, by assumption, rfl⟩))
    · intro h; exact absurd h (by assumption)
  rw [if_neg h3]
  by_cases h4 : k = 4
  · rw [if_pos h4]
    split
    · intro h; simp at h
    · split
      · intro h; simp at h
      · intro _; exact .inr (.inr (.inr (.inl ⟨h4, n.toNat, by omega, by omega, by dsimp only; omega⟩)))
  rw [if_neg h4]
  by_cases h5 : k = 5
  · rw [if_pos h5]
    intro _; exact .inr (.inr (.inr (.inr (.inl ⟨h5, rfl⟩))))
  rw [if_neg h5]
  by_cases h6 : k = 6
  · rw [if_pos h6]
    split
    · intro h; simp at h
    · intro _; exact .inr (.inr (.inr (.inr (.inr ⟨h6, by omega, rfl⟩))))
  rw [if_neg h6]
  intro h
  simp at h
theorem runV_zero {s : List UInt8} {l : List (Int × Int)} {k : Nat} {p : Int} (h : k < l.length) (h0 : (runV s (l.drop k) p).2.2 = 0) : (oneV s p l[k].1 l[k].2).2.2 = 0 := by
  rw [List.drop_eq_getElem_cons h, runV] at h0
  by_cases h1 : (oneV s p l[k].1 l[k].2).2.2 = 0
  · exact h1
  · rw [if_neg h1] at h0
    exact absurd h0 h1
theorem left_below {w w0 w1 : World} {g : Nat} {s : List UInt8} {p : Int} (h : Below w.heap.size w w0) (hg : w.heap.size ≤ g) (hL : Left w0 w1 g s p) : Below w.heap.size w w1 :=
  Below.grown h hL.2 h.size (fun k e => by rw [← Option.some.inj e]; exact hg)

set_option maxRecDepth 100000 in
set_option maxHeartbeats 8000000 in
theorem moves_law (s : ByteArray) (A : Option Addr) (n c : Nat) (l : List (Int × Int)) (w : World) (h : Rd w w.heap.size 2 A n (wcells l)) (hn : n ≤ maxLen) (hs : s.size ≤ maxLen) :
    Calls Try.prog 9 #[.string s, .slice A n c] w fun e w' => e = .returned (.bool true) ∧ Below w.heap.size w w' := by
  obtain ⟨m, rfl, hm⟩ := str_of s
  rw [← hm] at hs
  clear hm
  unfold maxLen at hs hn
  rcases small_or n m.length with h1 | ⟨h1, h2⟩ | ⟨h1, h2⟩
  · go_enter Try.func9, Try.ntmps9
    go_wp2_with fail
    refine (few_any A n c false _ (decide_eq_false h1)).mono ?_
    rintro e w1 ⟨rfl, rfl⟩
    go_wp2_with fail
    refine (awake_any _).mono ?_
    rintro e w7 ⟨rfl, hb7⟩
    go_wp2_with fail
    go_ret
    exact ⟨rfl, hb7⟩
  · have h3 : (10000 : Int) < (m.length : Int) := by omega
    go_enter Try.func9, Try.ntmps9
    go_wp2_with fail
    refine (few_any A n c true _ (decide_eq_true h1)).mono ?_
    rintro e w1 ⟨rfl, rfl⟩
    go_wp2_with fail
    refine (awake_any _).mono ?_
    rintro e w7 ⟨rfl, hb7⟩
    go_wp2_with fail
    go_ret
    exact ⟨rfl, hb7⟩
  · have h3 : ¬ (10000 : Int) < (m.length : Int) := by omega
    have C2 := refRun_any m A n c l w h (by omega) (by omega) _ rfl
    have hll := rd_wlen h
    obtain ⟨x, hx⟩ : ∃ x, runV m l 0 = x := ⟨_, rfl⟩
    rw [hx] at C2
    by_cases he : x.2.2 = 0
    · obtain ⟨xs, to, er⟩ := x
      dsimp only at he
      subst he
      have hl1 : l.length ≤ n := by omega
      have hl2 : n ≤ l.length := by omega
      have HX := Lib.hid (show runV m (l.drop 0) 0 = (xs, to, 0) from hx)
      have H2 := Lib.hid C2
      clear hx hll C2
      go_enter Try.func9, Try.ntmps9
      go_wp2_with fail
      refine (few_any A n c true _ (decide_eq_true h1)).mono ?_
      rintro e _ ⟨rfl, rfl⟩
      go_wp2_with fail
      refine H2.out.mono ?_
      rintro e w2 ⟨A2, n2, c2, rfl, hc2, r2, hb2⟩
      clear H2 r2
      go_wp2_with fail
      refine (new_any m _).mono ?_
      rintro e w3 ⟨rfl, hw3⟩
      obtain ⟨g, hg⟩ : ∃ g, w2.heap.size = g := ⟨_, rfl⟩
      have hgw : w.heap.size ≤ g := by have := hb2.size; omega
      have hB3 : Below w.heap.size w w3 := by rw [hw3]; exact hb2.alloc hb2.size _
      have g3 : Blk w3 g 102 (tk m 0) := by rw [hw3, ← hg]; exact Blk.new _ _ _
      rw [hg]
      clear hw3 hg hb2
      go_wp2_with fail
      go_loopw [9, 10] (fun a i wr => ∃ (j q : Nat), i = .int .i64 j ∧ a = .int .i64 q ∧ j ≤ n ∧ q ≤ m.length ∧ (runV m (l.drop j) q).2 = (to, 0) ∧ Blk wr g 102 (tk m q) ∧ Below w.heap.size w wr) (fun _ i _ => n - (intOf i).toNat)
      case atStart => exact ⟨0, 0, rfl, rfl, by omega, by omega, by rw [show ((0 : Nat) : Int) = 0 from rfl, HX.out], g3, hB3⟩
      case round =>
        obtain ⟨j, q, rfl, rfl, hj, hq, hr, g4, hbw⟩ := hrel
        have HR := Lib.hid hr
        clear hr
        by_cases hlt : j < n
        · have hjl : j < l.length := by omega
          obtain ⟨b, o, rfl, hb, hc⟩ := rd_wcells (h.below hbw) (by omega)
          obtain ⟨c0, c1⟩ := hc j hjl
          have h0 := runV_zero (s := m) (p := q) hjl (by rw [HR.out])
          have hy := runV_yes (s := m) (p := q) hjl h0
          have hok := oneV_ok (by omega) (by omega) h0
          have hK := kinds hq h0
          obtain ⟨q1, hq1⟩ : ∃ q1 : Nat, (q1 : Int) = (oneV m q l[j].1 l[j].2).2.1 := ⟨(oneV m q l[j].1 l[j].2).2.1.toNat, by omega⟩
          have HR1 := Lib.hid (show (runV m (l.drop (j + 1)) (oneV m q l[j].1 l[j].2).2.1).2 = (to, 0) by have := HR.out; rw [hy] at this; exact this)
          have hq2 : (q : Int) ≤ (q1 : Int) := by omega
          have hq2' : ¬ (q1 : Int) < (q : Int) := by omega
          have hq3 : (q1 : Int) ≤ (m.length : Int) := by omega
          have hw5 : (q1 : Int) + ((m.length : Int) - (q1 : Int)) = (m.length : Int) := by omega
          have hw6 : IntKind.i64.wrap ((q1 : Int) + ((m.length : Int) - (q1 : Int))) = (m.length : Int) := by rw [hw5]; exact IntWalk.i64_in _ (by omega)
          have HW := Lib.hid hw5
          generalize hone : (oneV m q l[j].1 l[j].2).2.1 = v at *
          generalize hk : l[j].1 = k at *
          generalize hsz : l[j].2 = sz at *
          have HHH := Lib.hid hone
          have HHK := Lib.hid hk
          have HHS := Lib.hid hsz
          clear hc h0 hy hok hone hk hsz hw5
          rcases hK with ⟨rfl, h5, rfl⟩ | ⟨rfl, h5, rfl⟩ | ⟨rfl, h5, rfl⟩ | ⟨rfl, sz, rfl, h5, rfl⟩ | ⟨rfl, rfl⟩ | ⟨rfl, h5, rfl⟩
          all_goals
            have HK := Lib.hid hq1
            clear hq1
          · go_wp2_with fail
            refine (byte_yes g m q _ g4 h5 (by omega)).mono ?_
            rintro e w5 ⟨rfl, hL⟩
            replace hL : Left wr w5 g m (q1 : Nat) := by rw [HK.out]; exact hL
            have hB5 := left_below hbw hgw hL
            have g5 := hL.1
            clear hL g4 c0 c1
            go_wp2_with fail
            refine (at_any g m (q1 : Nat) _ g5).mono ?_
            rintro e w6 ⟨rfl, rfl⟩
            go_wp2_with fail
            refine (at_any g m (q1 : Nat) _ g5).mono ?_
            rintro e w7 ⟨rfl, rfl⟩
            go_wp2_with fail
            refine (left_any g m q1 _ g5 (by omega) (by omega)).mono ?_
            rintro e w8 ⟨rfl, nq, rfl⟩
            replace g5 := g5.drewN nq
            replace hB5 := hB5.drewN_ nq
            generalize World.drewN _ nq = w9 at *
            go_wp2_with fail
            refine (at_any g m (q1 : Nat) _ g5).mono ?_
            rintro e w10 ⟨rfl, rfl⟩
            go_wp2_with fail
            go_roundw
            case rel => exact ⟨j + 1, q1, by go_num, rfl, by omega, by omega, by rw [HK.out]; exact HR1.out, g5, hB5⟩
            case measure => simp [intOf]; omega
          · go_wp2_with fail
            refine (num_yes g m q _ _ g4 rfl h5 (by omega)).mono ?_
            rintro e w5 ⟨rfl, hL⟩
            replace hL : Left wr w5 g m (q1 : Nat) := by rw [HK.out]; exact hL
            have hB5 := left_below hbw hgw hL
            have g5 := hL.1
            clear hL g4 c0 c1
            go_wp2_with fail
            refine (at_any g m (q1 : Nat) _ g5).mono ?_
            rintro e w6 ⟨rfl, rfl⟩
            go_wp2_with fail
            refine (at_any g m (q1 : Nat) _ g5).mono ?_
            rintro e w7 ⟨rfl, rfl⟩
            go_wp2_with fail
            refine (left_any g m q1 _ g5 (by omega) (by omega)).mono ?_
            rintro e w8 ⟨rfl, nq, rfl⟩
            replace g5 := g5.drewN nq
            replace hB5 := hB5.drewN_ nq
            generalize World.drewN _ nq = w9 at *
            go_wp2_with fail
            refine (at_any g m (q1 : Nat) _ g5).mono ?_
            rintro e w10 ⟨rfl, rfl⟩
            go_wp2_with fail
            go_roundw
            case rel => exact ⟨j + 1, q1, by go_num, rfl, by omega, by omega, by rw [HK.out]; exact HR1.out, g5, hB5⟩
            case measure => simp [intOf]; omega
          · go_wp2_with fail
            refine (fix_yes g m q sz _ _ g4 rfl h5 (by omega)).mono ?_
            rintro e w5 ⟨rfl, hL⟩
            replace hL : Left wr w5 g m (q1 : Nat) := by rw [HK.out]; exact hL
            have hB5 := left_below hbw hgw hL
            have g5 := hL.1
            clear hL g4 c0 c1
            go_wp2_with fail
            refine (at_any g m (q1 : Nat) _ g5).mono ?_
            rintro e w6 ⟨rfl, rfl⟩
            go_wp2_with fail
            refine (at_any g m (q1 : Nat) _ g5).mono ?_
            rintro e w7 ⟨rfl, rfl⟩
            go_wp2_with fail
            refine (left_any g m q1 _ g5 (by omega) (by omega)).mono ?_
            rintro e w8 ⟨rfl, nq, rfl⟩
            replace g5 := g5.drewN nq
            replace hB5 := hB5.drewN_ nq
            generalize World.drewN _ nq = w9 at *
            go_wp2_with fail
            refine (at_any g m (q1 : Nat) _ g5).mono ?_
            rintro e w10 ⟨rfl, rfl⟩
            go_wp2_with fail
            go_roundw
            case rel => exact ⟨j + 1, q1, by go_num, rfl, by omega, by omega, by rw [HK.out]; exact HR1.out, g5, hB5⟩
            case measure => simp [intOf]; omega
          · go_wp2_with fail
            refine (text_yes g m q sz _ g4 h5 (by omega)).mono ?_
            rintro e w5 ⟨rfl, hL⟩
            replace hL : Left wr w5 g m (q1 : Nat) := by rw [HK.out]; exact hL
            have hB5 := left_below hbw hgw hL
            have g5 := hL.1
            clear hL g4 c0 c1
            go_wp2_with fail
            refine (at_any g m (q1 : Nat) _ g5).mono ?_
            rintro e w6 ⟨rfl, rfl⟩
            go_wp2_with fail
            refine (at_any g m (q1 : Nat) _ g5).mono ?_
            rintro e w7 ⟨rfl, rfl⟩
            go_wp2_with fail
            refine (left_any g m q1 _ g5 (by omega) (by omega)).mono ?_
            rintro e w8 ⟨rfl, nq, rfl⟩
            replace g5 := g5.drewN nq
            replace hB5 := hB5.drewN_ nq
            generalize World.drewN _ nq = w9 at *
            go_wp2_with fail
            refine (at_any g m (q1 : Nat) _ g5).mono ?_
            rintro e w10 ⟨rfl, rfl⟩
            go_wp2_with fail
            go_roundw
            case rel => exact ⟨j + 1, q1, by go_num, rfl, by omega, by omega, by rw [HK.out]; exact HR1.out, g5, hB5⟩
            case measure => simp [intOf]; omega
          · go_wp2_with fail
            refine (rest_any g m q _ g4 hq (by omega)).mono ?_
            rintro e w5 ⟨rfl, hL⟩
            replace hL : Left wr w5 g m (q1 : Nat) := by rw [HK.out]; exact hL
            have hB5 := left_below hbw hgw hL
            have g5 := hL.1
            clear hL g4 c0 c1
            go_wp2_with fail
            refine (at_any g m (q1 : Nat) _ g5).mono ?_
            rintro e w6 ⟨rfl, rfl⟩
            go_wp2_with fail
            refine (at_any g m (q1 : Nat) _ g5).mono ?_
            rintro e w7 ⟨rfl, rfl⟩
            go_wp2_with fail
            refine (left_any g m q1 _ g5 (by omega) (by omega)).mono ?_
            rintro e w8 ⟨rfl, nq, rfl⟩
            replace g5 := g5.drewN nq
            replace hB5 := hB5.drewN_ nq
            generalize World.drewN _ nq = w9 at *
            go_wp2_with fail
            refine (at_any g m (q1 : Nat) _ g5).mono ?_
            rintro e w10 ⟨rfl, rfl⟩
            go_wp2_with fail
            go_roundw
            case rel => exact ⟨j + 1, q1, by go_num, rfl, by omega, by omega, by rw [HK.out]; exact HR1.out, g5, hB5⟩
            case measure => simp [intOf]; omega
          · go_wp2_with fail
            refine (end_yes g m q _ g4 hq h5 (by omega)).mono ?_
            rintro e w5 ⟨rfl, hL⟩
            replace hL : Left wr w5 g m (q1 : Nat) := by rw [HK.out]; exact hL
            have hB5 := left_below hbw hgw hL
            have g5 := hL.1
            clear hL g4 c0 c1
            go_wp2_with fail
            refine (at_any g m (q1 : Nat) _ g5).mono ?_
            rintro e w6 ⟨rfl, rfl⟩
            go_wp2_with fail
            refine (at_any g m (q1 : Nat) _ g5).mono ?_
            rintro e w7 ⟨rfl, rfl⟩
            go_wp2_with fail
            refine (left_any g m q1 _ g5 (by omega) (by omega)).mono ?_
            rintro e w8 ⟨rfl, nq, rfl⟩
            replace g5 := g5.drewN nq
            replace hB5 := hB5.drewN_ nq
            generalize World.drewN _ nq = w9 at *
            go_wp2_with fail
            refine (at_any g m (q1 : Nat) _ g5).mono ?_
            rintro e w10 ⟨rfl, rfl⟩
            go_wp2_with fail
            go_roundw
            case rel => exact ⟨j + 1, q1, by go_num, rfl, by omega, by omega, by rw [HK.out]; exact HR1.out, g5, hB5⟩
            case measure => simp [intOf]; omega
        · have hfin := HR.out
          rw [List.drop_of_length_le (by omega), runV] at hfin
          obtain rfl : (q : Int) = to := congrArg Prod.fst hfin
          clear hfin
          go_wp2_with fail
          refine (awake_any _).mono ?_
          rintro e w9 ⟨rfl, hb9⟩
          go_wp2_with fail
          go_ret
          exact ⟨rfl, hbw.trans (hb9.mono hbw.size)⟩
    · have heI : (x.2.2 != 0) = true := by simp [he]
      have H2 := Lib.hid C2
      clear he hx hll C2
      go_enter Try.func9, Try.ntmps9
      go_wp2_with fail
      refine (few_any A n c true _ (decide_eq_true h1)).mono ?_
      rintro e _ ⟨rfl, rfl⟩
      go_wp2_with fail
      refine H2.out.mono ?_
      rintro e w2 ⟨A2, n2, c2, rfl, hc2, r2, hb2⟩
      clear H2 r2
      go_wp2_with fail
      refine (awake_any _).mono ?_
      rintro e w9 ⟨rfl, hb9⟩
      go_wp2_with fail
      go_ret
      exact ⟨rfl, hb2.trans (hb9.mono hb2.size)⟩
end TakW
end Go.Proofs.Ytjdmbpkabeaccaa
