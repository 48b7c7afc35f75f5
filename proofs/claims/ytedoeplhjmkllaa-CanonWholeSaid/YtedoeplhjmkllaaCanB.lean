/- Walks over the laws of package canon: Packs, Unpacks. -/
import Derived.Test.YtedoeplhjmkllaaCanA
import Derived.Test.YtedoeplhjmkllaaOpenI
namespace Go.Proofs.Ytedoeplhjmkllaa
set_option linter.unusedVariables false
set_option linter.unusedSimpArgs false
set_option linter.unnecessarySimpa false
open Go.RowKit
namespace LenW

set_option maxRecDepth 100000 in
set_option maxHeartbeats 4000000 in
theorem packs_law (A : Option Addr) (n c : Nat) (l : List Int) (A2 : Option Addr) (n2 c2 : Nat) (r : List Int) (w : World)
    (h : Rd w w.heap.size 1 A n (ints l)) (hn : n ≤ maxLen) (k : Rd w w.heap.size 1 A2 n2 (ints r)) (hn2 : n2 ≤ maxLen) (h64 : ∀ x ∈ r, I64 x) :
    Calls Try.prog 3 #[.slice A n c, .slice A2 n2 c2] w fun e w' => e = .returned (.bool true) ∧ Below w.heap.size w w' := by
  unfold maxLen at hn hn2
  have hcase : (n : Int) > 300 ∨ (¬ (n : Int) > 300 ∧ (n2 : Int) > 500) ∨ (¬ (n : Int) > 300 ∧ ¬ (n2 : Int) > 500) := by omega
  rcases hcase with h1 | ⟨h1, h2⟩ | ⟨h1, h2⟩
  iterate 2
    clear h h64 k
    go_enter Try.func3, Try.ntmps3
    go_wp2_with fail
    refine (awake_any _).mono ?_
    rintro e w7 ⟨rfl, hb7⟩
    go_wp2_with fail
    go_ret
    exact ⟨rfl, hb7⟩
  have hl : l.length = n := rd_len h
  by_cases hv : chkL l = 0
  · have C1 := fun w HH => words_yes A n c l w HH (by omega) hv
    have C2 := fun w HH => refWords_yes A n c l w HH (by omega) hv
    have C3 := fun w HH HH2 => pack_yes A A2 n c n2 c2 l r w HH HH2 (by omega) (by omega) h64 hv _ rfl
    have C4 := fun w HH HH2 => refPack_yes A A2 n c n2 c2 l r w HH HH2 (by omega) (by omega) h64 hv _ rfl
    generalize packC l r = x at *
    obtain ⟨xs, xe⟩ := x
    have H1 := Lib.hid C1
    have H2 := Lib.hid C2
    have H3 := Lib.hid C3
    have H4 := Lib.hid C4
    clear C1 C2 C3 C4 h64 hv
    go_enter Try.func3, Try.ntmps3
    go_wp2_with fail
    refine (H1.out _ h).mono ?_
    rintro e w1 ⟨gW, rfl, hgW, bW, HB⟩
    go_wp2_with fail
    refine (H2.out _ ((h.below HB).more HB.size)).mono ?_
    rintro e w2 ⟨rfl, bV, hb2⟩
    have bW2 := bW.below hb2 bW.lt
    replace HB := HB.trans (hb2.mono HB.size)
    clear hb2 bW
    go_wp2_with fail
    refine (H3.out _ ((h.below HB).more HB.size) ((k.below HB).more HB.size)).mono ?_
    rintro e w3 ⟨rfl, hb3⟩
    have bW3 := bW2.below hb3 bW2.lt
    have bV3 := bV.below hb3 bV.lt
    replace HB := HB.trans (hb3.mono HB.size)
    clear hb3 bW2 bV
    go_wp2_with fail
    refine (H4.out _ ((h.below HB).more HB.size) ((k.below HB).more HB.size)).mono ?_
    rintro e w4 ⟨rfl, hb4⟩
    have bW4 := bW3.below hb4 bW3.lt
    have bV4 := bV3.below hb4 bV3.lt
    replace HB := HB.trans (hb4.mono HB.size)
    clear hb4 bW3 bV3
    have C5 := sameF_self (some ⟨gW, 0, none⟩) (some ⟨w1.heap.size, 0, none⟩) n n n (wordsF l) w4 (words_rd bW4 hl) (words_rd bV4 hl) (by omega)
    go_wp2_with fail
    refine C5.mono ?_
    clear C5
    rintro e w5 ⟨rfl, nq, rfl⟩
    replace HB := HB.drewN_ nq
    go_wp2_with fail
    refine (awake_any _).mono ?_
    rintro e w7 ⟨rfl, hb7⟩
    go_wp2_with fail
    go_ret
    exact ⟨rfl, HB.trans (hb7.mono HB.size)⟩
  · have C1 := fun w HH => words_no A n c l w HH (by omega) _ rfl hv
    have C2 := fun w HH => refWords_no A n c l w HH (by omega) _ rfl hv
    have C3 := fun w HH => pack_no A A2 n c n2 c2 l w HH (by omega) _ rfl hv
    have C4 := fun w HH => refPack_no A A2 n c n2 c2 l w HH (by omega) _ rfl hv
    generalize chkL l = v at *
    have H1 := Lib.hid C1
    have H2 := Lib.hid C2
    have H3 := Lib.hid C3
    have H4 := Lib.hid C4
    clear C1 C2 C3 C4 h64 hv k
    go_enter Try.func3, Try.ntmps3
    go_wp2_with fail
    refine (H1.out _ h).mono ?_
    rintro e w1 ⟨rfl, rfl⟩
    go_wp2_with fail
    refine (H2.out _ h).mono ?_
    rintro e w1 ⟨rfl, rfl⟩
    go_wp2_with fail
    refine (H3.out _ h).mono ?_
    rintro e w1 ⟨rfl, rfl⟩
    go_wp2_with fail
    refine (H4.out _ h).mono ?_
    rintro e w1 ⟨rfl, rfl⟩
    have C5 := sameF_self none none 0 0 0 [] w1 (Rd.nil _ _ _ _) (Rd.nil _ _ _ _) (by omega)
    go_wp2_with fail
    refine C5.mono ?_
    clear C5
    rintro e w5 ⟨rfl, nq, rfl⟩
    have HB := (Below.refl w1.heap.size w1).drewN_ nq
    go_wp2_with fail
    refine (awake_any _).mono ?_
    rintro e w7 ⟨rfl, hb7⟩
    go_wp2_with fail
    go_ret
    exact ⟨rfl, HB.trans (hb7.mono HB.size)⟩

set_option maxRecDepth 100000 in
set_option maxHeartbeats 4000000 in
theorem unpacks_law (A : Option Addr) (n c : Nat) (l : List Int) (s : ByteArray) (N : Int) (w : World)
    (h : Rd w w.heap.size 1 A n (ints l)) (hn : n ≤ maxLen) (hs : s.size ≤ maxLen) (hN64 : I64 N) :
    Calls Try.prog 4 #[.slice A n c, .string s, .int .i64 N] w fun e w' => e = .returned (.bool true) ∧ Below w.heap.size w w' := by
  obtain ⟨m, rfl, hm⟩ := str_of s
  rw [← hm] at hs
  clear hm
  unfold maxLen at hn hs
  have hcase : (n : Int) > 40 ∨ (¬ (n : Int) > 40 ∧ (m.length : Int) > 60) ∨ (¬ (n : Int) > 40 ∧ ¬ (m.length : Int) > 60 ∧ N > 500 ∧ N ≤ 100000) ∨ (¬ (n : Int) > 40 ∧ ¬ (m.length : Int) > 60 ∧ N > 500 ∧ ¬ N ≤ 100000) ∨ (¬ (n : Int) > 40 ∧ ¬ (m.length : Int) > 60 ∧ ¬ N > 500) := by omega
  have key : (¬ (n : Int) > 40) → (¬ (m.length : Int) > 60) → (N ≤ 500 ∨ 100000 < N) → ∃ x : List Int × Int × Int, x.1.length ≤ 500 ∧
      (∀ w, Rd w w.heap.size 1 A n (ints l) → Calls Try.prog 18 #[.slice A n c, str m, .int .i64 N] w fun e w' => ∃ A2 n2 c2, e = .returned (.tuple #[.slice A2 n2 c2, .int .i64 x.2.1, .int .i64 x.2.2]) ∧ n2 ≤ c2 ∧ Rd w' w'.heap.size 1 A2 n2 (ints x.1) ∧ Below w.heap.size w w') ∧
      (∀ w, Rd w w.heap.size 1 A n (ints l) → Calls Try.prog 19 #[.slice A n c, str m, .int .i64 N] w fun e w' => ∃ A2 n2 c2, e = .returned (.tuple #[.slice A2 n2 c2, .int .i64 x.2.1, .int .i64 x.2.2]) ∧ n2 ≤ c2 ∧ Rd w' w'.heap.size 1 A2 n2 (ints x.1) ∧ Below w.heap.size w w') := by
    intro h1 h2 h3
    by_cases hv : chkL l = 0
    · by_cases hN : N < 0 ∨ 100000 < N
      · refine ⟨([], 0, 2), by simp, fun w H => (unpack_arg A n c l m N w H (by omega) hv hN).mono ?_, fun w H => (refUnpack_arg A n c l m N w H (by omega) hv hN).mono ?_⟩
        · rintro e w' ⟨rfl, hb⟩
          exact ⟨none, 0, 0, rfl, by omega, Rd.nil _ _ _ _, hb⟩
        · rintro e w' ⟨rfl, hb⟩
          exact ⟨none, 0, 0, rfl, by omega, Rd.nil _ _ _ _, hb⟩
      · obtain ⟨K, rfl⟩ := Int.eq_ofNat_of_zero_le (show 0 ≤ N by omega)
        have hx := unpG_len (fun p => getC l ((bitsB m).drop p)) K 0
        have he : unpG (fun p => refC l ((bitsB m).drop p)) K 0 = unpG (fun p => getC l ((bitsB m).drop p)) K 0 :=
          (unpG_congr _ _ (bitsB m).length (fun p hp => get_same hv _ (fun d hd => bitsB_lt m d (List.mem_of_mem_drop hd))) (fun p hp => getC_len l (bitsB m) p hp) K 0 (Nat.zero_le _)).symm
        obtain ⟨x, hxe⟩ : ∃ x, unpG (fun p => getC l ((bitsB m).drop p)) K 0 = x := ⟨_, rfl⟩
        rw [hxe] at hx he
        exact ⟨(x.1, (x.2.1 : Int), x.2.2), by dsimp only; omega, fun w H => unpack_yes A n c l m K w H (by omega) hv (by omega) (by omega) x hxe, fun w H => refUnpack_yes A n c l m K w H (by omega) hv (by omega) (by omega) x he⟩
    · refine ⟨([], 0, chkL l), by simp, fun w H => (unpack_no A n c l m N w H (by omega) _ rfl hv).mono ?_, fun w H => (refUnpack_no A n c l m N w H (by omega) _ rfl hv).mono ?_⟩
      · rintro e w' ⟨rfl, rfl⟩
        exact ⟨none, 0, 0, rfl, by omega, Rd.nil _ _ _ _, Below.refl _ _⟩
      · rintro e w' ⟨rfl, rfl⟩
        exact ⟨none, 0, 0, rfl, by omega, Rd.nil _ _ _ _, Below.refl _ _⟩
  rcases hcase with h1 | ⟨h1, h2⟩ | ⟨h1, h2, h3, h4⟩ | ⟨h1, h2, h3, h4⟩ | ⟨h1, h2, h3⟩
  iterate 3
    clear key h
    go_enter Try.func4, Try.ntmps4
    go_wp2_with fail
    refine (awake_any _).mono ?_
    rintro e w7 ⟨rfl, hb7⟩
    go_wp2_with fail
    go_ret
    exact ⟨rfl, hb7⟩
  all_goals
    obtain ⟨⟨xs, at_, er⟩, hx, C1, C2⟩ := key h1 h2 (by omega)
    have H1 := Lib.hid C1
    have H2 := Lib.hid C2
    dsimp only at hx
    clear key C1 C2
    go_enter Try.func4, Try.ntmps4
    go_wp2_with fail
    refine (H1.out _ h).mono ?_
    rintro e w1 ⟨A3, n3, c3, rfl, hc3, r3, HB⟩
    go_wp2_with fail
    refine (H2.out _ ((h.below HB).more HB.size)).mono ?_
    rintro e w2 ⟨A4, n4, c4, rfl, hc4, r4, hb2⟩
    replace r3 := (r3.below hb2).more hb2.size
    replace HB := HB.trans (hb2.mono HB.size)
    clear hb2
    have e3 := rd_len r3
    have e4 := rd_len r4
    have C5 := same_any A3 A4 n3 c3 n4 c4 xs xs w2 r3 r4 (by omega) (by omega)
    rw [decide_eq_true (rfl : xs = xs)] at C5
    clear e3 e4 r3 r4 hx
    go_wp2_with fail
    refine C5.mono ?_
    clear C5
    rintro e w5 ⟨rfl, hb5⟩
    replace HB := HB.trans (hb5.mono HB.size)
    go_wp2_with fail
    refine (awake_any _).mono ?_
    rintro e w7 ⟨rfl, hb7⟩
    go_wp2_with fail
    go_ret
    exact ⟨rfl, HB.trans (hb7.mono HB.size)⟩
end LenW
end Go.Proofs.Ytedoeplhjmkllaa
