/- Walks over the laws of package lens: LensFinds. -/
import Derived.Test.YtpnccehaomikbaaLfG
import Derived.Test.YtpnccehaomikbaaLenO
namespace Go.Proofs.Ytpnccehaomikbaa
set_option linter.unusedVariables false
set_option linter.unusedSimpArgs false
set_option linter.unnecessarySimpa false
open Go.RowKit Go.ChangeShapes Go.WideShapes Go.Deep
namespace LenW

theorem refBest_yes (A : Option Addr) (n c : Nat) (l : List Int) (most : Int) (w : World) (h : Rd w w.heap.size 1 A n (ints l)) (hv : refuseW l most = 0) :
    Calls Try.prog 9 #[.slice A n c, .int .i64 most] w fun e w' => ∃ g, w.heap.size ≤ g ∧ g < w'.heap.size ∧ e = .returned (.tuple #[.slice (some ⟨g, 0, none⟩) n n, .int .i64 0]) ∧ Blk w' g 3 (ints (bestW l most.toNat)).toArray ∧ Below w.heap.size w w' := by
  by_cases h0 : usedL l = 0
  · exact refBest_none A n c l most w h hv h0
  · by_cases h1 : usedL l = 1
    · exact refBest_one A n c l most w h hv h1
    · have C := refBest_many A n c l most w h hv (by omega)
      have hm := (refuseW_ok hv).2.1
      rw [← rd_len h, best_same l _ (by omega), show most.toNat - 1 + 1 = most.toNat by omega, rd_len h] at C
      exact C
set_option maxRecDepth 100000 in
set_option maxHeartbeats 4000000 in
theorem finds_law (A : Option Addr) (n c : Nat) (l : List Int) (most : Int) (w : World)
    (h : Rd w w.heap.size 1 A n (ints l)) (hn : n ≤ maxLen) :
    Calls Try.prog 3 #[.slice A n c, .int .i64 most] w fun e w' => e = .returned (.bool true) ∧ Below w.heap.size w w' := by
  unfold maxLen at hn
  by_cases h1 : (n : Int) > 300
  · clear h
    go_enter Try.func3, Try.ntmps3
    go_wp2_with fail
    refine (lawake_any _).mono ?_
    rintro e w7 ⟨rfl, hb7⟩
    go_wp2_with fail
    go_ret
    exact ⟨rfl, hb7⟩
  · have hl := rd_len h
    by_cases hv : refuseW l most = 0
    · have hu := usedL_le l
      have C1 := best_yes A n c l most w h hv (sort_ok _ (by omega))
      have C2 := fun w h => refBest_yes A n c l most w h hv
      have HBL := Lib.hid (bestW_len l most.toNat)
      obtain ⟨L, hL⟩ : ∃ L, bestW l most.toNat = L := ⟨_, rfl⟩
      rw [hL] at C1 C2 HBL
      have hLn := HBL.out
      rw [hl] at hLn
      have HLn := Lib.hid hLn
      clear hL hv hl hLn HBL
      go_enter Try.func3, Try.ntmps3
      go_wp2_with fail
      refine C1.mono ?_
      rintro e w1 ⟨g1, hg1, hg1', rfl, b1, hb1⟩
      have hz1 := hb1.size
      have h2 := (h.below hb1).more hz1
      clear C1 h
      go_wp2_with fail
      refine (C2 _ h2).mono ?_
      rintro e w2 ⟨g2, hg2, hg2', rfl, b2, hb2⟩
      have b12 := b1.below hb2 hg1'
      have HB := hb1.trans (hb2.mono hz1)
      have hz2 := HB.size
      clear C2 h2 hb1 hb2 b1
      go_wp2_with fail
      refine (same_any (some ⟨g1, 0, none⟩) (some ⟨g2, 0, none⟩) n n n n L L w2 ((Rd.of_blk (m := n) b12 (by rw [ints_len, HLn.out]; omega)).more (by omega)) ((Rd.of_blk (m := n) b2 (by rw [ints_len, HLn.out]; omega)).more (by omega)) (by omega) (by omega)).mono ?_
      rintro e w3 ⟨rfl, hb3⟩
      have HB3 := HB.trans (hb3.mono hz2)
      go_wp2_with fail
      refine (lawake_any _).mono ?_
      rintro e w7 ⟨rfl, hb7⟩
      go_wp2_with fail
      go_ret
      exact ⟨rfl, HB3.trans (hb7.mono HB3.size)⟩
    · obtain ⟨v, hv2⟩ : ∃ v, refuseW l most = v := ⟨_, rfl⟩
      rw [hv2] at hv
      have C1 := best_no A n c l most w h (by omega) v hv2 hv
      have C2 := fun w h => refBest_no A n c l most w h (by omega) v hv2 hv
      clear hv2 hv hl
      go_enter Try.func3, Try.ntmps3
      go_wp2_with fail
      refine C1.mono ?_
      rintro e w1 ⟨rfl, hb1⟩
      have hz1 := hb1.size
      have h2 := (h.below hb1).more hz1
      clear C1 h
      go_wp2_with fail
      refine (C2 _ h2).mono ?_
      rintro e w2 ⟨rfl, hb2⟩
      have HB := hb1.trans (hb2.mono hz1)
      have hz2 := HB.size
      clear C2 h2 hb1 hb2
      go_wp2_with fail
      refine (same_any none none 0 0 0 0 [] [] w2 (Rd.nil _ _ _ _) (Rd.nil _ _ _ _) (by omega) (by omega)).mono ?_
      rintro e w3 ⟨rfl, hb3⟩
      have HB3 := HB.trans (hb3.mono hz2)
      go_wp2_with fail
      refine (lawake_any _).mono ?_
      rintro e w7 ⟨rfl, hb7⟩
      go_wp2_with fail
      go_ret
      exact ⟨rfl, HB3.trans (hb7.mono HB3.size)⟩
end LenW
end Go.Proofs.Ytpnccehaomikbaa
