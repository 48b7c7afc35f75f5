/- Walks over the laws of package lens: some fixed answers. -/
import Derived.Test.YtpnccehaomikbaaLenM
import Derived.Test.YtpnccehaomikbaaSame
namespace Go.Proofs.Ytpnccehaomikbaa
set_option linter.unusedVariables false
set_option linter.unusedSimpArgs false
set_option linter.unnecessarySimpa false
open Go.RowKit
namespace LenW

set_option maxRecDepth 100000 in
set_option maxHeartbeats 4000000 in
theorem lawake_any (w : World) :
    Calls Try.prog 7 #[] w fun e w' => e = .returned (.bool true) ∧ Below w.heap.size w w' := by
  go_enter Try.func7, Try.ntmps7
  go_wp2_with fail
  have HB := (Below.refl w.heap.size w).alloc (Nat.le_refl _) (.cells (ints [1, 1, 2, 4]).toArray 3)
  have r1 := rd_new (W0 := w) (t := 3) (cs := ints [1, 1, 2, 4]) (size := 1) (m := 4) rfl rfl
  refine (best_yes (some ⟨w.heap.size, 0, none⟩) 4 4 [1, 1, 2, 4] 15 _ (r1.more (by simp)) (by decide +kernel) (sort20 _ (by decide))).mono ?_
  rintro e w1 ⟨g1, hg1, hg1', rfl, b1, hb1⟩
  rw [show bestW [1, 1, 2, 4] (15 : Int).toNat = [3, 3, 2, 1] by decide +kernel] at b1
  replace HB := HB.trans (hb1.mono HB.size)
  have hz1 := HB.size
  clear hb1 r1 hg1
  go_wp2_with fail
  have K := (Below.refl w1.heap.size w1).alloc (Nat.le_refl _) (.cells (ints [1, 1, 2, 4]).toArray 3)
  have r2 := rd_new (W0 := w1) (t := 3) (cs := ints [1, 1, 2, 4]) (size := 1) (m := 4) rfl rfl
  refine (best_yes (some ⟨w1.heap.size, 0, none⟩) 4 4 [1, 1, 2, 4] 2 _ (r2.more (by simp)) (by decide +kernel) (sort20 _ (by decide))).mono ?_
  rintro e w2 ⟨g2, hg2, hg2', rfl, b2, hb2⟩
  rw [show bestW [1, 1, 2, 4] (2 : Int).toNat = [2, 2, 2, 2] by decide +kernel] at b2
  replace K := K.trans (hb2.mono K.size)
  have hz2 := K.size
  have b12 := b1.below K hg1'
  replace HB := HB.trans (K.mono hz1)
  have hz2' := HB.size
  have hg12 : g1 < w2.heap.size := by omega
  clear hb2 r2 hg2 b1 K
  go_wp2_with fail
  have M := (Below.refl w2.heap.size w2).alloc (Nat.le_refl _) (.cells (ints [1, 1, 1]).toArray 3)
  have r3 := rd_new (W0 := w2) (t := 3) (cs := ints [1, 1, 1]) (size := 1) (m := 3) rfl rfl
  refine (best_no (some ⟨w2.heap.size, 0, none⟩) 3 3 [1, 1, 1] 1 _ (r3.more (by simp)) (by omega) 3 (by decide +kernel) (by decide)).mono ?_
  rintro e w3 ⟨rfl, hb3⟩
  replace M := M.trans (hb3.mono M.size)
  have hz3 := M.size
  have b13 := b12.below M hg12
  have b23 := b2.below M hg2'
  replace HB := HB.trans (M.mono hz2')
  have hz3' := HB.size
  have hg13 : g1 < w3.heap.size := by omega
  have hg23 : g2 < w3.heap.size := by omega
  clear hb3 r3 b12 b2 M
  go_wp2_with fail
  have L1 := (Below.refl w3.heap.size w3).alloc (Nat.le_refl _) (.cells (ints [3, 3, 2, 1]).toArray 3)
  have r4 := rd_new (W0 := w3) (t := 3) (cs := ints [3, 3, 2, 1]) (size := 1) (m := 4) rfl rfl
  have s4 := (Rd.of_blk (size := 1) (m := 4) b13 rfl).below (L1.mono hg13)
  refine (same_any (some ⟨g1, 0, none⟩) (some ⟨w3.heap.size, 0, none⟩) 4 4 4 4 [3, 3, 2, 1] [3, 3, 2, 1] _ (s4.more (by simp; omega)) (r4.more (by simp)) (by omega) (by omega)).mono ?_
  rintro e w4 ⟨rfl, hb4⟩
  replace L1 := L1.trans (hb4.mono L1.size)
  have hz4 := L1.size
  have b14 := b13.below L1 hg13
  have b24 := b23.below L1 hg23
  replace HB := HB.trans (L1.mono hz3')
  have hz4' := HB.size
  have hg14 : g1 < w4.heap.size := by omega
  have hg24 : g2 < w4.heap.size := by omega
  clear hb4 r4 s4 b13 b23 L1
  go_wp2_with fail
  have L2 := (Below.refl w4.heap.size w4).alloc (Nat.le_refl _) (.cells (ints [2, 2, 2, 2]).toArray 3)
  have r5 := rd_new (W0 := w4) (t := 3) (cs := ints [2, 2, 2, 2]) (size := 1) (m := 4) rfl rfl
  have s5 := (Rd.of_blk (size := 1) (m := 4) b24 rfl).below (L2.mono hg24)
  refine (same_any (some ⟨g2, 0, none⟩) (some ⟨w4.heap.size, 0, none⟩) 4 4 4 4 [2, 2, 2, 2] [2, 2, 2, 2] _ (s5.more (by simp; omega)) (r5.more (by simp)) (by omega) (by omega)).mono ?_
  rintro e w5 ⟨rfl, hb5⟩
  replace L2 := L2.trans (hb5.mono L2.size)
  have hz5 := L2.size
  have b15 := b14.below L2 hg14
  replace HB := HB.trans (L2.mono hz4')
  have hz5' := HB.size
  have hg15 : g1 < w5.heap.size := by omega
  clear hb5 r5 s5 b14 b24 L2
  go_wp2_with fail
  have s6 := (Rd.of_blk (size := 1) (m := 4) b15 rfl).more (show g1 + 1 ≤ w5.heap.size by omega)
  refine (check_any (some ⟨g1, 0, none⟩) 4 4 [3, 3, 2, 1] _ s6 (by omega) 0 (by decide +kernel)).mono ?_
  rintro e w6 ⟨rfl, rfl⟩
  go_wp2_with fail
  have L3 := (Below.refl w6.heap.size w6).alloc (Nat.le_refl _) (.cells (ints [1, 2]).toArray 3)
  have r7 := rd_new (W0 := w6) (t := 3) (cs := ints [1, 2]) (size := 1) (m := 2) rfl rfl
  refine (check_any (some ⟨w6.heap.size, 0, none⟩) 2 2 [1, 2] _ (r7.more (by simp)) (by omega) 80 (by decide +kernel)).mono ?_
  rintro e w7 ⟨rfl, hw7⟩
  have b17 := b15.below L3 hg15
  rw [← show w7 = w6.alloc (.cells (ints [1, 2]).toArray 3) from hw7] at L3 b17
  have hz7 := L3.size
  replace HB := HB.trans (L3.mono hz5')
  have hz7' := HB.size
  have hg17 : g1 < w7.heap.size := by omega
  clear hw7 r7 b15 L3 s6
  go_wp2_with fail
  have L4 := (Below.refl w7.heap.size w7).alloc (Nat.le_refl _) (.cells (ints [0, 1]).toArray 3)
  have r8 := rd_new (W0 := w7) (t := 3) (cs := ints [0, 1]) (size := 1) (m := 2) rfl rfl
  refine (check_any (some ⟨w7.heap.size, 0, none⟩) 2 2 [0, 1] _ (r8.more (by simp)) (by omega) 0 (by decide +kernel)).mono ?_
  rintro e w8 ⟨rfl, hw8⟩
  have b18 := b17.below L4 hg17
  rw [← show w8 = w7.alloc (.cells (ints [0, 1]).toArray 3) from hw8] at L4 b18
  have hz8 := L4.size
  replace HB := HB.trans (L4.mono hz7')
  have hz8' := HB.size
  have hg18 : g1 < w8.heap.size := by omega
  clear hw8 r8 b17 L4
  go_wp2_with fail
  have L5 := (Below.refl w8.heap.size w8).alloc (Nat.le_refl _) (.cells (ints [1, 1, 2, 4]).toArray 3)
  have r9 := rd_new (W0 := w8) (t := 3) (cs := ints [1, 1, 2, 4]) (size := 1) (m := 4) rfl rfl
  have s9 := (Rd.of_blk (size := 1) (m := 4) b18 rfl).below (L5.mono hg18)
  refine (cost_any (some ⟨w8.heap.size, 0, none⟩) (some ⟨g1, 0, none⟩) 4 4 4 4 [1, 1, 2, 4] [3, 3, 2, 1] _ (r9.more (by simp)) (s9.more (by simp; omega)) (by omega) (by omega) 14 (by decide +kernel)).mono ?_
  rintro e w9 ⟨rfl, hb9⟩
  replace L5 := L5.trans (hb9.mono L5.size)
  have hz9 := L5.size
  have b19 := b18.below L5 hg18
  replace HB := HB.trans (L5.mono hz8')
  have hg19 : g1 < w9.heap.size := by omega
  clear hb9 r9 s9 b18 L5
  go_wp2_with fail
  have s10 := (Rd.of_blk (size := 1) (m := 4) b19 rfl).more (show g1 + 1 ≤ w9.heap.size by omega)
  refine (used_any (some ⟨g1, 0, none⟩) 4 4 [3, 3, 2, 1] _ s10 (by omega) 4 (by decide +kernel)).mono ?_
  rintro e w10 ⟨rfl, rfl⟩
  go_wp2_with fail
  go_ret
  exact ⟨rfl, HB⟩
end LenW
end Go.Proofs.Ytpnccehaomikbaa
