/- Walks over the laws of package canon: some fixed answers. -/
import Derived.Test.YtedoeplhjmkllaaCanE
import Derived.Test.YtedoeplhjmkllaaCanI
import Derived.Test.YtedoeplhjmkllaaSame
namespace Go.Proofs.Ytedoeplhjmkllaa
set_option linter.unusedVariables false
set_option linter.unusedSimpArgs false
set_option linter.unnecessarySimpa false
open Go.RowKit
namespace LenW
open BitW (rdr RLeft)

set_option maxRecDepth 100000 in
set_option maxHeartbeats 4000000 in
theorem awake_any (w : World) :
    Calls Try.prog 12 #[] w fun e w' => e = .returned (.bool true) ∧ Below w.heap.size w w' := by
  have hk0 : chkL [2, 1, 2] = 0 := by decide +kernel
  go_enter Try.func12, Try.ntmps12
  go_wp2_with fail
  have HB := (Below.refl w.heap.size w).alloc (Nat.le_refl _) (.cells (ints [2, 1, 2]).toArray 3)
  have r1 := rd_new (W0 := w) (t := 3) (cs := ints [2, 1, 2]) (size := 1) (m := 3) rfl rfl
  refine (new_any (some ⟨w.heap.size, 0, none⟩) 3 3 [2, 1, 2] _ (r1.more (by simp)) (by omega) hk0).mono ?_
  rintro e w1 ⟨g, rfl, hC, hb1⟩
  replace HB := HB.trans (hb1.mono HB.size)
  clear hb1 r1
  go_wp2_with fail
  have K := (Below.refl w1.heap.size w1).alloc (Nat.le_refl _) (.cells (ints [2, 1, 2]).toArray 3)
  have r2 := rd_new (W0 := w1) (t := 3) (cs := ints [2, 1, 2]) (size := 1) (m := 3) rfl rfl
  refine (words_yes (some ⟨w1.heap.size, 0, none⟩) 3 3 [2, 1, 2] _ (r2.more (by simp)) (by omega) hk0).mono ?_
  rintro e w2 ⟨gW, rfl, hgW, bW, hb2⟩
  replace K := K.trans (hb2.mono K.size)
  have M : Below w2.heap.size w2 w2 := Below.refl _ _
  have hW2 := K.size
  clear hb2 r2
  rw [show wordsF [2, 1, 2] = [(2, 2), (0, 1), (3, 2)] from by decide +kernel] at bW
  go_wp2_with fail
  replace M := (M.alloc M.size (.cells (ints [2, 1, 2]).toArray 3)).alloc (by simp) (.cells (ints [0, 1, 2]).toArray 3)
  have r3 := rd_new (W0 := w2) (t := 3) (cs := ints [2, 1, 2]) (size := 1) (m := 3) rfl rfl
  have r4 := rd_new (W0 := w2.alloc (.cells (ints [2, 1, 2]).toArray 3)) (t := 3) (cs := ints [0, 1, 2]) (size := 1) (m := 3) rfl rfl
  have r3' := r3.below ((Below.refl (w2.heap.size + 1) _).alloc (by simp) (.cells (ints [0, 1, 2]).toArray 3))
  rw [World.size_alloc] at r4
  refine (pack_yes (some ⟨w2.heap.size, 0, none⟩) (some ⟨w2.heap.size + 1, 0, none⟩) 3 3 3 3 [2, 1, 2] [0, 1, 2] _ (r3'.more (by simp)) (r4.more (by simp)) (by omega) (by omega) (by intro x hx; simp at hx; rcases hx with rfl | rfl | rfl <;> (unfold I64; omega)) hk0 ([152], 0) (by decide +kernel)).mono ?_
  rintro e w3 ⟨rfl, hb3⟩
  replace M := M.trans (hb3.mono M.size)
  clear hb3 r3 r3' r4
  go_wp2_with fail
  replace M := M.alloc M.size (.cells (ints [2, 1, 2]).toArray 3)
  have r5 := rd_new (W0 := w3) (t := 3) (cs := ints [2, 1, 2]) (size := 1) (m := 3) rfl rfl
  refine (unpack_yes (some ⟨w3.heap.size, 0, none⟩) 3 3 [2, 1, 2] [152] 3 _ (r5.more (by simp)) (by omega) hk0 (by omega) (by decide) ([0, 1, 2], 5, 0) (by decide +kernel)).mono ?_
  rintro e w4 ⟨A2, n2, c2, rfl, hc2, o2, hb4⟩
  replace M := M.trans (hb4.mono M.size)
  clear hb4 r5
  obtain rfl : 3 = n2 := rd_len o2
  go_wp2_with fail
  have C4 := hC.below (K.trans (M.mono hW2))
  refine (word_any [2, 1, 2] _ g 2 w4 C4 (by unfold I64; omega) ((3, 2), 0) (by decide +kernel)).mono ?_
  rintro e w5 ⟨rfl, hb5⟩
  have P : Below w4.heap.size w4 (w5.alloc (.cells #[.int .i64 3, .int .i64 2] 47)) := hb5.alloc hb5.size _
  have F := Blk.new w5 47 #[.int .i64 3, .int .i64 2]
  go_wp2_with fail
  refine (word_any [2, 1, 2] _ g 3 _ (C4.below P) (by unfold I64; omega) ((0, 0), 70) (by decide +kernel)).mono ?_
  rintro e w6 ⟨rfl, hb6⟩
  have P2 : Below w4.heap.size w4 (w6.alloc (.cells #[.int .i64 0, .int .i64 0] 47)) := (P.trans (hb6.mono P.size)).alloc (by have := P.size; have := hb6.size; omega) _
  have F2 := (F.below hb6 F.lt).alloc (.cells #[.int .i64 0, .int .i64 0] 47)
  clear F hb5 hb6 P
  go_wp2_with fail
  refine (BitW.new_any [152] _).mono ?_
  rintro e w7 ⟨rfl, hw7⟩
  have P3 := P2.alloc P2.size (.cells (rdr [152] 0) 86)
  have F3 := F2.alloc (.cells (rdr [152] 0) 86)
  have hFl := F2.lt
  have hP2 := P2.size
  have B7 := Blk.new (w6.alloc (.cells #[.int .i64 0, .int .i64 0] 47)) 86 (rdr [152] 0)
  rw [← hw7] at P3 F3 B7
  generalize (w6.alloc (.cells #[.int .i64 0, .int .i64 0] 47)).heap.size = gr at *
  clear hw7 P2 F2
  go_wp2_with fail
  refine (cget_any [2, 1, 2] hk0 _ g gr [152] 0 w7 (C4.below P3) B7 (by decide) (by decide) (0, 2, 0) (by decide +kernel)).mono ?_
  rintro e w8 ⟨rfl, hR⟩
  have hgl := grown_below hR.2 B7.lt
  have P4 : Below w4.heap.size w4 w8 := P3.trans (hgl.mono hP2)
  have F4 := F3.below hgl hFl
  clear hR hgl P3 F3 B7 C4
  go_wp2_with fail
  have r8 := rd_new (W0 := w8) (t := 3) (cs := ints [1, 2]) (size := 1) (m := 2) rfl rfl
  refine (new_no (some ⟨w8.heap.size, 0, none⟩) 2 2 [1, 2] _ (r8.more (by simp)) (by omega) 80 (by decide +kernel) (by decide)).mono ?_
  rintro e w9 ⟨rfl, hw9⟩
  have P5 := P4.alloc P4.size (.cells (ints [1, 2]).toArray 3)
  have F5 := F4.alloc (.cells (ints [1, 2]).toArray 3)
  have hz4 := M.size
  have HB5 := ((HB.trans (K.mono HB.size)).trans (M.mono (Nat.le_trans HB.size hW2))).trans (P5.mono (by have := HB.size; omega))
  have bW5 := (bW.below M bW.lt).below (P5) (by have := bW.lt; omega)
  have o5 := o2.below P5
  rw [← show w9 = w8.alloc (.cells (ints [1, 2]).toArray 3) from hw9] at P5 F5 HB5 bW5 o5
  obtain ⟨f0, f1, _, _, _⟩ := blk2 F5
  have d0 := bW5.cell_ 0 (v := .int .i64 2) rfl
  have d1 := bW5.cell_ 1 (v := .int .i64 2) rfl
  clear hw9 P4 F4 r8
  go_wp2_with fail
  have r9 := rd_new (W0 := w9) (t := 3) (cs := ints [0, 1, 2]) (size := 1) (m := 3) rfl rfl
  have C9 := same_any A2 (some ⟨w9.heap.size, 0, none⟩) 3 c2 3 3 [0, 1, 2] [0, 1, 2] _ ((o5.below ((Below.refl _ w9).alloc (by have := P5.size; omega) (.cells (ints [0, 1, 2]).toArray 3))).more (by have := P5.size; simp; omega)) (r9.more (by simp)) (by omega) (by omega)
  refine C9.mono ?_
  rintro e w10 ⟨rfl, hb10⟩
  have P6 := ((Below.refl w9.heap.size w9).alloc (Nat.le_refl _) (.cells (ints [0, 1, 2]).toArray 3)).trans (hb10.mono (by simp))
  have HB6 := HB5.trans (P6.mono (HB5.size))
  have F6 := F5.below P6 F5.lt
  clear f0 f1
  obtain ⟨f0, f1, _, _, _⟩ := blk2 F6
  go_wp2_with fail
  go_ret
  exact ⟨rfl, HB6⟩
end LenW
end Go.Proofs.Ytedoeplhjmkllaa
