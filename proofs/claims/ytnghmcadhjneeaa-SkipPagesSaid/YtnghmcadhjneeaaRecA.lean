/- Walks over the laws of package record: some fixed answers. -/
import Derived.Test.YtnghmcadhjneeaaRecL
namespace Go.Proofs.Ytnghmcadhjneeaa
set_option linter.unusedVariables false
set_option linter.unusedSimpArgs false
set_option linter.unnecessarySimpa false
open Go.RowKit
namespace RecW

theorem put_eq (r : Rc) (v : List UInt8) (e0 : Int) (hv : putRN r = v) (he : chkR r = e0) (w : World) :
    Calls Try.prog 49 #[recv r] w fun e w' => e = .returned (.tuple #[str v, .int .i64 e0]) ∧ Below w.heap.size w w' := hv ▸ he ▸ putR_any r w
theorem size_eq (r : Rc) (v : Int) (hv : ((sizeN r : Nat) : Int) = v) (w : World) :
    Calls Try.prog 52 #[recv r] w fun e w' => e = .returned (.int .i64 v) ∧ Below w.heap.size w w' := hv ▸ size_any r w

set_option maxRecDepth 100000 in
set_option maxHeartbeats 4000000 in
theorem awake_any (w : World) :
    Calls Try.prog 13 #[] w fun e w' => e = .returned (.bool true) ∧ Below w.heap.size w w' := by
  go_enter Try.func13, Try.ntmps13
  go_wp2_with fail
  have b1 := Blk.new w 26 #[.int .i64 1, .int .i64 300, str [104, 105]]
  have HB := (Below.refl w.heap.size w).alloc (Nat.le_refl _) (.cells #[.int .i64 1, .int .i64 300, str [104, 105]] 26)
  refine (put_eq (1, 300, [104, 105]) [1, 172, 2, 2, 104, 105] 0 (by decide +kernel) (by decide +kernel) _).mono ?_
  rintro e w1 ⟨rfl, hb1⟩
  replace b1 := b1.below hb1 b1.lt
  replace HB := HB.trans (hb1.mono HB.size)
  clear hb1
  go_wp2_with fail
  refine (getR_any [120, 1, 172, 2, 2, 104, 105] 1 _ (by decide) ((1, 300, [104, 105]), 7, 0) (by decide +kernel)).mono ?_
  rintro e w2 ⟨rfl, hb2⟩
  replace b1 := b1.below hb2 b1.lt
  replace HB := HB.trans (hb2.mono HB.size)
  clear hb2
  go_wp2_with fail
  have b2 := Blk.new w2 26 #[.int .i64 1, .int .i64 300, str [104, 105]]
  replace b1 := b1.alloc (.cells #[.int .i64 1, .int .i64 300, str [104, 105]] 26)
  replace HB := HB.alloc HB.size (.cells #[.int .i64 1, .int .i64 300, str [104, 105]] 26)
  refine (split_any [1, 172, 2, 2, 104, 105, 2, 172, 2, 0] _ (by decide) ([(1, 300, [104, 105]), (2, 300, [])], 0) (by decide +kernel)).mono ?_
  rintro e w3 ⟨A3, n3, c3, rfl, hc3, r3, hb3⟩
  replace b1 := b1.below hb3 b1.lt
  replace b2 := b2.below hb3 b2.lt
  replace HB := HB.trans (hb3.mono HB.size)
  clear hb3
  obtain rfl : 2 = n3 := rd_rlen r3
  go_wp2_with fail
  refine (split_any [1, 172, 2, 2, 104, 105, 1, 172, 2, 2, 104, 105] _ (by decide) ([], 151) (by decide +kernel)).mono ?_
  rintro e w4 ⟨A4, n4, c4, rfl, hc4, r4, hb4⟩
  replace b1 := b1.below hb4 b1.lt
  replace b2 := b2.below hb4 b2.lt
  replace r3 := (r3.below hb4).more hb4.size
  replace HB := HB.trans (hb4.mono HB.size)
  clear hb4 r4
  have b1' := b1
  obtain ⟨k0, k1, k2, _, _, _, _⟩ := blk3 b1'
  clear b1'
  go_wp2_with fail
  have r5 := rd_new (W0 := w4) (t := 26) (cs := rcells [(1, 300, [104, 105])]) (size := 3) (m := 1) rfl rfl
  clear k0 k1 k2
  refine (join_any (some ⟨w4.heap.size, 0, none⟩) 1 1 [(1, 300, [104, 105])] _ (r5.more (by simp)) (by omega) ([1, 172, 2, 2, 104, 105], 0) (by decide +kernel)).mono ?_
  rintro e w5 ⟨rfl, hb5⟩
  have z5 := hb5.size
  rw [World.size_alloc] at z5
  have zz1 := b1.lt
  have zz2 := b2.lt
  have hb5' : Below w4.heap.size w4 w5 := ((Below.refl w4.heap.size w4).alloc (Nat.le_refl _) _).trans (hb5.mono (by simp))
  replace b1 := b1.below hb5' zz1
  replace b2 := b2.below hb5' zz2
  replace r3 := (r3.below hb5').more hb5'.size
  replace HB := HB.trans (hb5'.mono HB.size)
  clear hb5 hb5' r5 z5 zz1 zz2
  have b1' := b1
  have b2' := b2
  obtain ⟨k0, k1, k2, _, _, _, _⟩ := blk3 b1'
  obtain ⟨m0, m1, m2, _, _, _, _⟩ := blk3 b2'
  obtain ⟨b, o, rfl, hb, hc⟩ := rd_recs r3 (by omega)
  have d0 := (hc 1 (by decide)).1
  dsimp only [List.getElem_cons_zero, List.getElem_cons_succ] at d0
  simp only [Nat.one_mul] at d0
  clear b1' b2' hc
  go_wp2_with fail
  refine (size_eq (1, 300, [104, 105]) 6 (by decide +kernel) _).mono ?_
  rintro e w6 ⟨rfl, hb6⟩
  replace HB := HB.trans (hb6.mono HB.size)
  go_wp2_with fail
  refine (check_any (0, 0, []) 150 (by decide +kernel) _).mono ?_
  rintro e w7 ⟨rfl, hb7⟩
  replace HB := HB.trans (hb7.mono HB.size)
  go_wp2_with fail
  refine (row_any none 0 0 [] _ (Rd.nil _ _ _ _) (by omega)).mono ?_
  rintro e w8 ⟨rfl, hb8⟩
  replace HB := HB.trans (hb8.mono HB.size)
  go_wp2_with fail
  go_ret
  exact ⟨rfl, HB⟩
end RecW
end Go.Proofs.Ytnghmcadhjneeaa
