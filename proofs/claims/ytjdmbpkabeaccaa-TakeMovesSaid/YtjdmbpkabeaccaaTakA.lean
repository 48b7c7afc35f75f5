/- Walks over the laws of package take: some fixed answers. -/
import Derived.Test.YtjdmbpkabeaccaaTakU
import Derived.Test.YtjdmbpkabeaccaaTakS
namespace Go.Proofs.Ytjdmbpkabeaccaa
set_option linter.unusedVariables false
set_option linter.unusedSimpArgs false
set_option linter.unnecessarySimpa false
open Go.RowKit
namespace TakW

set_option maxRecDepth 100000 in
set_option maxHeartbeats 4000000 in
theorem awake_any (w : World) :
    Calls Try.prog 32 #[] w fun e w' => e = .returned (.bool true) ∧ Below w.heap.size w w' := by
  go_enter Try.func32, Try.ntmps32
  go_wp2_with fail
  have HB := (Below.refl w.heap.size w).alloc (Nat.le_refl _) (.cells (wcells [(1, 0), (4, 2), (5, 0), (6, 0)]).toArray 62)
  have r1 := rd_new (W0 := w) (t := 62) (cs := wcells [(1, 0), (4, 2), (5, 0), (6, 0)]) (size := 2) (m := 4) rfl rfl
  refine (run_any [2, 97, 98, 99] (some ⟨w.heap.size, 0, none⟩) 4 4 [(1, 0), (4, 2), (5, 0), (6, 0)] _ (r1.more (by simp)) (by decide) (by omega) ([(2, []), (0, [97, 98]), (0, [99]), (0, [])], 4, 0) (by decide +kernel)).mono ?_
  rintro e w1 ⟨A1, n1, c1, rfl, hc1, o1, hb1⟩
  replace HB := HB.trans (hb1.mono HB.size)
  clear hb1 r1
  go_wp2_with fail
  have HB2 := HB.alloc HB.size (.cells (wcells [(1, 0), (4, 2)]).toArray 62)
  have r2 := rd_new (W0 := w1) (t := 62) (cs := wcells [(1, 0), (4, 2)]) (size := 2) (m := 2) rfl rfl
  replace o1 := o1.below ((Below.refl w1.heap.size w1).alloc (Nat.le_refl _) (.cells (wcells [(1, 0), (4, 2)]).toArray 62))
  refine (run_any [97, 98] (some ⟨w1.heap.size, 0, none⟩) 2 2 [(1, 0), (4, 2)] _ (r2.more (by simp)) (by decide) (by omega) ([(97, [])], 1, 4) (by decide +kernel)).mono ?_
  rintro e w2 ⟨A2, n2, c2, rfl, hc2, o2, hb2⟩
  replace o1 := (o1.below (hb2.mono (by simp)))
  replace HB := HB2.trans (hb2.mono HB2.size)
  have z2 := hb2.size
  clear hb2 r2
  go_wp2_with fail
  have HB3 := HB.alloc HB.size (.cells (wcells [(6, 0)]).toArray 62)
  have r3 := rd_new (W0 := w2) (t := 62) (cs := wcells [(6, 0)]) (size := 2) (m := 1) rfl rfl
  replace o1 := o1.below ((Below.refl _ w2).alloc (by rw [World.size_alloc] at z2; omega) (.cells (wcells [(6, 0)]).toArray 62))
  refine (run_any [97, 98] (some ⟨w2.heap.size, 0, none⟩) 1 1 [(6, 0)] _ (r3.more (by simp)) (by decide) (by omega) ([], 0, 6) (by decide +kernel)).mono ?_
  rintro e w3 ⟨A3, n3, c3, rfl, hc3, o3, hb3⟩
  replace o1 := (o1.below (hb3.mono (by simp only [World.size_alloc] at *; omega)))
  replace HB := HB3.trans (hb3.mono HB3.size)
  obtain rfl : 4 = n1 := rd_glen o1
  obtain rfl : 1 = n2 := rd_glen o2
  obtain ⟨b, o, rfl, hb, hc⟩ := rd_gcells o1 (by omega)
  have d0 := (hc 0 (by decide)).1
  have d1 := (hc 1 (by decide)).2
  have d2 := (hc 2 (by decide)).2
  clear hc o1 o2 o3 hb3 r3 HB2 HB3
  dsimp only [List.getElem_cons_zero, List.getElem_cons_succ] at d0 d1 d2
  simp only [Nat.zero_mul, Nat.add_zero, Nat.one_mul] at d0 d1 d2
  go_wp2_with fail
  go_ret
  exact ⟨rfl, HB⟩
end TakW
end Go.Proofs.Ytjdmbpkabeaccaa
