/- The awake probe of package front, and the walks of its first laws. -/
import Derived.Test.YtehlgpfkpagaeaaFrontS
import Derived.Test.YtehlgpfkpagaeaaSame
namespace Go.Proofs.Ytehlgpfkpagaeaa
set_option linter.unusedVariables false
set_option linter.unusedSimpArgs false
set_option linter.unnecessarySimpa false
open Go.RowKit
namespace FrontW

set_option maxHeartbeats 2000000 in
theorem awake_any (w : World) :
    Calls Try.prog 31 #[] w fun e w' => e = .returned (.bool true) ∧ Below w.heap.size w w' := by
  have r1 : (runR [97, 97, 98]).2 = [97, 0, 98] := by decide +kernel
  have r2 : textS [97, 0, 98] = ([97, 97, 98], 0) := by decide +kernel
  have r3 : textS [256] = ([], 60) := by decide +kernel
  have r4 : (runR [97, 97, 98]).1.take 3 = [98, 97, 0] := by decide +kernel
  have r5 : (runR [97, 97, 98]).1.length = 256 := (runR_full _).len
  have R1 := Lib.hid r1
  have R2 := Lib.hid r2
  have R3 := Lib.hid r3
  have R4 := Lib.hid r4
  have R5 := Lib.hid r5
  clear r1 r2 r3 r4 r5
  go_enter Try.func31, Try.ntmps31
  go_wp2_with fail
  refine (ranks_any [97, 97, 98] _ (by decide)).mono ?_
  rintro e w1 ⟨A, c, rfl, hown, hb1⟩
  rw [R1.out] at hown
  go_wp2_with fail
  refine (text_any _ 3 3 [97, 0, 98] _ ?hr (by omega)).mono ?_
  case hr => exact (Rd.of_blk (m := 3) (cs := ints [97, 0, 98]) (Blk.new w1 _ _) rfl).more (by simp)
  rintro e w2 ⟨rfl, hb2⟩
  rw [R2.out]
  have hown2 := (hown.alloc _).below hb2
  have HB2 : Below w.heap.size w w2 := (hb1.alloc hb1.size _).trans (hb2.mono (by have := hb1.size; simp; omega))
  go_wp2_with fail
  refine (text_any _ 1 1 [256] _ ?hr2 (by omega)).mono ?_
  case hr2 => exact (Rd.of_blk (m := 1) (cs := ints [256]) (Blk.new w2 _ _) rfl).more (by simp)
  rintro e w3 ⟨rfl, hb3⟩
  rw [R3.out]
  have hown3 := (hown2.alloc _).below hb3
  have HB3 : Below w.heap.size w w3 := (HB2.alloc HB2.size _).trans (hb3.mono (by have := HB2.size; simp; omega))
  obtain ⟨b, o, rfl, hbb, hc⟩ := rd_ints hown3.rd (by decide)
  have d0 : w3.cell? ⟨b, o, none⟩ = some (.int .i64 97) := hc 0 (by decide)
  have d1 : w3.cell? ⟨b, o + 1, none⟩ = some (.int .i64 0) := hc 1 (by decide)
  have d2 : w3.cell? ⟨b, o + 2, none⟩ = some (.int .i64 98) := hc 2 (by decide)
  clear hc
  go_wp2_with fail
  refine (row_any [97, 97, 98] _ (by decide)).mono ?_
  rintro e w4 ⟨rfl, hb4⟩
  have q5 := R5.out
  go_wp2_with fail
  refine (row_any [97, 97, 98] _ (by decide)).mono ?_
  rintro e w5 ⟨rfl, hb5⟩
  go_wp2
  go_ret
  have hx : ((({ data := (runR [97, 97, 98]).1.toArray } : ByteArray).extract 0 3).toList == [98, 97, 0]) = true := by
    rw [ext_str, List.drop_zero, R4.out]; decide +kernel
  exact ⟨ret_bool hx, (HB3.trans (hb4.mono HB3.size)).trans (hb5.mono (Nat.le_trans HB3.size hb4.size))⟩
end FrontW
end Go.Proofs.Ytehlgpfkpagaeaa
