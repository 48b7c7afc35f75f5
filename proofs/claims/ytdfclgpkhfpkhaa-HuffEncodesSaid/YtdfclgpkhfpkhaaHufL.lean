/- The walk of HuffEncodes. -/
import Derived.Test.YtdfclgpkhfpkhaaHufH
namespace Go.Proofs.Ytdfclgpkhfpkhaa
set_option linter.unusedVariables false
set_option linter.unusedSimpArgs false
set_option linter.unnecessarySimpa false
open Go.RowKit
namespace HufW
open LenW (chkL symsB symsOk)

set_option maxRecDepth 100000 in
set_option maxHeartbeats 4000000 in
theorem huf_encodes_law (A : Option Addr) (n c : Nat) (r : List Int) (w : World) (h : Rd w w.heap.size 1 A n (ints r)) (hn : n ≤ maxLen) (hr64 : ∀ x ∈ r, I64 x) :
    Calls Try.prog 3 #[.slice A n c] w fun e w' => e = .returned (.bool true) ∧ Below w.heap.size w w' := by
  unfold maxLen at hn
  by_cases h1 : (n : Int) > 2000
  · clear h
    go_enter Try.func3, Try.ntmps3
    go_wp2_with fail
    refine (hawake_any _).mono ?_
    rintro e w7 ⟨rfl, hb7⟩
    go_wp2_with fail
    go_ret
    exact ⟨rfl, hb7⟩
  have hn2 : n ≤ 2000 := by omega
  obtain ⟨x, hx⟩ : ∃ x, encV r = x := ⟨_, rfl⟩
  obtain ⟨y, hy⟩ : ∃ y, ctsV r = y := ⟨_, rfl⟩
  obtain ⟨v, hv⟩ : ∃ v, sizV r = v := ⟨_, rfl⟩
  have C1 := encode_any A n c r w h hn2 hr64 x hx
  have C2 := fun w1 (hb : Below w.heap.size w w1) => refEncode_any A n c r w1 ((h.below hb).more hb.size) hn2 hr64 x hx
  have C3 := fun w1 (hb : Below w.heap.size w w1) => counts_rd A n c r w1 ((h.below hb).more hb.size) (by omega) hr64 y hy
  have C4 := fun w1 (hb : Below w.heap.size w w1) => refCounts_rd A n c r w1 ((h.below hb).more hb.size) (by omega) hr64 y hy
  have C5 := fun w1 (hb : Below w.heap.size w w1) => size_any A n c r w1 ((h.below hb).more hb.size) hn2 hr64 v hv
  have C6 := fun w1 (hb : Below w.heap.size w w1) => refSize_any A n c r w1 ((h.below hb).more hb.size) hn2 hr64 v hv
  obtain ⟨x1, x2⟩ := x
  obtain ⟨y1, y2⟩ := y
  dsimp only at C1 C2 C3 C4
  have H2 := Lib.hid C2
  have H3 := Lib.hid C3
  have H4 := Lib.hid C4
  have H5 := Lib.hid C5
  have H6 := Lib.hid C6
  clear hx hy hv hr64 h C2 C3 C4 C5 C6
  go_enter Try.func3, Try.ntmps3
  go_wp2_with fail
  refine C1.mono ?_
  clear C1
  rintro e w1 ⟨rfl, HB1⟩
  go_wp2_with fail
  refine (H2.out w1 HB1).mono ?_
  rintro e w2 ⟨rfl, hb2⟩
  have HB2 := HB1.trans (hb2.mono HB1.size)
  clear hb2 HB1
  go_wp2_with fail
  refine (H3.out w2 HB2).mono ?_
  rintro e w3 ⟨A3, n3, rfl, hn3, r3, hb3⟩
  have HB3 := HB2.trans (hb3.mono HB2.size)
  clear hb3 HB2
  go_wp2_with fail
  refine (H4.out w3 HB3).mono ?_
  rintro e w4 ⟨A4, n4, rfl, hn4, r4, hb4⟩
  have HB4 := HB3.trans (hb4.mono HB3.size)
  have r3' := (r3.below hb4).more hb4.size
  clear hb4 HB3 r3
  have hx2 : (x2 == x2) = true := by simp
  have hy2 : (y2 == y2) = true := by simp
  have C9 := same_any A3 A4 n3 n3 n4 n4 y1 y1 w4 r3' r4 (by omega) (by omega)
  rw [decide_eq_true (rfl : y1 = y1)] at C9
  go_wp2_with fail
  refine C9.mono ?_
  rintro e w5 ⟨rfl, hb5⟩
  have HB5 := HB4.trans (hb5.mono HB4.size)
  clear C9 hb5 HB4 r3' r4
  go_wp2_with fail
  refine (H5.out w5 HB5).mono ?_
  rintro e w6 ⟨rfl, hb6⟩
  have HB6 := HB5.trans (hb6.mono HB5.size)
  clear hb6 HB5
  go_wp2_with fail
  refine (H6.out w6 HB6).mono ?_
  rintro e w7 ⟨rfl, hb7⟩
  have HB7 := HB6.trans (hb7.mono HB6.size)
  clear hb7 HB6
  have hvv : ((v : Int) == (v : Int)) = true := by simp
  go_wp2_with fail
  refine (hawake_any w7).mono ?_
  rintro e w8 ⟨rfl, hb8⟩
  go_wp2_with fail
  go_ret
  exact ⟨rfl, HB7.trans (hb8.mono HB7.size)⟩
end HufW
end Go.Proofs.Ytdfclgpkhfpkhaa
