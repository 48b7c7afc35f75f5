/- Walks over the laws of package varint: some fixed answers. -/
import Derived.Test.YtjdmbpkabeaccaaVarN
namespace Go.Proofs.Ytjdmbpkabeaccaa
set_option linter.unusedVariables false
set_option linter.unusedSimpArgs false
set_option linter.unnecessarySimpa false
open Go.RowKit
namespace VarW

theorem fix_eq (n width : Int) (w : World) (hn : I64 n) (v : List UInt8 × Int) (hv : fixV n width = v) :
    Calls Try.prog 17 #[.int .i64 n, .int .i64 width] w fun e w' => e = .returned (.tuple #[str v.1, .int .i64 v.2]) ∧ Below w.heap.size w w' := hv ▸ fix_any n width w hn
theorem list_eq (A : Option Addr) (n c : Nat) (l : List Int) (v : List UInt8 × Int) (hv : listV l = v) (w : World) (h : Rd w w.heap.size 1 A n (ints l)) (hn : n ≤ 1000000) (h64 : ∀ x ∈ l, I64 x) :
    Calls Try.prog 26 #[.slice A n c] w fun e w' => e = .returned (.tuple #[str v.1, .int .i64 v.2]) ∧ Below w.heap.size w w' := hv ▸ list_any A n c l w h hn h64

set_option maxRecDepth 100000 in
set_option maxHeartbeats 4000000 in
theorem awake_any (w : World) :
    Calls Try.prog 21 #[] w fun e w' => e = .returned (.bool true) ∧ Below w.heap.size w w' := by
  go_enter Try.func21, Try.ntmps21
  go_wp2_with fail
  refine (put_yes 300 _ (by omega)).mono ?_
  rintro e w1 ⟨rfl, HB⟩
  rw [show vbytes 300 = [172, 2] by decide +kernel]
  go_wp2_with fail
  refine (get_any [120, 172, 2] 1 _ (by decide) (300, 3, 0) (by decide +kernel)).mono ?_
  rintro e w2 ⟨rfl, rfl⟩
  go_wp2_with fail
  refine (fix_eq 300 4 _ ⟨by decide, by decide⟩ ([44, 1, 0, 0], 0) (by decide +kernel)).mono ?_
  rintro e w3 ⟨rfl, hb3⟩
  replace HB := HB.trans (hb3.mono HB.size)
  go_wp2_with fail
  refine (unfix_any [44, 1, 0, 0] 0 4 _ (by decide) (300, 4, 0) (by decide +kernel)).mono ?_
  rintro e w4 ⟨rfl, rfl⟩
  go_wp2_with fail
  have HB2 : Below w.heap.size w (w4.alloc (Obj.cells #[Value.int IntKind.i64 1, Value.int IntKind.i64 300] 3)) := HB.alloc HB.size _
  refine (list_eq (some ⟨w4.heap.size, 0, none⟩) 2 2 [1, 300] ([2, 1, 172, 2], 0) (by decide +kernel) _ ((rd_new (W0 := w4) (t := 3) (cs := ints [1, 300]) rfl rfl).more (by simp)) (by omega) (by intro x hx; simp at hx; rcases hx with rfl | rfl <;> exact ⟨by decide, by decide⟩)).mono ?_
  rintro e w5 ⟨rfl, hb5⟩
  replace HB := HB2.trans (hb5.mono HB2.size)
  go_wp2_with fail
  refine (unlist_any [2, 1, 172, 2] 0 2 _ (by decide) ([1, 300], 4, 0) (by decide +kernel)).mono ?_
  rintro e w6 ⟨A6, n6, c6, rfl, hc6, r6, hb6⟩
  replace HB := HB.trans (hb6.mono HB.size)
  obtain rfl : 2 = n6 := rd_len r6
  go_wp2_with fail
  refine (put_no (-1) _ (by omega)).mono ?_
  rintro e w7 ⟨rfl, hb7⟩
  replace HB := HB.trans (hb7.mono HB.size)
  go_wp2_with fail
  refine (RecW.vsize_any 300 _ (by omega) (by omega)).mono ?_
  rintro e w8 ⟨rfl, rfl⟩
  rw [show vlen (300 : Int).toNat = 2 by decide +kernel]
  go_wp2_with fail
  go_ret
  exact ⟨rfl, HB⟩

theorem refPut_v (x : Nat) (w : World) (hx : x ≤ 9223372036854775807) :
    Calls Try.prog 16 #[.int .i64 x] w fun e w' => e = .returned (.tuple #[str (vbytes x), .int .i64 0]) ∧ Below w.heap.size w w' := RecW.refPut_any 9 x w (by omega) (by omega) (by omega)
set_option maxRecDepth 100000 in
set_option maxHeartbeats 1000000 in
theorem refSize_any (f : Nat) : ∀ (n : Nat) (w : World), n < 128 ^ f → 0 < f → f ≤ 9 →
    Calls Try.prog 20 #[.int .i64 n] w fun e w' => e = .returned (.int .i64 (vl f n : Nat)) ∧ w' = w := by
  induction f with
  | zero => intro n w h0 h1; omega
  | succ f ih =>
    intro n w h2 hf0 hf
    have hmax : (n : Int) ≤ 9223372036854775807 := by
      have : 128 ^ (f + 1) ≤ 128 ^ 9 := Nat.pow_le_pow_right (by omega) hf
      omega
    have IH := Lib.hid ih
    have H2 := Lib.hid h2
    clear ih h2
    by_cases hs : n < 128
    · have HV := Lib.hid (show vl (f + 1) n = 1 by rw [vl, if_pos hs])
      go_enter Try.func20, Try.ntmps20
      go_wp2_with fail
      go_ret
      exact ⟨ret_int (by rw [HV.out]; rfl), rfl⟩
    · have HV := Lib.hid (show vl (f + 1) n = 1 + vl f (n / 128) by rw [vl, if_neg hs])
      have hb := vl_le f (n / 128)
      go_enter Try.func20, Try.ntmps20
      go_wp2_with fail
      rw [show ((n : Int) / 128) = ((n / 128 : Nat) : Int) from by omega]
      have hf1 : 0 < f := by
        rcases Nat.eq_zero_or_pos f with rfl | h
        · have := H2.out; omega
        · exact h
      refine (IH.out _ _ (RecW.div128 H2.out) hf1 (by omega)).mono ?_
      rintro e w1 ⟨rfl, rfl⟩
      go_wp2_with fail
      go_ret
      exact ⟨ret_int (by rw [HV.out]; omega), rfl⟩
theorem vsize_no (n : Int) (w : World) (h : n < 0) :
    Calls Try.prog 19 #[.int .i64 n] w fun e w' => e = .returned (.int .i64 0) ∧ w' = w := by
  go_enter Try.func19, Try.ntmps19
  go_wp2_with fail
  go_ret
  exact ⟨rfl, rfl⟩
theorem refSize_no (n : Int) (w : World) (h : n < 0) :
    Calls Try.prog 20 #[.int .i64 n] w fun e w' => e = .returned (.int .i64 0) ∧ w' = w := by
  go_enter Try.func20, Try.ntmps20
  go_wp2_with fail
  go_ret
  exact ⟨rfl, rfl⟩

set_option maxRecDepth 100000 in
set_option maxHeartbeats 2000000 in
theorem puts_law (n width : Int) (w : World) (h64 : I64 n) :
    Calls Try.prog 3 #[.int .i64 n, .int .i64 width] w fun e w' => e = .returned (.bool true) ∧ Below w.heap.size w w' := by
  have HB := Below.refl w.heap.size w
  obtain ⟨a, k, C1, C2, C5, C6⟩ : ∃ (a : List UInt8 × Int) (k : Int), (∀ w, Calls Try.prog 15 #[.int .i64 n] w fun e w' => e = .returned (.tuple #[str a.1, .int .i64 a.2]) ∧ Below w.heap.size w w') ∧
      (∀ w, Calls Try.prog 16 #[.int .i64 n] w fun e w' => e = .returned (.tuple #[str a.1, .int .i64 a.2]) ∧ Below w.heap.size w w') ∧
      (∀ w, Calls Try.prog 19 #[.int .i64 n] w fun e w' => e = .returned (.int .i64 k) ∧ w' = w) ∧ (∀ w, Calls Try.prog 20 #[.int .i64 n] w fun e w' => e = .returned (.int .i64 k) ∧ w' = w) := by
    obtain ⟨q1, q2⟩ := h64
    by_cases hneg : n < 0
    · exact ⟨([], 2), 0, fun w => put_no n w hneg, fun w => RecW.refPut_no n w hneg, fun w => vsize_no n w hneg, fun w => refSize_no n w hneg⟩
    · obtain ⟨x, rfl⟩ := Int.eq_ofNat_of_zero_le (show 0 ≤ n by omega)
      refine ⟨(vbytes x, 0), (vlen x : Nat), fun w => put_yes x w (by omega), fun w => refPut_v x w (by omega), fun w => ?_, fun w => refSize_any 9 x w (by omega) (by omega) (by omega)⟩
      have := RecW.vsize_any x w (by omega) (by omega)
      rwa [Int.toNat_natCast] at this
  have H1 := Lib.hid C1
  have H2 := Lib.hid C2
  have H5 := Lib.hid C5
  have H6 := Lib.hid C6
  clear C1 C2 C5 C6
  have C3 := fun w => fix_any n width w h64
  have C4 := fun w => refFix_any n width w h64
  generalize fixV n width = v at *
  have H3 := Lib.hid C3
  have H4 := Lib.hid C4
  clear C3 C4
  go_enter Try.func3, Try.ntmps3
  go_wp2_with fail
  refine (H1.out _).mono ?_
  rintro e w1 ⟨rfl, hb1⟩
  have z1 := hb1.size; replace HB := HB.trans (hb1.mono HB.size); have zz1 := HB.size
  go_wp2_with fail
  refine (H2.out _).mono ?_
  rintro e w2 ⟨rfl, hb2⟩
  have z2 := hb2.size; replace HB := HB.trans (hb2.mono HB.size); have zz2 := HB.size
  go_wp2_with fail
  refine (H3.out _).mono ?_
  rintro e w3 ⟨rfl, hb3⟩
  have z3 := hb3.size; replace HB := HB.trans (hb3.mono HB.size); have zz3 := HB.size
  go_wp2_with fail
  refine (H4.out _).mono ?_
  rintro e w4 ⟨rfl, hb4⟩
  have z4 := hb4.size; replace HB := HB.trans (hb4.mono HB.size); have zz4 := HB.size
  go_wp2_with fail
  refine (H5.out _).mono ?_
  rintro e w5 ⟨rfl, rfl⟩
  go_wp2_with fail
  refine (H6.out _).mono ?_
  rintro e w6 ⟨rfl, rfl⟩
  go_wp2_with fail
  refine (awake_any _).mono ?_
  rintro e w7 ⟨rfl, hb7⟩
  have z7 := hb7.size; replace HB := HB.trans (hb7.mono HB.size); have zz7 := HB.size
  go_wp2_with fail
  go_ret
  exact ⟨rfl, HB⟩

set_option maxRecDepth 100000 in
set_option maxHeartbeats 2000000 in
theorem gets_law (s : ByteArray) (a width : Int) (w : World) (hs : s.size ≤ 140737488351232) :
    Calls Try.prog 4 #[.string s, .int .i64 a, .int .i64 width] w fun e w' => e = .returned (.bool true) ∧ Below w.heap.size w w' := by
  obtain ⟨l, rfl, hl⟩ := str_of s
  have hl2 : l.length ≤ 140737488351232 := by omega
  clear hl hs
  have C1 := fun w x hx => get_any l a w (by omega) x hx
  have C2 := fun w x hx => refGet_any l a w (by omega) x hx
  have C3 := fun w x hx => unfix_any l a width w (by omega) x hx
  have C4 := fun w x hx => refUnfix_any l a width w (by omega) x hx
  have H1 := Lib.hid (fun w => C1 w _ rfl)
  have H2 := Lib.hid (fun w => C2 w _ rfl)
  have H3 := Lib.hid (fun w => C3 w _ rfl)
  have H4 := Lib.hid (fun w => C4 w _ rfl)
  clear C1 C2 C3 C4
  generalize getV l a = x at *
  generalize unfixV l a width = y at *
  have HB := Below.refl w.heap.size w
  go_enter Try.func4, Try.ntmps4
  go_wp2_with fail
  refine (H1.out _).mono ?_
  rintro e w1 ⟨rfl, rfl⟩
  go_wp2_with fail
  refine (H2.out _).mono ?_
  rintro e w2 ⟨rfl, rfl⟩
  go_wp2_with fail
  refine (H3.out _).mono ?_
  rintro e w3 ⟨rfl, rfl⟩
  go_wp2_with fail
  refine (H4.out _).mono ?_
  rintro e w4 ⟨rfl, rfl⟩
  go_wp2_with fail
  refine (awake_any _).mono ?_
  rintro e w7 ⟨rfl, hb7⟩
  have z7 := hb7.size; replace HB := HB.trans (hb7.mono HB.size); have zz7 := HB.size
  go_wp2_with fail
  go_ret
  exact ⟨rfl, HB⟩
end VarW
end Go.Proofs.Ytjdmbpkabeaccaa
