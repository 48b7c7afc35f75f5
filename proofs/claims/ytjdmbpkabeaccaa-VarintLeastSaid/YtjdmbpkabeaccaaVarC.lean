/- The law of package varint on the least bytes: its walk. -/
import Derived.Test.YtjdmbpkabeaccaaVarB
namespace Go.Proofs.Ytjdmbpkabeaccaa
set_option linter.unusedVariables false
set_option linter.unusedSimpArgs false
set_option linter.unnecessarySimpa false
open Go.RowKit Go.ChangeShapes Go.WideShapes
namespace VarW

theorem ext_list (l : List UInt8) (p q : Nat) : ((⟨l.toArray⟩ : ByteArray).extract p q).toList = (l.drop p).take (q - p) := by
  rw [Lib.toList_data]
  simp
theorem getV_err {s : List UInt8} {a : Int} (h : (getV s a).2.2 ≠ 0) : getV s a = (0, 0, (getV s a).2.2) := by
  by_cases h1 : a < 0 ∨ (s.length : Int) < a
  · rw [getV_out h1]
  · obtain ⟨p, rfl⟩ := Int.eq_ofNat_of_zero_le (show 0 ≤ a by omega)
    rw [getV_in (by omega)] at h ⊢
    unfold resV at *
    by_cases h2 : (vdec 9 true (s.drop p)).2.2 = 0
    · rw [if_pos h2] at h; exact absurd rfl h
    · rw [if_neg h2]

set_option maxRecDepth 100000 in
set_option maxHeartbeats 8000000 in
theorem least_law (s : ByteArray) (a n : Int) (w : World) (hs : s.size ≤ maxLen) (h64 : I64 n) :
    Calls Try.prog 7 #[.string s, .int .i64 a, .int .i64 n] w fun e w' => e = .returned (.bool true) ∧ Below w.heap.size w w' := by
  obtain ⟨l, rfl, hl⟩ := str_of s
  rw [← hl] at hs
  clear hl
  unfold maxLen at hs
  obtain ⟨q1, q2⟩ := h64
  have HB := Below.refl w.heap.size w
  by_cases he : (getV l a).2.2 = 0
  · obtain ⟨g1, g2, g3, g4, g5⟩ := getV_ok he
    have gi := getV_inv he
    obtain ⟨x, hx⟩ : ∃ x, getV l a = x := ⟨_, rfl⟩
    have C1 := get_any l a w (by omega) x hx
    rw [hx] at he g2 g3 g4 g5 gi
    clear hx
    obtain ⟨m, to, er⟩ := x
    dsimp only at he g2 g3 g4 g5 gi
    subst he
    obtain ⟨p, rfl⟩ := Int.eq_ofNat_of_zero_le g1
    obtain ⟨q, rfl⟩ := Int.eq_ofNat_of_zero_le (show 0 ≤ to by omega)
    obtain ⟨y, rfl⟩ := Int.eq_ofNat_of_zero_le g4
    rw [show ((q : Int) - (p : Int)).toNat = q - p from by omega, Int.toNat_natCast, Int.toNat_natCast] at gi
    have GI := Lib.hid gi
    have hvy := vlen_le y
    have hvy2 := vbytes_len y
    clear gi
    go_enter Try.func7, Try.ntmps7
    go_wp2_with fail
    refine C1.mono ?_
    clear C1
    rintro e w1 ⟨rfl, rfl⟩
    go_wp2_with fail
    refine (put_yes y _ (by omega)).mono ?_
    rintro e w2 ⟨rfl, hb2⟩
    replace HB := HB.trans (hb2.mono HB.size)
    have hb0 : (vbytes y == ((⟨l.toArray⟩ : ByteArray).extract p q).toList) = true := by rw [ext_list, beq_iff_eq]; exact GI.out
    by_cases hneg : n < 0
    · go_wp2_with fail
      refine (put_no n _ hneg).mono ?_
      rintro e w3 ⟨rfl, hb3⟩
      replace HB := HB.trans (hb3.mono HB.size)
      go_wp2_with fail
      refine (awake_any _).mono ?_
      rintro e w9 ⟨rfl, hb9⟩
      have z9 := hb9.size; replace HB := HB.trans (hb9.mono HB.size); have zz9 := HB.size
      go_wp2_with fail
      go_ret
      exact ⟨rfl, HB⟩
    · obtain ⟨z, rfl⟩ := Int.eq_ofNat_of_zero_le (show 0 ≤ n by omega)
      have hvz := vlen_le z
      have hvz2 := vbytes_len z
      clear hneg
      by_cases hnm : z = y
      · have hnmI : ((z : Int) != (y : Int)) = false := by rw [bne_eq_false_iff_eq]; omega
        clear hnm
        go_wp2_with fail
        refine (put_yes z _ (by omega)).mono ?_
        rintro e w3 ⟨rfl, hb3⟩
        replace HB := HB.trans (hb3.mono HB.size)
        go_wp2_with fail
        refine (awake_any _).mono ?_
        rintro e w9 ⟨rfl, hb9⟩
        have z9 := hb9.size; replace HB := HB.trans (hb9.mono HB.size); have zz9 := HB.size
        go_wp2_with fail
        go_ret
        exact ⟨rfl, HB⟩
      · have hnmI : ((z : Int) != (y : Int)) = true := by rw [bne_iff_ne]; omega
        have hpre : (((⟨(vbytes z).toArray⟩ : ByteArray).extract 0 (vlen y)).toList == vbytes y) = false := by
          rw [ext_list, beq_eq_false_iff_ne]
          intro e
          exact hnm (vbytes_prefix (by omega) (by omega) (by rw [hvy2]; simpa using e))
        clear hnm
        by_cases hle : vlen y ≤ vlen z
        · go_wp2_with fail
          refine (put_yes z _ (by omega)).mono ?_
          rintro e w3 ⟨rfl, hb3⟩
          replace HB := HB.trans (hb3.mono HB.size)
          go_wp2_with fail
          trace_state
          refine (awake_any _).mono ?_
          rintro e w9 ⟨rfl, hb9⟩
          have z9 := hb9.size; replace HB := HB.trans (hb9.mono HB.size); have zz9 := HB.size
          go_wp2_with fail
          go_ret
          exact ⟨rfl, HB⟩
        · go_wp2_with fail
          refine (put_yes z _ (by omega)).mono ?_
          rintro e w3 ⟨rfl, hb3⟩
          replace HB := HB.trans (hb3.mono HB.size)
          go_wp2_with fail
          refine (awake_any _).mono ?_
          rintro e w9 ⟨rfl, hb9⟩
          have z9 := hb9.size; replace HB := HB.trans (hb9.mono HB.size); have zz9 := HB.size
          go_wp2_with fail
          go_ret
          exact ⟨rfl, HB⟩
  · have hg := getV_err he
    have HG := Lib.hid hg
    obtain ⟨er, her⟩ : ∃ er, (getV l a).2.2 = er := ⟨_, rfl⟩
    rw [her] at hg he
    have C1 := get_any l a w (by omega) _ hg
    have heI : (er == 0) = false := by rw [beq_eq_false_iff_ne]; exact he
    clear hg her he
    go_enter Try.func7, Try.ntmps7
    go_wp2_with fail
    refine C1.mono ?_
    clear C1
    rintro e w1 ⟨rfl, rfl⟩
    go_wp2_with fail
    refine (awake_any _).mono ?_
    rintro e w9 ⟨rfl, hb9⟩
    have z9 := hb9.size; replace HB := HB.trans (hb9.mono HB.size); have zz9 := HB.size
    go_wp2_with fail
    go_ret
    exact ⟨rfl, HB⟩
end VarW
end Go.Proofs.Ytjdmbpkabeaccaa
