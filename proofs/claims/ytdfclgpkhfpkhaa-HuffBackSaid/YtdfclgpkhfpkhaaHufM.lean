/- The walk of HuffBack. -/
import Derived.Test.YtdfclgpkhfpkhaaHufH
namespace Go.Proofs.Ytdfclgpkhfpkhaa
set_option linter.unusedVariables false
set_option linter.unusedSimpArgs false
set_option linter.unnecessarySimpa false
open Go.RowKit
namespace HufW
open LenW (chkL symsB symsOk)

theorem ext_take (l : List UInt8) (p : Nat) : ((⟨l.toArray⟩ : ByteArray).extract 0 p) = ⟨(l.take p).toArray⟩ := by
  apply ByteArray.ext
  simp
set_option maxRecDepth 100000 in
set_option maxHeartbeats 4000000 in
theorem huf_back_law (A : Option Addr) (n c : Nat) (r : List Int) (w : World) (h : Rd w w.heap.size 1 A n (ints r)) (hn : n ≤ maxLen) (hr64 : ∀ x ∈ r, I64 x) :
    Calls Try.prog 4 #[.slice A n c] w fun e w' => e = .returned (.bool true) ∧ Below w.heap.size w w' := by
  unfold maxLen at hn
  by_cases h1 : (n : Int) > 2000
  · clear h
    go_enter Try.func4, Try.ntmps4
    go_wp2_with fail
    refine (hawake_any _).mono ?_
    rintro e w7 ⟨rfl, hb7⟩
    go_wp2_with fail
    go_ret
    exact ⟨rfl, hb7⟩
  have hn2 : n ≤ 2000 := by omega
  have hl : r.length = n := rd_len h
  have hr5 : r.length ≤ 100000 := by omega
  obtain ⟨v, hv⟩ : ∃ v, sizV r = v := ⟨_, rfl⟩
  have C5 := fun w1 (hb : Below w.heap.size w w1) => size_any A n c r w1 ((h.below hb).more hb.size) hn2 hr64 v hv
  have H5 := Lib.hid C5
  clear C5
  rcases ctsV_cases r with ⟨_, e⟩ | ⟨hc, _, _⟩ | ⟨hc, _, hnb⟩
  · omega
  · have C1 := encode_any A n c r w h hn2 hr64 ([], 70) (by unfold encV; rw [hc]; rfl)
    have hv0 : v = 0 := by rw [← hv, sizV, hc]; rfl
    subst hv0
    clear hc hv h
    go_enter Try.func4, Try.ntmps4
    go_wp2_with fail
    refine C1.mono ?_
    clear C1
    rintro e w1 ⟨rfl, HB1⟩
    go_wp2_with fail
    refine (H5.out w1 HB1).mono ?_
    rintro e w6 ⟨rfl, hb6⟩
    have HB6 := HB1.trans (hb6.mono HB1.size)
    clear hb6 HB1
    go_wp2_with fail
    refine (hawake_any w6).mono ?_
    rintro e w8 ⟨rfl, hb8⟩
    go_wp2_with fail
    go_ret
    exact ⟨rfl, HB6.trans (hb8.mono HB6.size)⟩
  · have C1 := encode_any A n c r w h hn2 hr64 (textB (hufB r), 0) (by unfold encV; rw [hc]; rfl)
    have hv0 : (hufB r).length = v := by rw [← hv, sizV, hc]; rfl
    have htl := textB_len (hufB r)
    have hpos := bits_some r hr5
    have hlen := hufB_len r (by omega) hnb
    have d1 := dec_back r hr5 hnb
    have d2 := dec_more r hr5 hnb
    have d3 := dec_cut r hr5 hnb ((textB (hufB r)).length - 1) (by omega)
    obtain ⟨t, ht⟩ : ∃ t, textB (hufB r) = t := ⟨_, rfl⟩
    rw [ht] at C1 htl d1 d2 d3
    rw [hv0] at htl hpos hlen
    rw [hl] at d1 d2 d3
    clear ht hv0 hv hc
    obtain ⟨q, hq⟩ : ∃ q, t.length = q + 1 := ⟨t.length - 1, by omega⟩
    obtain ⟨y, hy⟩ : ∃ y, decV (t ++ [0]) n = y := ⟨_, rfl⟩
    obtain ⟨z, hz⟩ : ∃ z, decV (t.take ((v + 7) / 8 - 1)) n = z := ⟨_, rfl⟩
    rw [hy] at d2
    rw [htl, hz] at d3
    have D1 := Lib.hid (fun w1 => decode_any t n w1 (by omega) (by omega) _ d1)
    have D2 := Lib.hid (fun w1 => decode_any (t ++ [0]) n w1 (by omega) (by simp; omega) _ hy)
    have D3 := Lib.hid (fun w1 => decode_any (t.take ((v + 7) / 8 - 1)) n w1 (by omega) (by rw [List.length_take]; omega) _ hz)
    obtain ⟨y1, y2⟩ := y
    obtain ⟨z1, z2⟩ := z
    have e4 : (((t.length : Nat) : Int) != ((v : Int) + 7) / 8) = false := by rw [htl]; simp; try omega
    have e5 : ¬ ((t.length : Nat) : Int) < 1 := by omega
    have e6 : ((t.length : Nat) : Int) - 1 = ((t.length - 1 : Nat) : Int) := by omega
    have e7 : (y2 != 0) = true := by simpa using d2
    have e8 : (z2 != 0) = true := by simpa using d3
    have HR := Lib.hid h
    clear d1 hy hz h d2 d3
    go_enter Try.func4, Try.ntmps4
    go_wp2_with fail
    refine C1.mono ?_
    clear C1
    rintro e w1 ⟨rfl, HB1⟩
    go_wp2_with fail
    refine (D1.out w1).mono ?_
    clear D1
    rintro e w2 ⟨A2, n2, c2, rfl, hc2, r2, hb2⟩
    have HB2 := HB1.trans (hb2.mono HB1.size)
    clear hb2 HB1
    have h22 := rd_len r2
    have C9 := same_any A2 A n2 c2 n c r r w2 r2 ((HR.out.below HB2).more HB2.size) (by omega) (by omega)
    rw [decide_eq_true (rfl : r = r)] at C9
    clear h22 r2
    go_wp2_with fail
    refine C9.mono ?_
    clear C9
    rintro e w3 ⟨rfl, hb3⟩
    have HB3 := HB2.trans (hb3.mono HB2.size)
    clear hb3 HB2
    go_wp2_with fail
    refine (H5.out w3 HB3).mono ?_
    clear H5
    rintro e w4 ⟨rfl, hb4⟩
    have HB4 := HB3.trans (hb4.mono HB3.size)
    clear hb4 HB3
    go_wp2_with fail
    try rw [ext_take]
    refine (D3.out w4).mono ?_
    clear D3
    rintro e w5 ⟨A5, n5, c5, rfl, hc5, r5, hb5⟩
    have HB5 := HB4.trans (hb5.mono HB4.size)
    clear hb5 HB4 r5
    go_wp2_with fail
    try rw [str_cat]
    refine (D2.out w5).mono ?_
    clear D2
    rintro e w6 ⟨A6, n6, c6, rfl, hc6, r6, hb6⟩
    have HB6 := HB5.trans (hb6.mono HB5.size)
    clear hb6 HB5 r6
    go_wp2_with fail
    refine (hawake_any w6).mono ?_
    rintro e w8 ⟨rfl, hb8⟩
    go_wp2_with fail
    go_ret
    exact ⟨rfl, HB6.trans (hb8.mono HB6.size)⟩
end HufW
end Go.Proofs.Ytdfclgpkhfpkhaa
