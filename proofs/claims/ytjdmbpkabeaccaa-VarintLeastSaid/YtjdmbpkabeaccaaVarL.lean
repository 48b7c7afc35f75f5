/- Walks over package varint and its reference: lists. -/
import Derived.Test.YtjdmbpkabeaccaaVarU
import Derived.Test.YtjdmbpkabeaccaaRecW
import Derived.Test.YtjdmbpkabeaccaaParts
namespace Go.Proofs.Ytjdmbpkabeaccaa
set_option linter.unusedVariables false
set_option linter.unusedSimpArgs false
set_option linter.unnecessarySimpa false
open Go.RowKit
namespace VarW

set_option maxRecDepth 100000 in
set_option maxHeartbeats 2000000 in
theorem list_any (A : Option Addr) (n c : Nat) (l : List Int) (w : World) (h : Rd w w.heap.size 1 A n (ints l)) (hn : n ≤ 1000000) (h64 : ∀ x ∈ l, I64 x) :
    Calls Try.prog 26 #[.slice A n c] w fun e w' => e = .returned (.tuple #[str (listV l).1, .int .i64 (listV l).2]) ∧ Below w.heap.size w w' := by
  have hl := rd_len h
  have hl1 : l.length ≤ n := by omega
  have hl2 : n ≤ l.length := by omega
  have HLN := Lib.hid hl
  have H64 := Lib.hid h64
  clear hl h64
  go_enter Try.func26, Try.ntmps26
  go_wp2_with fail
  refine (add_any none 0 0 w.heap.size [] n w (by omega) (.inl (Own.nil _ _ _ _)) (by omega) (Nat.le_refl _)).mono ?_
  rintro e w1 ⟨A1, c1, rfl, o1, hb1⟩
  rw [List.nil_append, Nat.zero_add] at o1
  have hv1 := vlen_le n
  go_wp2_with fail
  go_loopw [4, 12] (fun b i wr => ∃ (k : Nat) (A2 : Option Addr) (n2 c2 : Nat), i = .int .i64 k ∧ b = .slice A2 n2 c2 ∧ k ≤ n ∧ n2 ≤ 9 + 9 * k ∧ (∀ x ∈ l.take k, 0 ≤ x) ∧ Own wr w.heap.size 5 1 A2 n2 c2 (byts (vbytes n ++ lput (l.take k))) ∧ Below w.heap.size w wr) (fun _ i _ => n - (intOf i).toNat)
  case atStart => exact ⟨0, A1, vlen n, c1, rfl, by first | rfl | simp, by omega, by omega, by simp, by simpa [lput] using o1, hb1⟩
  case round =>
    obtain ⟨k, A2, n2, c2, rfl, rfl, hk, hn2, hall, o2, hbw⟩ := hrel
    have HA := Lib.hid hall
    have hsz := hbw.size
    clear hall
    by_cases hlt : k < n
    · have hkl : k < l.length := by omega
      obtain ⟨b, o, rfl, hb, hc⟩ := rd_ints (h.below hbw) (by omega)
      have d0 := hc k hkl
      obtain ⟨x, hx⟩ : ∃ x, l[k] = x := ⟨_, rfl⟩
      have hx64 := H64.out l[k] (List.getElem_mem hkl)
      rw [hx] at d0 hx64
      obtain ⟨q1, q2⟩ := hx64
      have HX := Lib.hid hx
      have HS := Lib.hid (lput_snoc l k hkl)
      clear hc hx
      by_cases hneg : x < 0
      · have HV := Lib.hid (listV_no hkl (by rw [HX.out]; exact hneg))
        go_wp2_with fail
        go_ret2
        rw [HV.out]
        exact ⟨rfl, hbw⟩
      · obtain ⟨y, rfl⟩ := Int.eq_ofNat_of_zero_le (show 0 ≤ x by omega)
        have hny : ¬ (y : Int) < 0 := by omega
        obtain ⟨ie, _, hie, _, hsz1, _⟩ := El_u8.inf
        have hcap := o2.cap
        have hsl := run_slice_head (P := Try.prog) Try.underlying69 hie (by rw [hsz1]; exact o2.rd) c2 n2 (Nat.le_refl _) hcap
        have hv2 := vlen_le y
        clear hneg
        go_wp2_with fail
        refine (add_any A2 n2 n2 w.heap.size _ y wr (by omega) (.inr ⟨rfl, o2.rd⟩) (by omega) hsz).mono ?_
        rintro e w3 ⟨A3, c3, rfl, o3, hb3⟩
        clear hsl
        go_wp2_with fail
        go_roundw
        case rel =>
          refine ⟨k + 1, A3, n2 + vlen y, c3, by go_num, rfl, by omega, by omega, ?_, ?_, hbw.trans hb3⟩
          · intro z hz
            rw [List.take_succ_eq_append_getElem hkl, List.mem_append] at hz
            rcases hz with hz | hz
            · exact HA.out z hz
            · simp only [List.mem_singleton] at hz; rw [hz, HX.out]; omega
          · rw [HS.out, HX.out, Int.toNat_natCast, ← List.append_assoc]; exact o3
        case measure => simp [intOf]; omega
    · have HZ := Lib.hid (show l.take k = l from List.take_of_length_le (by omega))
      have HV := Lib.hid (listV_yes (l := l) (by have := HA.out; rwa [HZ.out] at this))
      have hcv := run_bytes_str (P := Try.prog) wr (c := c2) Try.underlying69 Try.underlying5 Try.underlying9 o2.rd
      go_wp2_with fail
      go_ret2
      rw [HV.out, HZ.out, HLN.out]
      exact ⟨rfl, hbw⟩

set_option maxRecDepth 100000 in
set_option maxHeartbeats 2000000 in
theorem refList_any (A : Option Addr) (n c : Nat) (l : List Int) (w : World) (h : Rd w w.heap.size 1 A n (ints l)) (hn : n ≤ 1000000) (h64 : ∀ x ∈ l, I64 x) :
    Calls Try.prog 27 #[.slice A n c] w fun e w' => e = .returned (.tuple #[str (listV l).1, .int .i64 (listV l).2]) ∧ Below w.heap.size w w' := by
  have hl := rd_len h
  have hl1 : l.length ≤ n := by omega
  have hl2 : n ≤ l.length := by omega
  have HLN := Lib.hid hl
  have H64 := Lib.hid h64
  clear hl h64
  go_enter Try.func27, Try.ntmps27
  go_wp2_with fail
  refine (RecW.refPut_any 9 n w (by omega) (by omega) (by omega)).mono ?_
  rintro e w1 ⟨rfl, hb1⟩
  have hv1 := vlen_le n
  go_wp2_with fail
  go_loopw [4, 6] (fun b i wr => ∃ (k : Nat) (o : List UInt8), i = .int .i64 k ∧ b = str o ∧ k ≤ n ∧ o.length ≤ 9 + 9 * k ∧ (∀ x ∈ l.take k, 0 ≤ x) ∧ o = vbytes n ++ lput (l.take k) ∧ Below w.heap.size w wr) (fun _ i _ => n - (intOf i).toNat)
  case atStart => exact ⟨0, vbytes n, rfl, rfl, by omega, by rw [vbytes_len]; omega, by simp, by simp [lput], hb1⟩
  case round =>
    obtain ⟨k, o, rfl, rfl, hk, hn2, hall, ho, hbw⟩ := hrel
    have HA := Lib.hid hall
    have HO := Lib.hid ho
    have hsz := hbw.size
    clear hall ho
    by_cases hlt : k < n
    · have hkl : k < l.length := by omega
      obtain ⟨b, o', rfl, hb, hc⟩ := rd_ints (h.below hbw) (by omega)
      have d0 := hc k hkl
      obtain ⟨x, hx⟩ : ∃ x, l[k] = x := ⟨_, rfl⟩
      have hx64 := H64.out l[k] (List.getElem_mem hkl)
      rw [hx] at d0 hx64
      obtain ⟨q1, q2⟩ := hx64
      have HX := Lib.hid hx
      have HS := Lib.hid (lput_snoc l k hkl)
      clear hc hx
      by_cases hneg : x < 0
      · have HV := Lib.hid (listV_no hkl (by rw [HX.out]; exact hneg))
        go_wp2_with fail
        refine (RecW.refPut_no x wr hneg).mono ?_
        rintro e w3 ⟨rfl, hb3⟩
        go_wp2_with fail
        go_ret2
        rw [HV.out]
        exact ⟨rfl, hbw.trans (hb3.mono hsz)⟩
      · obtain ⟨y, rfl⟩ := Int.eq_ofNat_of_zero_le (show 0 ≤ x by omega)
        have hv2 := vlen_le y
        rw [← vbytes_len] at hv2
        have hv3 : (vput 9 y).length ≤ 9 := hv2
        clear hneg
        go_wp2_with fail
        refine (RecW.refPut_any 9 y wr (by omega) (by omega) (by omega)).mono ?_
        rintro e w3 ⟨rfl, hb3⟩
        go_wp2_with fail
        go_roundw
        case rel =>
          refine ⟨k + 1, o ++ vbytes y, by go_num, by rw [ba_cat]; simp [vbytes], by omega, by rw [List.length_append]; omega, ?_, ?_, hbw.trans (hb3.mono hsz)⟩
          · intro z hz
            rw [List.take_succ_eq_append_getElem hkl, List.mem_append] at hz
            rcases hz with hz | hz
            · exact HA.out z hz
            · simp only [List.mem_singleton] at hz; rw [hz, HX.out]; omega
          · rw [HS.out, HX.out, Int.toNat_natCast, HO.out, List.append_assoc]
        case measure => simp [intOf]; omega
    · have HZ := Lib.hid (show l.take k = l from List.take_of_length_le (by omega))
      have HV := Lib.hid (listV_yes (l := l) (by have := HA.out; rwa [HZ.out] at this))
      go_wp2_with fail
      go_ret2
      rw [HV.out, HO.out, HZ.out, HLN.out]
      exact ⟨rfl, hbw⟩
end VarW
end Go.Proofs.Ytjdmbpkabeaccaa
