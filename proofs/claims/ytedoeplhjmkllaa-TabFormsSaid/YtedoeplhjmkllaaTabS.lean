/- The walks of tab's reference: Pack, Size; tab's Unpack; some fixed answers. -/
import Derived.Test.YtedoeplhjmkllaaTabR
import Derived.Test.YtedoeplhjmkllaaSame
namespace Go.Proofs.Ytedoeplhjmkllaa
set_option linter.unusedVariables false
set_option linter.unusedSimpArgs false
set_option linter.unnecessarySimpa false
open Go.RowKit
namespace TabW
open LenW (okL okL_at chkL chk0 check_any refCheck_any)
open BitW (rdr RLeft left_any bc bc_len refText_any rd_bclen)

set_option maxRecDepth 100000 in
set_option maxHeartbeats 4000000 in
theorem refPack_tab (A : Option Addr) (n c : Nat) (l : List Int) (w : World) (h : Rd w w.heap.size 1 A n (ints l)) (hn : n ≤ 1000000) (x : List UInt8 × Int) (hx : (if chkL l = 0 then (textB (tabB l), 0) else ([], chkL l)) = x) :
    Calls Try.prog 29 #[.slice A n c] w fun e w' => e = .returned (.tuple #[str x.1, .int .i64 x.2]) ∧ Below w.heap.size w w' := by
  have C := refCheck_any A n c l w h hn _ rfl
  by_cases hk : chkL l = 0
  · rw [hk] at C
    rw [if_pos hk] at hx
    subst hx
    have C2 := refBits_tab A n c l w h hk _ rfl
    have htl := tabB_len hk
    have HLT := Lib.hid (runsB_lt (rle l))
    have HTB := Lib.hid (show tabB l = runsB (rle l) from rfl)
    clear hk
    go_enter Try.func29, Try.ntmps29
    go_wp2_with fail
    refine C.mono ?_
    clear C
    rintro e w1 ⟨rfl, rfl⟩
    go_wp2_with fail
    refine C2.mono ?_
    clear C2
    rintro e w2 ⟨A2, n2, c2, rfl, o2, hb2⟩
    have e2 := rd_bclen o2.rd
    have C := refText_any A2 n2 c2 (tabB l) w2 o2.rd (by omega) (by rw [HTB.out]; exact HLT.out)
    clear e2
    go_wp2_with fail
    refine C.mono ?_
    clear C
    rintro e w3 ⟨rfl, hb3⟩
    go_wp2_with fail
    go_ret2
    exact ⟨rfl, hb2.trans (hb3.mono hb2.size)⟩
  · rw [if_neg hk] at hx
    obtain ⟨v, hv⟩ : ∃ v, chkL l = v := ⟨_, rfl⟩
    rw [hv] at hk C hx
    subst hx
    have hvI : (v != 0) = true := by simp [hk]
    clear hv
    go_enter Try.func29, Try.ntmps29
    go_wp2_with fail
    refine C.mono ?_
    clear C
    rintro e w1 ⟨rfl, rfl⟩
    go_wp2_with fail
    go_ret2
    exact ⟨rfl, Below.refl _ _⟩
set_option maxRecDepth 100000 in
set_option maxHeartbeats 4000000 in
theorem refSize_tab (A : Option Addr) (n c : Nat) (l : List Int) (w : World) (h : Rd w w.heap.size 1 A n (ints l)) (hn : n ≤ 1000000) (k : Nat) (hs : sizeT l = k) :
    Calls Try.prog 31 #[.slice A n c] w fun e w' => e = .returned (.int .i64 k) ∧ Below w.heap.size w w' := by
  have C := refCheck_any A n c l w h hn _ rfl
  unfold sizeT at hs
  by_cases hk : chkL l = 0
  · rw [hk] at C
    rw [if_pos hk] at hs
    subst hs
    have C2 := refBits_tab A n c l w h hk _ rfl
    clear hk
    go_enter Try.func31, Try.ntmps31
    go_wp2_with fail
    refine C.mono ?_
    clear C
    rintro e w1 ⟨rfl, rfl⟩
    go_wp2_with fail
    refine C2.mono ?_
    clear C2
    rintro e w2 ⟨A2, n2, c2, rfl, o2, hb2⟩
    have e2 := rd_bclen o2.rd
    have E2 := Lib.hid e2
    clear e2
    go_wp2_with fail
    go_ret
    exact ⟨by rw [E2.out]; rfl, hb2⟩
  · rw [if_neg hk] at hs
    obtain ⟨v, hv⟩ : ∃ v, chkL l = v := ⟨_, rfl⟩
    rw [hv] at hk C
    subst hs
    have hvI : (v != 0) = true := by simp [hk]
    clear hv
    go_enter Try.func31, Try.ntmps31
    go_wp2_with fail
    refine C.mono ?_
    clear C
    rintro e w1 ⟨rfl, rfl⟩
    go_wp2_with fail
    go_ret
    exact ⟨rfl, Below.refl _ _⟩
set_option maxRecDepth 100000 in
set_option maxHeartbeats 4000000 in
theorem tunpack_any (s : List UInt8) (n : Nat) (w : World) (hn : n ≤ 257) (hs : s.length ≤ 100000) (x : List Int × Nat × Int) (hx : tabG s n = x) (at_ : Nat) (ha : (if x.2.2 = 0 then x.2.1 else 0) = at_) (hle : at_ ≤ 8 * s.length) :
    Calls Try.prog 35 #[str s, .int .i64 n] w fun e w' => ∃ A2 n2 c2, e = .returned (.tuple #[.slice A2 n2 c2, .int .i64 at_, .int .i64 x.2.2]) ∧ n2 ≤ c2 ∧ Rd w' w'.heap.size 1 A2 n2 (ints x.1) ∧ Below w.heap.size w w' := by
  have bR := Blk.new w 86 (rdr s 0)
  have HB1 : Below w.heap.size w (w.alloc (.cells (rdr s 0) 86)) := (Below.refl _ _).alloc (Nat.le_refl _) _
  have C := tget_any w.heap.size s n _ bR hn hs x hx
  rw [ha] at C
  have HLE := Lib.hid (show (8 : Int) * (s.length : Int) - ((8 * s.length - at_ : Nat) : Int) = (at_ : Int) by omega)
  clear ha hx
  go_enter Try.func35, Try.ntmps35
  go_wp2_with fail
  refine (BitW.new_any s w).mono ?_
  rintro e w1 ⟨rfl, rfl⟩
  go_wp2_with fail
  refine C.mono ?_
  clear C
  rintro e w2 ⟨A2, n2, c2, rfl, hc2, r2, hR⟩
  have hb2 : Below w.heap.size w w2 := HB1.trans ⟨hR.2.os, hR.2.tape, hR.2.output, hR.2.size, fun b hb => hR.2.block b (by simp; omega) (by simp; omega)⟩
  have C := left_any w.heap.size s at_ w2 hR.1 hle (by omega)
  go_wp2_with fail
  refine C.mono ?_
  clear C
  rintro e w3 ⟨rfl, nq, rfl⟩
  go_wp2_with fail
  try rw [HLE.out]
  go_ret3
  exact ⟨A2, n2, c2, rfl, hc2, r2.below ((Below.refl _ w2).drewN_ nq), hb2.drewN_ nq⟩
set_option maxRecDepth 100000 in
set_option maxHeartbeats 4000000 in
theorem tawake_any (w : World) :
    Calls Try.prog 27 #[] w fun e w' => e = .returned (.bool true) ∧ Below w.heap.size w w' := by
  have hk0 : chkL [2, 1, 2] = 0 := by decide +kernel
  go_enter Try.func27, Try.ntmps27
  go_wp2_with fail
  have HB := (Below.refl w.heap.size w).alloc (Nat.le_refl _) (.cells (ints [2, 1, 2]).toArray 3)
  have r1 := rd_new (W0 := w) (t := 3) (cs := ints [2, 1, 2]) (size := 1) (m := 3) rfl rfl
  refine (tpack_yes (some ⟨w.heap.size, 0, none⟩) 3 3 [2, 1, 2] _ (r1.more (by simp)) (by omega) hk0 [40, 202] (by decide +kernel)).mono ?_
  rintro e w1 ⟨rfl, hb1⟩
  replace HB := HB.trans (hb1.mono HB.size)
  clear hb1 r1
  go_wp2_with fail
  refine (tunpack_any [40, 202] 3 w1 (by omega) (by decide) ([2, 1, 2], 15, 0) (by decide +kernel) 15 rfl (by decide)).mono ?_
  rintro e w2 ⟨A2, n2, c2, rfl, hc2, o2, hb2⟩
  replace HB := HB.trans (hb2.mono HB.size)
  clear hb2
  obtain rfl : 3 = n2 := rd_len o2
  go_wp2_with fail
  refine (tunpack_any [40, 202] 4 w2 (by omega) (by decide) ([], 0, 4) (by decide +kernel) 0 rfl (by decide)).mono ?_
  rintro e w3 ⟨A3, n3, c3, rfl, hc3, o3, hb3⟩
  replace HB := HB.trans (hb3.mono HB.size)
  have o2' := (o2.below hb3).more hb3.size
  clear hb3 o3 o2
  go_wp2_with fail
  have r4 := rd_new (W0 := w3) (t := 3) (cs := ints [2, 1, 2]) (size := 1) (m := 3) rfl rfl
  have HB4 := HB.alloc HB.size (.cells (ints [2, 1, 2]).toArray 3)
  have C9 := same_any A2 (some ⟨w3.heap.size, 0, none⟩) 3 c2 3 3 [2, 1, 2] [2, 1, 2] _ ((o2'.below ((Below.refl _ w3).alloc (Nat.le_refl _) (.cells (ints [2, 1, 2]).toArray 3))).more (by simp)) (r4.more (by simp)) (by omega) (by omega)
  refine C9.mono ?_
  rintro e w5 ⟨rfl, hb5⟩
  have HB5 := HB4.trans (hb5.mono HB4.size)
  clear C9 r4 o2' hb5
  go_wp2_with fail
  have r6 := rd_new (W0 := w5) (t := 3) (cs := ints [2, 1, 2]) (size := 1) (m := 3) rfl rfl
  have HB6 := HB5.alloc HB5.size (.cells (ints [2, 1, 2]).toArray 3)
  refine (tsize_any (some ⟨w5.heap.size, 0, none⟩) 3 3 [2, 1, 2] _ (r6.more (by simp)) (by omega) 15 (by decide +kernel)).mono ?_
  rintro e w7 ⟨rfl, hb7⟩
  have HB7 := HB6.trans (hb7.mono HB6.size)
  go_wp2_with fail
  refine (tput_nil _ w7).mono ?_
  rintro e w8 ⟨rfl, rfl⟩
  go_wp2_with fail
  go_ret
  exact ⟨rfl, HB7⟩
end TabW
end Go.Proofs.Ytedoeplhjmkllaa
