/- The walk of HuffBest. -/
import Derived.Test.YtdfclgpkhfpkhaaHufH
namespace Go.Proofs.Ytdfclgpkhfpkhaa
set_option linter.unusedVariables false
set_option linter.unusedSimpArgs false
set_option linter.unnecessarySimpa false
open Go.RowKit
namespace HufW
open LenW (chkL symsB symsOk chk0 costW cost_any best_yes refCheck_any)

set_option maxRecDepth 100000 in
set_option maxHeartbeats 4000000 in
theorem huf_best_law (A A2 : Option Addr) (n c n2 c2 : Nat) (r o : List Int) (w : World) (h : Rd w w.heap.size 1 A n (ints r)) (h2 : Rd w w.heap.size 1 A2 n2 (ints o)) (hn : n ≤ maxLen) (hn2 : n2 ≤ maxLen) (hr64 : ∀ x ∈ r, I64 x) (ho64 : ∀ x ∈ o, I64 x) :
    Calls Try.prog 5 #[.slice A n c, .slice A2 n2 c2] w fun e w' => e = .returned (.bool true) ∧ Below w.heap.size w w' := by
  unfold maxLen at hn hn2
  have hcase : (n : Int) > 2000 ∨ (¬ (n : Int) > 2000 ∧ (n2 : Int) > 257) ∨ (¬ (n : Int) > 2000 ∧ ¬ (n2 : Int) > 257) := by omega
  rcases hcase with h1 | ⟨h1, h3⟩ | ⟨h1, h3⟩
  iterate 2
    clear h h2
    go_enter Try.func5, Try.ntmps5
    go_wp2_with fail
    refine (hawake_any _).mono ?_
    rintro e w7 ⟨rfl, hb7⟩
    go_wp2_with fail
    go_ret
    exact ⟨rfl, hb7⟩
  have hl : r.length = n := rd_len h
  have hlo : o.length = n2 := rd_len h2
  have hr5 : r.length ≤ 100000 := by omega
  obtain ⟨k, hk⟩ : ∃ k, chkL o = k := ⟨_, rfl⟩
  have CK := refCheck_any A2 n2 c2 o w h2 (by omega) k hk
  by_cases hk0 : k = 0
  · subst hk0
    have CC := counts_any A n c r w h (by omega) hr64
    rcases ctsV_cases r with ⟨_, e⟩ | ⟨hc, _, _⟩ | ⟨hc, _, hnb⟩
    · omega
    · clear hk h h2
      go_enter Try.func5, Try.ntmps5
      go_wp2_with fail
      refine CK.mono ?_
      clear CK
      rintro e w1 ⟨rfl, rfl⟩
      go_wp2_with fail
      refine CC.mono ?_
      clear CC
      rintro e w2 ⟨⟨_, rfl⟩ | ⟨hc2, _⟩, HB⟩
      · go_wp2_with fail
        refine (hawake_any _).mono ?_
        rintro e w7 ⟨rfl, hb7⟩
        go_wp2_with fail
        go_ret
        exact ⟨rfl, HB.trans (hb7.mono HB.size)⟩
      · rw [hc] at hc2
        cases (Prod.mk.inj hc2).2
    · have hkk := bL_chk r hr5
      have hco := cost_bits r hr5 hnb
      have hbl := bL_len r hr5
      have hcl := ctsL_len r
      have HLE := Lib.hid (fun q => huf_least r o hr5 hnb hk q)
      have HNB := Lib.hid (any_false hnb)
      have hsz : sizV r = (TabW.tabB (bL r)).length + (symsB (bL r) r).length := by rw [sizV, hc, if_pos rfl, hufB, List.length_append]
      have htl := TabW.tabB_len hkk
      have hsl := LenW.symsB_len (bL r) hkk r (bL_ok r hr5 hnb)
      have C5 := fun w1 (hb : Below w.heap.size w w1) => size_any A n c r w1 ((h.below hb).more hb.size) (by omega) hr64 _ hsz
      have CS := fun A w1 (h : Rd w1 w1.heap.size 1 A 257 (ints (bL r))) => TabW.tsize_any A 257 257 (bL r) w1 h (by omega) _ (by rw [TabW.sizeT, if_pos hkk])
      obtain ⟨tb, htb⟩ : ∃ tb, (TabW.tabB (bL r)).length = tb := ⟨_, rfl⟩
      obtain ⟨sb, hsb⟩ : ∃ sb, (symsB (bL r) r).length = sb := ⟨_, rfl⟩
      rw [htb] at htl C5 CS
      rw [hsb] at hsl C5 hco
      obtain ⟨oc, hoc⟩ : ∃ oc, costW (ctsL r) o = oc := ⟨_, rfl⟩
      rw [hco, hoc] at HLE
      have H5 := Lib.hid C5
      have HS := Lib.hid CS
      have CB := fun A w1 (h : Rd w1 w1.heap.size 1 A 257 (ints (ctsL r))) => best_yes A 257 257 (ctsL r) 15 w1 h (refuse_cts r hr5) (LenW.sort_ok _ (Nat.le_trans (LenW.usedL_le _) (by omega)))
      have HCB := Lib.hid CB
      have HO := Lib.hid h2
      have HR := Lib.hid h
      have H64 := Lib.hid hr64
      have HCO := Lib.hid hco
      have HOC := Lib.hid hoc
      clear hk hkk hco hnb hsz C5 CS htb hsb h2 hr64 hoc CB
      go_enter Try.func5, Try.ntmps5
      go_wp2_with fail
      refine CK.mono ?_
      clear CK
      rintro e w1 ⟨rfl, rfl⟩
      go_wp2_with fail
      refine CC.mono ?_
      clear CC
      rintro e w2 ⟨⟨hc2, _⟩ | ⟨_, rfl, g1⟩, HB⟩
      · rw [hc] at hc2
        cases (Prod.mk.inj hc2).2
      have rc := (Rd.of_blk (size := 1) (m := 257) g1 (by rw [ints_len, hcl])).more (Nat.succ_le_of_lt g1.lt)
      have hg1 := g1.lt
      have C := HCB.out _ w2 rc
      clear HCB hc
      go_wp2_with fail
      refine C.mono ?_
      clear C
      rintro e w3 ⟨g, hg2, hg3, rfl, bg, hb3⟩
      replace bg : Blk w3 g 3 (ints (bL r)).toArray := bg
      have rl := (Rd.of_blk (size := 1) (m := 257) bg (by rw [ints_len, hbl])).more (show g + 1 ≤ w3.heap.size by omega)
      have rc3 := (rc.below hb3).more hb3.size
      have HB3 := HB.trans (hb3.mono HB.size)
      clear rc g1 bg hb3 HB
      go_wp2_with fail
      go_loopw [9] (fun i wr => ∃ k nq : Nat, i = .int .i64 (k : Int) ∧ k ≤ n ∧ (∀ x ∈ r.take k, ∃ y, o[x.toNat]? = some y ∧ y ≠ 0) ∧ wr = w3.drewN nq) (fun i _ => n - (intOf i).toNat)
      case atStart => exact ⟨0, 0, rfl, by omega, by simp, rfl⟩
      case round =>
        obtain ⟨k, nq, rfl, hk, hall, rfl⟩ := hrel
        have HALL := Lib.hid hall
        clear hall
        have HB4 := HB3.drewN_ nq
        by_cases hlt : k < n
        · have hkl : k < r.length := by omega
          have hkI : (k : Int) < (n : Int) := by omega
          have hk0 : (0 : Int) ≤ (k : Int) := by omega
          obtain ⟨b, q1, rfl, hb, hcc⟩ := rd_ints (HR.out.below HB3) (by omega)
          have d0 : w3.cell? ⟨b, q1 + k, none⟩ = some (.int .i64 r[k]) := hcc k hkl
          have hy0 := HNB.out r[k] (List.getElem_mem hkl)
          have hadd : IntKind.i64.wrap ((k : Int) + 1) = (k : Int) + 1 := LenW.w64k (by omega) (by omega)
          have HT := Lib.hid (List.take_succ_eq_append_getElem hkl)
          obtain ⟨y, hy⟩ : ∃ y : Nat, r[k] = (y : Int) := ⟨r[k].toNat, by omega⟩
          rw [hy] at d0 hy0
          rw [hy] at HT
          clear hcc hy
          by_cases hyo : y < n2
          · have hyl : y < o.length := by omega
            have hyI : ¬ (n2 : Int) ≤ (y : Int) := by omega
            have hyI2 : (y : Int) < (n2 : Int) := by omega
            have hyN : (0 : Int) ≤ (y : Int) := by omega
            obtain ⟨b2, q2, rfl, hb2, hcc2⟩ := rd_ints (HO.out.below HB3) (by omega)
            have d1 : w3.cell? ⟨b2, q2 + y, none⟩ = some (.int .i64 o[y]) := hcc2 y hyl
            have HOY := Lib.hid (show o[y]? = some o[y] from List.getElem?_eq_getElem hyl)
            obtain ⟨z, hz⟩ : ∃ z, o[y] = z := ⟨_, rfl⟩
            rw [hz] at d1 HOY
            clear hcc2 hz
            by_cases hz0 : z = 0
            · subst hz0
              go_wp2_with fail
              refine (hawake_any _).mono ?_
              rintro e w7 ⟨rfl, hb7⟩
              go_wp2_with fail
              go_ret
              exact ⟨rfl, HB4.trans (hb7.mono HB4.size)⟩
            · have hzI : (z == 0) = false := by simp [hz0]
              have HN := Lib.hid (show ∀ x ∈ r.take (k + 1), ∃ y, o[x.toNat]? = some y ∧ y ≠ 0 by
                rw [HT.out]
                intro x hx
                rcases List.mem_append.1 hx with hx | hx
                · exact HALL.out x hx
                · obtain rfl := List.mem_singleton.1 hx
                  exact ⟨z, by rw [Int.toNat_natCast]; exact HOY.out, hz0⟩)
              clear HALL HT HOY
              go_wp2_with fail
              go_roundw
              case rel => exact ⟨k + 1, _, by go_num, by omega, HN.out, by first | rfl | exact World.drewN_drewN _ _ _⟩
              case measure => simp [intOf]; omega
          · have hyI : (n2 : Int) ≤ (y : Int) := by omega
            go_wp2_with fail
            refine (hawake_any _).mono ?_
            rintro e w7 ⟨rfl, hb7⟩
            go_wp2_with fail
            go_ret
            exact ⟨rfl, HB4.trans (hb7.mono HB4.size)⟩
        · have hkI : ¬ (k : Int) < (n : Int) := by omega
          have hle : (sb : Int) ≤ oc := HLE.out (by have := HALL.out; rwa [List.take_of_length_le (by omega)] at this)
          have rlW := rl.below ((Below.refl w3.heap.size w3).drewN_ nq)
          have rcW := rc3.below ((Below.refl w3.heap.size w3).drewN_ nq)
          clear rl rc3 HALL HLE HB3
          go_wp2_with fail
          refine (H5.out _ HB4).mono ?_
          rintro e w4 ⟨rfl, hb5⟩
          have HB5 := HB4.trans (hb5.mono HB4.size)
          have hz5 := hb5.size
          have rl5 := (rlW.below hb5).more hz5
          have rc5 := (rcW.below hb5).more hz5
          clear rlW rcW hb5 hz5
          go_wp2_with fail
          refine (HS.out _ _ rl5).mono ?_
          rintro e w5 ⟨rfl, hb6⟩
          have HB6 := HB5.trans (hb6.mono HB5.size)
          have hz6 := hb6.size
          have rl6 := (rl5.below hb6).more hz6
          have rc6 := (rc5.below hb6).more hz6
          clear rl5 rc5 hb6 hz6
          go_wp2_with fail
          refine (cost_any _ A2 257 257 n2 c2 (ctsL r) o w5 rc6 ((HO.out.below HB6).more HB6.size) (by omega) (by omega) _ HOC.out).mono ?_
          rintro e w6 ⟨rfl, hb7⟩
          have HB7 := HB6.trans (hb7.mono HB6.size)
          have hz7 := hb7.size
          have rl7 := (rl6.below hb7).more hz7
          have rc7 := (rc6.below hb7).more hz7
          clear rl6 rc6 hb7 hz7
          have hsub : ((tb + sb : Nat) : Int) - (tb : Int) = (sb : Int) := by omega
          go_wp2_with fail
          refine (H5.out _ HB7).mono ?_
          rintro e w8 ⟨rfl, hb8⟩
          have HB8 := HB7.trans (hb8.mono HB7.size)
          have hz8 := hb8.size
          have rl8 := (rl7.below hb8).more hz8
          have rc8 := (rc7.below hb8).more hz8
          clear rl7 rc7 hb8 hz8
          go_wp2_with fail
          refine (HS.out _ _ rl8).mono ?_
          rintro e w9 ⟨rfl, hb9⟩
          have HB9 := HB8.trans (hb9.mono HB8.size)
          have hz9 := hb9.size
          have rl9 := (rl8.below hb9).more hz9
          have rc9 := (rc8.below hb9).more hz9
          clear rl8 rc8 hb9 hz9
          go_wp2_with fail
          refine (cost_any _ _ 257 257 257 257 (ctsL r) (bL r) w9 rc9 rl9 (by omega) (by omega) _ HCO.out).mono ?_
          rintro e w10 ⟨rfl, hb10⟩
          have HB10 := HB9.trans (hb10.mono HB9.size)
          clear rl9 rc9 hb10
          go_wp2_with fail
          refine (hawake_any w10).mono ?_
          rintro e w11 ⟨rfl, hb11⟩
          go_wp2_with fail
          go_ret
          exact ⟨rfl, HB10.trans (hb11.mono HB10.size)⟩
  · have hk0I : (k != 0) = true := by simp [hk0]
    clear h h2 hk
    go_enter Try.func5, Try.ntmps5
    go_wp2_with fail
    refine CK.mono ?_
    clear CK
    rintro e w1 ⟨rfl, rfl⟩
    go_wp2_with fail
    refine (hawake_any _).mono ?_
    rintro e w7 ⟨rfl, hb7⟩
    go_wp2_with fail
    go_ret
    exact ⟨rfl, hb7⟩
end HufW
end Go.Proofs.Ytdfclgpkhfpkhaa
