/- The walks of the reference of package huff: the bits of symbols; the bytes; how many bits. -/
import Derived.Test.YtdfclgpkhfpkhaaHufA
import Derived.Test.YtdfclgpkhfpkhaaLenN
import Derived.Test.YtdfclgpkhfpkhaaCanR
import Derived.Test.YtdfclgpkhfpkhaaTabG
namespace Go.Proofs.Ytdfclgpkhfpkhaa
set_option linter.unusedVariables false
set_option linter.unusedSimpArgs false
set_option linter.unnecessarySimpa false
open Go.RowKit
namespace HufW
open LenW (chkL usedL symsB symsOk wordV dgs wordsF refBest_yes refWords_yes refWord_yes symsB_len symsB_snoc)
open TabW (tabB tabB_len refBits_tab)
open BitW (El_int2 bc bc_len bc_app bc_one refText_any)

theorem hufB_len (r : List Int) (h : r.length ≤ 2000) (hb : r.any badS = false) : (hufB r).length ≤ 90000 := by
  have hk := bL_chk r (by omega)
  have h1 := tabB_len hk
  have h2 := symsB_len (bL r) hk r (bL_ok r (by omega) hb)
  unfold hufB
  rw [List.length_append]
  omega
set_option maxRecDepth 100000 in
set_option maxHeartbeats 4000000 in
theorem refBits_huf (A : Option Addr) (n c : Nat) (r : List Int) (w : World) (h : Rd w w.heap.size 1 A n (ints r)) (hn : n ≤ 2000) (hr64 : ∀ x ∈ r, I64 x) :
    Calls Try.prog 24 #[.slice A n c] w fun e w' => ((ctsV r = ([], 70) ∧ e = .returned (.tuple #[.slice none 0 0, .int .i64 70])) ∨
      (ctsV r = (ctsL r, 0) ∧ ∃ A2 n2 c2, e = .returned (.tuple #[.slice A2 n2 c2, .int .i64 0]) ∧ Own w' w.heap.size 3 1 A2 n2 c2 (bc (hufB r)) ∧ n2 = (hufB r).length)) ∧ Below w.heap.size w w' := by
  have C := refCounts_any A n c r w h (by omega) hr64
  have hl : r.length = n := rd_len h
  have H64 := Lib.hid hr64
  clear hr64
  go_enter Try.func24, Try.ntmps24
  go_wp2_with fail
  refine C.mono ?_
  clear C
  rintro e w1 ⟨⟨hc, rfl⟩ | ⟨hc, rfl, g1⟩, hb⟩
  · have HV := Lib.hid hc
    clear hc
    go_wp2_with fail
    go_ret2
    exact ⟨.inl ⟨HV.out, rfl⟩, hb⟩
  · have hnb : r.any badS = false := by
      rcases ctsV_cases r with ⟨e, _⟩ | ⟨e, _⟩ | ⟨_, _, e⟩
      · rw [hc] at e; cases (Prod.mk.inj e).2
      · rw [hc] at e; cases (Prod.mk.inj e).2
      · exact e
    have hr5 : r.length ≤ 100000 := by omega
    have HV := Lib.hid hc
    have HK := Lib.hid (bL_chk r hr5)
    have HOK := Lib.hid (fun y hy => bL_word r hr5 hnb y hy)
    have HALL := Lib.hid (bL_ok r hr5 hnb)
    have htl := tabB_len HK.out
    have hbl := bL_len r hr5
    have rc := Rd.of_blk (size := 1) (m := 257) g1 (by rw [ints_len, ctsL_len])
    have C := refBest_yes (some ⟨w.heap.size, 0, none⟩) 257 257 (ctsL r) 15 w1 (rc.more (by have := g1.lt; omega)) (refuse_cts r hr5)
    have hz := hb.size
    have HHB := Lib.hid (show hufB r = tabB (bL r) ++ symsB (bL r) r from rfl)
    clear hc hnb
    go_wp2_with fail
    refine C.mono ?_
    clear C
    rintro e w2 ⟨g, hg1, hg2, rfl, bg, hb2⟩
    replace bg : Blk w2 g 3 (ints (bL r)).toArray := bg
    obtain ⟨l, hl2⟩ : ∃ l, bL r = l := ⟨_, rfl⟩
    rw [hl2] at HK HOK HALL htl bg HHB hbl
    have rl := (Rd.of_blk (size := 1) (m := 257) bg (by rw [ints_len, hbl])).more (show g + 1 ≤ w2.heap.size by omega)
    have B2 := hb.trans (hb2.mono hz)
    have hz2 := B2.size
    clear hl2 g1 rc bg
    have C := refWords_yes (some ⟨g, 0, none⟩) 257 257 l w2 rl (by omega) HK.out
    go_wp2_with fail
    refine C.mono ?_
    clear C
    rintro e w3 ⟨rfl, bw, hb3⟩
    have B3 := B2.trans (hb3.mono hz2)
    have hz3 := hb3.size
    have C := refBits_tab (some ⟨g, 0, none⟩) 257 257 l w3 ((rl.below hb3).more hz3) HK.out _ rfl
    go_wp2_with fail
    refine C.mono ?_
    clear C
    rintro e w4 ⟨A4, n4, c4, rfl, o4, hb4⟩
    have B4 := B3.trans (hb4.mono (by omega))
    have hz4 := hb4.size
    have bw4 := bw.below hb4 bw.lt
    have hbwl := bw.lt
    clear bw
    clear rl
    obtain ⟨base, hbase⟩ : ∃ b, w3.heap.size = b := ⟨_, rfl⟩
    rw [hbase] at o4 hz4 hbwl
    have hwb : w.heap.size ≤ base := by have := B3.size; omega
    clear hbase
    go_wp2_with fail
    go_loopw [10, 11] (fun out i wr => ∃ (k n5 c5 : Nat) (A5 : Option Addr), out = .slice A5 n5 c5 ∧ i = .int .i64 k ∧ k ≤ n ∧ Own wr base 3 1 A5 n5 c5 (bc (tabB l ++ symsB l (r.take k))) ∧ base ≤ wr.heap.size ∧ Blk wr w2.heap.size 85 (fcells (wordsF l)).toArray ∧ Below w.heap.size w wr) (fun _ i _ => n - (intOf i).toNat)
    case atStart => exact ⟨0, n4, c4, A4, rfl, rfl, by omega, by simpa [symsB] using o4, hz4, bw4, B4⟩
    case round =>
      obtain ⟨k, n5, c5, A5, rfl, rfl, hk, o5, hzb, bw5, HB⟩ := hrel
      clear o4 bw4 B4
      have hsz := HB.size
      have hgl := bw5.lt
      have hn5 := o5.len
      rw [bc_len, List.length_append, Nat.mul_one] at hn5
      by_cases hlt : k < n
      · have hkl : k < r.length := by omega
        have hkI : (k : Int) < (n : Int) := by omega
        have hk0 : (0 : Int) ≤ (k : Int) := by omega
        obtain ⟨b, o, rfl, hb', hcc⟩ := rd_ints (h.below HB) (by omega)
        have d0 : wr.cell? ⟨b, o + k, none⟩ = some (.int .i64 r[k]) := hcc k hkl
        have h6 := H64.out r[k] (List.getElem_mem hkl)
        have HS := Lib.hid (symsB_snoc l r k hkl)
        have hfl : (symsB l (r.take k)).length ≤ 32 * (r.take k).length := symsB_len l HK.out (r.take k) (by
          have := HALL.out
          unfold LenW.symsOk at this ⊢
          rw [List.all_eq_true] at this ⊢
          intro y hy
          exact this y (List.mem_of_mem_take hy))
        rw [List.length_take] at hfl
        have hv := HOK.out r[k] (List.getElem_mem hkl)
        have hadd : IntKind.i64.wrap ((k : Int) + 1) = (k : Int) + 1 := w64k (by omega) (by omega)
        generalize hr : r[k] = y at *
        have rw5 := (Rd.of_blk (size := 2) (m := 257) bw5 (by rw [fcells_len, show (wordsF l).length = l.length by simp [wordsF], hbl])).more (show w2.heap.size + 1 ≤ wr.heap.size by omega)
        have C := refWord_yes (some ⟨w2.heap.size, 0, none⟩) 257 257 l HK.out y wr rw5 h6 hv
        clear hcc hr hv h6 rw5
        go_wp2_with fail
        refine C.mono ?_
        clear C
        rintro e w6 ⟨A6, k6, rfl, hk6, o6, hb6⟩
        have o7 := o5.below hb6
        have B6 := HB.trans (hb6.mono hsz)
        have bw6 := bw5.below hb6 hgl
        have hz6 := hb6.size
        have rd6 := o6.rd
        clear o5 bw5 HB
        go_wp2_with (at_builtin; with_reducible refine wp_append El_int2 rfl (s := .tmp 49) (x := .tmp 50) rfl rfl o7 rfl rd6 (bc_one _) (by unfold maxLen; omega) (by omega) (by omega) ?_; intro A8 c8 w8 o8 hg8 at8)
        have B8 := below_grown B6 hg8 o7 hwb
        have bw8 := bw6.grown hg8 (fun e => by have := o7.blk _ e.symm; omega)
        have hz8 := hg8.size
        rw [← bc_app, List.append_assoc] at o8
        clear o7 rd6 o6 at8 hg8 bw6 B6 d0
        go_wp2_with fail
        go_roundw
        case rel => exact ⟨k + 1, n5 + k6, c8, A8, rfl, by go_num, by omega, by rw [HS.out]; exact o8, by omega, bw8, B8⟩
        case measure => simp [intOf]; omega
      · have hkI : ¬ (k : Int) < (n : Int) := by omega
        rw [List.take_of_length_le (by omega), ← HHB.out] at o5
        have hle := o5.len
        rw [bc_len, Nat.mul_one] at hle
        go_wp2_with fail
        try rw [Exit.noGoto_ret]
        go_ret2
        exact ⟨.inr ⟨HV.out, A5, n5, c5, rfl, o5.base_le hwb, by first | exact hle.symm | rfl⟩, HB⟩
set_option maxRecDepth 100000 in
set_option maxHeartbeats 4000000 in
theorem refEncode_any (A : Option Addr) (n c : Nat) (r : List Int) (w : World) (h : Rd w w.heap.size 1 A n (ints r)) (hn : n ≤ 2000) (hr64 : ∀ x ∈ r, I64 x) (x : List UInt8 × Int) (hx : encV r = x) :
    Calls Try.prog 8 #[.slice A n c] w fun e w' => e = .returned (.tuple #[str x.1, .int .i64 x.2]) ∧ Below w.heap.size w w' := by
  have C := refBits_huf A n c r w h hn hr64
  have HX := Lib.hid hx
  clear hx
  go_enter Try.func8, Try.ntmps8
  go_wp2_with fail
  refine C.mono ?_
  clear C
  rintro e w1 ⟨⟨hc, rfl⟩ | ⟨hc, A2, n2, c2, rfl, o2, hn2⟩, hb⟩
  · have hx2 : x = ([], 70) := by rw [← HX.out, encV, hc]; rfl
    subst hx2
    clear hc
    go_wp2_with fail
    go_ret2
    exact ⟨rfl, hb⟩
  · have hx2 : x = (textB (hufB r), 0) := by rw [← HX.out, encV, hc]; rfl
    subst hx2
    have hbl := hufB_len r (by have := rd_len h; omega) (by
      rcases ctsV_cases r with ⟨e, _⟩ | ⟨e, _⟩ | ⟨_, _, e⟩
      · rw [hc] at e; cases (Prod.mk.inj e).2
      · rw [hc] at e; cases (Prod.mk.inj e).2
      · exact e)
    have h2 := hufB_lt r
    have hn6 : n2 ≤ 90000 := by omega
    obtain ⟨L, hL⟩ : ∃ L, hufB r = L := ⟨_, rfl⟩
    rw [hL] at o2 hbl h2
    have HLE := Lib.hid hL
    have rd2 := o2.rd
    have C := BitW.refText_any A2 n2 c2 L w1 rd2 (by omega) h2
    have hz := hb.size
    clear hc hL HX h2 o2 hn2 hbl
    go_wp2_with fail
    refine C.mono ?_
    clear C
    rintro e w2 ⟨rfl, hb2⟩
    go_wp2_with fail
    go_ret2
    exact ⟨by rw [HLE.out]; rfl, hb.trans (hb2.mono hz)⟩
set_option maxRecDepth 100000 in
set_option maxHeartbeats 4000000 in
theorem refSize_any (A : Option Addr) (n c : Nat) (r : List Int) (w : World) (h : Rd w w.heap.size 1 A n (ints r)) (hn : n ≤ 2000) (hr64 : ∀ x ∈ r, I64 x) (v : Nat) (hv : sizV r = v) :
    Calls Try.prog 13 #[.slice A n c] w fun e w' => e = .returned (.int .i64 v) ∧ Below w.heap.size w w' := by
  have C := refBits_huf A n c r w h hn hr64
  have HV := Lib.hid hv
  clear hv
  go_enter Try.func13, Try.ntmps13
  go_wp2_with fail
  refine C.mono ?_
  clear C
  rintro e w1 ⟨⟨hc, rfl⟩ | ⟨hc, A2, n2, c2, rfl, o2, hn2⟩, hb⟩
  · have hv0 : v = 0 := by rw [← HV.out, sizV, hc]; rfl
    subst hv0
    clear hc
    go_wp2_with fail
    go_ret
    exact ⟨rfl, hb⟩
  · have hv0 : v = n2 := by rw [← HV.out, sizV, hc, hn2]; rfl
    subst hv0
    clear hc hn2 o2 HV
    go_wp2_with fail
    go_ret
    exact ⟨rfl, hb⟩
end HufW
end Go.Proofs.Ytdfclgpkhfpkhaa
