/- The law of package take on what covers the bytes: its walk. -/
import Derived.Test.YtjdmbpkabeaccaaTakD
import Derived.Test.YtjdmbpkabeaccaaOpenI
namespace Go.Proofs.Ytjdmbpkabeaccaa
set_option linter.unusedVariables false
set_option linter.unusedSimpArgs false
set_option linter.unnecessarySimpa false
open Go.RowKit Go.ChangeShapes Go.WideShapes Go.Deep
namespace TakW

theorem ext_head (l : List UInt8) (p : Nat) : ((⟨l.toArray⟩ : ByteArray).extract 0 p).toList = l.take p := by
  rw [Lib.toList_data]
  simp
theorem wl_get (zs : List Int) (k : Nat) (h : k < zs.length) (h2 : k < (wl zs).length) : (wl zs)[k] = if zs[k] < 0 then (1, 0) else (4, zs[k]) := by simp [wl]
theorem pc_get (ws : List (Int × Int)) (l : List (Int × List UInt8)) (k : Nat) (h1 : k < ws.length) (h2 : k < l.length) (h : k < (List.zipWith pc ws l).length) : (List.zipWith pc ws l)[k] = pc ws[k] l[k] := by simp

set_option maxRecDepth 100000 in
set_option maxHeartbeats 4000000 in
theorem covers_law (s : ByteArray) (A1 : Option Addr) (n1 c1 : Nat) (zs : List Int) (t : ByteArray) (w : World) (hz : Rd w w.heap.size 1 A1 n1 (ints zs)) (hn1 : n1 ≤ maxLen) (hs : s.size ≤ maxLen) (ht : t.size ≤ maxLen) :
    Calls Try.prog 11 #[.string s, .slice A1 n1 c1, .string t] w fun e w' => e = .returned (.bool true) ∧ Below w.heap.size w w' := by
  obtain ⟨m, rfl, hm⟩ := str_of s
  obtain ⟨r, rfl, hr⟩ := str_of t
  rw [← hm] at hs
  rw [← hr] at ht
  clear hm hr
  unfold maxLen at hs ht hn1
  by_cases hbig : 200 < n1 ∨ 10000 < m.length ∨ 10000 < r.length
  · have hb' : (200 : Int) < (n1 : Int) ∨ (¬ (200 : Int) < (n1 : Int) ∧ (10000 : Int) < (m.length : Int)) ∨ (¬ (200 : Int) < (n1 : Int) ∧ ¬ (10000 : Int) < (m.length : Int) ∧ (10000 : Int) < (r.length : Int)) := by omega
    clear hbig
    rcases hb' with hb | ⟨hb, hb2⟩ | ⟨hb, hb2, hb3⟩
    all_goals
      go_enter Try.func11, Try.ntmps11
      go_wp2_with fail
      refine (awake_any _).mono ?_
      rintro e w7 ⟨rfl, hb7⟩
      go_wp2_with fail
      go_ret
      exact ⟨rfl, hb7⟩
  · have hb1 : ¬ (200 : Int) < (n1 : Int) := by omega
    have hb2 : ¬ (10000 : Int) < (m.length : Int) := by omega
    have hb3 : ¬ (10000 : Int) < (r.length : Int) := by omega
    have hz1 := rd_len hz
    have hml : m.length ≤ 10000 := by omega
    have hrl : r.length ≤ 10000 := by omega
    have hnl : n1 ≤ 200 := by omega
    have hzl : zs.length ≤ n1 := by omega
    have hzl2 : n1 ≤ zs.length := by omega
    have HZ1 := Lib.hid hz1
    clear hbig hz1
    go_enter Try.func11, Try.ntmps11
    go_wp2_with fail
    go_loopw [7, 8] (fun v i wr => ∃ (k : Nat) (A2 : Option Addr) (c2 : Nat), i = .int .i64 k ∧ v = .slice A2 k c2 ∧ k ≤ n1 ∧ Own wr w.heap.size 62 2 A2 k c2 (wcells (wl (zs.take k))) ∧ Below w.heap.size w wr) (fun _ i _ => n1 - (intOf i).toNat)
    case atStart => exact ⟨0, none, 0, rfl, rfl, by omega, Own.nil _ _ _ _, (by first | exact Below.refl _ _ | (repeat (first | exact Below.refl _ _ | assumption | refine Below.drew ?_ | refine Below.drewN_ ?_ _ | refine Below.alloc ?_ (by first | exact Nat.le_refl _ | (simp; done) | (simp; omega) | omega) _ | refine Below.setCell ?_ (by first | exact Nat.le_refl _ | (simp; done) | (simp; omega) | omega) _ | (refine Below.trans ?_ (Below.mono (by assumption) (by first | exact Nat.le_refl _ | (simp; done) | (simp; omega) | omega))))))⟩
    case round =>
      obtain ⟨k, A2, c2, rfl, rfl, hk, o2, hbw⟩ := hrel
      have hsz := hbw.size
      by_cases hlt : k < n1
      · have hkl : k < zs.length := by omega
        obtain ⟨b, o, rfl, hb, hc⟩ := rd_ints (hz.below hbw) (by omega)
        have d0 := hc k hkl
        have HS := Lib.hid (wl_snoc zs k hkl)
        obtain ⟨x, hx⟩ : ∃ x, zs[k] = x := ⟨_, rfl⟩
        rw [hx] at d0
        have HX := Lib.hid hx
        clear hc hx
        by_cases hneg : x < 0
        · have hrn : Rd (wr.alloc (.cells #[.int .i64 1, .int .i64 0] 62)) (wr.heap.size + 1) 2 (some ⟨wr.heap.size, 0, none⟩) 1 (wcells [(1, 0)]) := rd_new (W0 := wr) (t := 62) (cs := wcells [(1, 0)]) (size := 2) (m := 1) rfl rfl
          go_wp2_with (at_builtin; with_reducible refine wp_append El_want rfl (s := .tmp 42) (x := .tmp 44) rfl rfl (o2.alloc _) rfl hrn (wcells_one _) (by unfold maxLen; omega) (by omega) (by simp; omega) ?_; intro A4 c4 w4 o4 hg4 hat4; clear hrn)
          have hb4 := below_grown (hbw.alloc hbw.size _) hg4 (o2.alloc _) (Nat.le_refl _)
          rw [← wcells_append] at o4
          go_roundw
          case rel => exact ⟨k + 1, A4, c4, by go_num, rfl, by omega, by rw [HS.out, HX.out, if_pos hneg]; exact o4, hb4⟩
          case measure => simp [intOf]; omega
        · have hrn : Rd (wr.alloc (.cells #[.int .i64 4, .int .i64 x] 62)) (wr.heap.size + 1) 2 (some ⟨wr.heap.size, 0, none⟩) 1 (wcells [(4, x)]) := rd_new (W0 := wr) (t := 62) (cs := wcells [(4, x)]) (size := 2) (m := 1) rfl rfl
          go_wp2_with (at_builtin; with_reducible refine wp_append El_want rfl (s := .tmp 46) (x := .tmp 52) rfl rfl (o2.alloc _) rfl hrn (wcells_one _) (by unfold maxLen; omega) (by omega) (by simp; omega) ?_; intro A4 c4 w4 o4 hg4 hat4; clear hrn)
          have hb4 := below_grown (hbw.alloc hbw.size _) hg4 (o2.alloc _) (Nat.le_refl _)
          rw [← wcells_append] at o4
          go_roundw
          case rel => exact ⟨k + 1, A4, c4, by go_num, rfl, by omega, by rw [HS.out, HX.out, if_neg hneg]; exact o4, hb4⟩
          case measure => simp [intOf]; omega
      · obtain rfl : k = n1 := by omega
        rw [List.take_of_length_le hzl] at o2
        clear hz
        have C1 := run_any m A2 k c2 (wl zs) wr o2.rd (by omega) (by omega) _ rfl
        have hcov := cov_run m zs 0 (by omega)
        have hbyt := cov_byte m zs 0 (by omega)
        have hbeh := cov_behind m r zs 0 (by omega)
        have hle := runV_len (s := m) (wl zs) 0
        have hpl := runV_place (s := m) (wl zs) 0 (by omega) (by omega)
        have C2 := fun A n c w HH hn => run_any (m ++ r) A n c (wl zs) w HH (by rw [List.length_append]; omega) hn _ rfl
        rw [show ((0 : Nat) : Int) = 0 from rfl] at hcov hbyt hbeh
        obtain ⟨y, hy⟩ : ∃ y, runV (m ++ r) (wl zs) 0 = y := ⟨_, rfl⟩
        rw [hy] at C2 hbeh
        have hwl := wl_len zs
        clear hy
        generalize runV m (wl zs) 0 = x at *
        obtain ⟨xs, at_, er⟩ := x
        dsimp only at hpl hle
        obtain ⟨p, rfl⟩ := Int.eq_ofNat_of_zero_le (show 0 ≤ at_ from hpl.1)
        have hpm : p ≤ m.length := by have := hpl.2; omega
        dsimp only at hcov hbyt hbeh C1
        simp only [List.drop_zero, Nat.sub_zero, Int.toNat_natCast] at hcov
        have HW := Lib.hid (fun k h h2 => wl_get zs k h h2)
        generalize wl zs = ws at *
        have hPl : (List.zipWith pc ws xs).length = xs.length := by simp; omega
        have HG := Lib.hid (pc_get ws xs)
        generalize List.zipWith pc ws xs = P at *
        have hxs : xs.length ≤ 200 := by have := HZ1.out; omega
        have hwk : ws.length = k := by have := HZ1.out; omega
        have hxk : xs.length ≤ k := by omega
        have hPm : P.flatten.length ≤ 10000 := by rw [hcov, List.length_take]; omega
        have H1 := Lib.hid C1
        have H2 := Lib.hid C2
        have HC := Lib.hid hcov
        have HY := Lib.hid hbyt
        have HE := Lib.hid hbeh
        have HPL := Lib.hid hPl
        have HWK := Lib.hid hwk
        clear C1 C2 hcov hbyt hbeh hPl hpl hwl hle hwk
        go_wp2_with fail
        refine H1.out.mono ?_
        rintro e w1 ⟨A3, n3, c3, rfl, hc3, r3, hb1⟩
        have o3 := o2.below hb1
        have hn3 := rd_glen r3
        have HB := hbw.trans (hb1.mono hbw.size)
        obtain rfl : xs.length = n3 := hn3
        clear o2 hb1 hbw H1
        go_wp2_with fail
        obtain ⟨wo, hwo⟩ : ∃ wo : World, wo = w1 := ⟨_, rfl⟩
        go_loopw [12, 13] (fun v i wr => ∃ (j : Nat), i = .int .i64 j ∧ v = str (P.take j).flatten ∧ j ≤ xs.length ∧ Below w1.heap.size w1 wr) (fun _ i _ => xs.length - (intOf i).toNat)
        case atStart => exact ⟨0, rfl, rfl, by omega, Below.refl _ _⟩
        case round =>
          obtain ⟨j, rfl, rfl, hj, hbj⟩ := hrel
          have hz1 := hbj.size
          by_cases hlt : j < xs.length
          · have hjw : j < ws.length := by have := HWK.out; omega
            have hjP : j < P.length := by have := HPL.out; omega
            have hjk : j < k := by omega
            obtain ⟨b1, q1, rfl, hq1, hcw⟩ := rd_wcells ((o3.rd).below hbj) (by omega)
            obtain ⟨b2, q2, rfl, hq2, hcg⟩ := rd_gcells (r3.below hbj) (by omega)
            obtain ⟨d0, _⟩ := hcw j hjw
            obtain ⟨f0, f1⟩ := hcg j hlt
            have HS := Lib.hid (flat_take P j hjP)
            have HPJ := Lib.hid (HG.out j hjw hlt hjP)
            have hYj := HY.out j hlt hjw
            have hfl := Nat.le_trans (flat_le P j) hPm
            have hfl2 := Nat.le_trans (flat_le P (j + 1)) hPm
            rw [HS.out, HPJ.out] at hfl2
            have hq1' : b1 < wr.heap.size := by omega
            have hq2' : b2 < wr.heap.size := by omega
            generalize (P.take j).flatten = O at *
            have hkind : ws[j].1 = 1 ∨ ws[j].1 = 4 := by
              rw [HW.out j (by have := HZ1.out; omega) hjw]
              split
              · exact .inl rfl
              · exact .inr rfl
            clear hcw hcg
            generalize hwj : ws[j] = wj at *
            obtain ⟨kd, sz⟩ := wj
            generalize hxj : xs[j] = xj at *
            obtain ⟨gn, gs⟩ := xj
            have HWJ := Lib.hid hwj
            have HXJ := Lib.hid hxj
            clear hwj hxj
            dsimp only at d0 f0 f1 hYj hkind
            by_cases h1 : kd = 1
            · subst h1
              obtain ⟨g1, g2⟩ := hYj rfl
              have hcv := fun w => run_one_str (P := Try.prog) Try.underlying69 Try.underlying5 Try.underlying9 w gn (by omega) (by omega)
              simp only [pc, if_pos, List.length_append, List.length_singleton] at hfl2
              clear hYj hkind
              go_wp2_with fail
              go_roundw
              case rel => exact ⟨j + 1, by go_num, by rw [HS.out, HPJ.out, ba_cat, ba_cat]; simp [pc], by omega, hbj.alloc hz1 _⟩
              case measure => simp [intOf]; omega
            · have h4 : kd = 4 := by exact hkind.resolve_left h1
              subst h4
              clear hYj hkind h1
              simp [pc] at hfl2
              go_wp2_with fail
              go_roundw
              case rel => exact ⟨j + 1, by go_num, by rw [HS.out, HPJ.out, ba_cat]; simp [pc], by omega, hbj⟩
              case measure => simp [intOf]; omega
          · have HZ := Lib.hid (show P.take j = P from List.take_of_length_le (by have := HPL.out; omega))
            have hjx : j = xs.length := by omega
            have htx : ((P.take j).flatten == ((⟨m.toArray⟩ : ByteArray).extract 0 p).toList) = true := by rw [ext_head, beq_iff_eq, HZ.out, HC.out]
            have hfl := Nat.le_trans (flat_le P j) hPm
            generalize (P.take j).flatten = O at *
            have HB2 := HB.trans (hbj.mono HB.size)
            have o4 := o3.below hbj
            have r4 := r3.below hbj
            have hp1 : ¬ (p : Int) < 0 := by omega
            have hp2 : ¬ (m.length : Int) < (p : Int) := by omega
            have C2 := H2.out A2 k c2 wr o4.rd (by omega)
            by_cases he : er = 0
            · subst he
              have hy := HE.out rfl
              subst hy
              dsimp only at C2
              clear H2 HE
              go_wp2_with fail
              rw [str_cat]
              refine C2.mono ?_
              clear C2
              rintro e w2 ⟨A5, n5, c5, rfl, hc5, r5, hb5⟩
              have HB5 := HB2.trans (hb5.mono HB2.size)
              have hn5 := rd_glen r5
              have C9 := same_any A3 A5 xs.length c3 n5 c5 xs xs w2 ((r4.below (hb5.mono hz1)).more (by have := hb5.size; omega)) r5 (by omega) (by omega)
              rw [decide_eq_true (rfl : xs = xs)] at C9
              clear hn5 hb5
              go_wp2_with fail
              refine C9.mono ?_
              clear C9
              rintro e w8 ⟨rfl, nq, rfl⟩
              replace HB5 := HB5.drewN_ nq
              generalize w2.drewN nq = w8 at *
              go_wp2_with fail
              refine (awake_any _).mono ?_
              rintro e w9 ⟨rfl, hb9⟩
              go_wp2_with fail
              go_ret
              exact ⟨rfl, HB5.trans (hb9.mono HB5.size)⟩
            · have heI : (er != 0) = true := by simp [he]
              clear H2 HE he
              go_wp2_with fail
              rw [str_cat]
              refine C2.mono ?_
              clear C2
              rintro e w2 ⟨A5, n5, c5, rfl, hc5, r5, hb5⟩
              have HB5 := HB2.trans (hb5.mono HB2.size)
              clear hb5
              go_wp2_with fail
              refine (awake_any _).mono ?_
              rintro e w9 ⟨rfl, hb9⟩
              go_wp2_with fail
              go_ret
              exact ⟨rfl, HB5.trans (hb9.mono HB5.size)⟩
end TakW
end Go.Proofs.Ytjdmbpkabeaccaa
