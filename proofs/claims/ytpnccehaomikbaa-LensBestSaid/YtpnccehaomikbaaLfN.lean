/- Walks over the laws of package lens: LensBest. -/
import Derived.Test.YtpnccehaomikbaaLfM
import Derived.Test.YtpnccehaomikbaaLfH
namespace Go.Proofs.Ytpnccehaomikbaa
set_option linter.unusedVariables false
set_option linter.unusedSimpArgs false
set_option linter.unnecessarySimpa false
open Go.RowKit Go.ChangeShapes Go.WideShapes Go.Deep
namespace LenW

/-- The lengths of those that come. -/
def ownK (l o : List Int) (k : Nat) : List Int := (List.range k).map fun j => if l[j]?.getD 0 = 0 then 0 else o[j]?.getD 0
theorem ownK_len (l o : List Int) (k : Nat) : (ownK l o k).length = k := by simp [ownK]
theorem ownK_succ (l o : List Int) (k : Nat) : ownK l o (k + 1) = ownK l o k ++ [if l[k]?.getD 0 = 0 then 0 else o[k]?.getD 0] := by simp [ownK, List.range_succ]
theorem ownK_at (l o : List Int) (k s : Nat) (h : s < k) : (ownK l o k)[s]?.getD 0 = if l[s]?.getD 0 = 0 then 0 else o[s]?.getD 0 := by simp [ownK, h]
def fitS (l o : List Int) (most : Int) (s : Nat) : Prop := (0 < l[s]?.getD 0 → 1 ≤ o[s]?.getD 0 ∧ o[s]?.getD 0 ≤ most)
set_option maxRecDepth 100000 in
set_option maxHeartbeats 8000000 in
theorem best_law (A : Option Addr) (n c : Nat) (l : List Int) (most : Int) (A2 : Option Addr) (n2 c2 : Nat) (o : List Int) (w : World)
    (h : Rd w w.heap.size 1 A n (ints l)) (hn : n ≤ maxLen) (k2 : Rd w w.heap.size 1 A2 n2 (ints o)) (hn2 : n2 ≤ maxLen) :
    Calls Try.prog 5 #[.slice A n c, .int .i64 most, .slice A2 n2 c2] w fun e w' => e = .returned (.bool true) ∧ Below w.heap.size w w' := by
  unfold maxLen at hn hn2
  have hcase : (n : Int) > 300 ∨ (¬ (n : Int) > 300 ∧ (n2 : Int) < (n : Int)) ∨ (¬ (n : Int) > 300 ∧ ¬ (n2 : Int) < (n : Int) ∧ (n2 : Int) > 300) ∨ (¬ (n : Int) > 300 ∧ ¬ (n2 : Int) < (n : Int) ∧ ¬ (n2 : Int) > 300) := by omega
  rcases hcase with h1 | ⟨h1, h2⟩ | ⟨h1, h2, h3⟩ | ⟨h1, h2, h3⟩
  iterate 3
    clear h k2
    go_enter Try.func5, Try.ntmps5
    go_wp2_with fail
    refine (lawake_any _).mono ?_
    rintro e w7 ⟨rfl, hb7⟩
    go_wp2_with fail
    go_ret
    exact ⟨rfl, hb7⟩
  have hl := rd_len h
  have hl2 := rd_len k2
  by_cases hv : refuseW l most = 0
  · have hu := usedL_le l
    have C1 := best_yes A n c l most w h hv (sort_ok _ (by omega))
    obtain ⟨h257, hm1, hm15, hbad, _⟩ := refuseW_ok hv
    have HBAD := Lib.hid hbad
    have HLEAST := Lib.hid (fun own => best_least l own most hv)
    have HLl := Lib.hid (bestW_len l most.toNat)
    obtain ⟨L, hL⟩ : ∃ L, bestW l most.toNat = L := ⟨_, rfl⟩
    rw [hL] at C1 HLEAST HLl
    have HLN := Lib.hid hl
    have hn0 : l.length ≤ n := by omega
    have hn0' : n ≤ l.length := by omega
    have hno : n ≤ o.length := by omega
    clear hL hv hl hl2 hbad
    go_enter Try.func5, Try.ntmps5
    go_wp2_with fail
    refine C1.mono ?_
    rintro e w1 ⟨g1, hg1, hg1', rfl, bi, hb1⟩
    clear C1
    have hz1 := hb1.size
    go_wp2_with fail
    go_loopw [9, 10] (fun s r v => ∃ (i c9 : Nat) (A9 : Option Addr), r = .int .i64 i ∧ s = .slice A9 i c9 ∧ i ≤ n ∧ Own v w1.heap.size 3 1 A9 i c9 (ints (ownK l o i)) ∧ (∀ s, s < i → fitS l o most s) ∧ Blk v g1 3 (ints L).toArray ∧ Below w.heap.size w v ∧ w1.heap.size ≤ v.heap.size) (fun _ r _ => n - (intOf r).toNat)
    case atStart => exact ⟨0, 0, none, rfl, rfl, by omega, Own.nil _ _ _ _, fun s hs => absurd hs (by omega), bi, hb1, Nat.le_refl _⟩
    case round =>
      clear bi hb1
      obtain ⟨i, c9, A9, rfl, rfl, hi, o9, hfit, b1, HB, hzv⟩ := hrel
      have HFIT := Lib.hid hfit
      have hi0 : (0 : Int) ≤ (i : Int) := by omega
      have hsz := HB.size
      clear hfit
      by_cases hlt : i < n
      · have hil : i < l.length := by omega
        have hio : i < o.length := by omega
        have hiI : (i : Int) < (n : Int) := by omega
        have hiI2 : (i : Int) < (n2 : Int) := by omega
        have haddi : IntKind.i64.wrap ((i : Int) + 1) = (i : Int) + 1 := w64k (by omega) (by omega)
        obtain ⟨lb, lo, rfl, hlb, hlc⟩ := rd_ints h (by omega)
        obtain ⟨ob, oo, rfl, hob, hoc⟩ := rd_ints k2 (by omega)
        have d1 := (HB.cell (p := ⟨lb, lo + i, none⟩) hlb).trans (hlc i hil)
        have d2 := (HB.cell (p := ⟨ob, oo + i, none⟩) hob).trans (hoc i hio)
        have hx2 := (List.any_eq_false.1 HBAD.out) _ (List.getElem_mem hil)
        simp only [badN, Bool.or_eq_true, decide_eq_true_eq, not_or] at hx2
        have HOS := Lib.hid (show ownK l o (i + 1) = ownK l o i ++ [if l[i] = 0 then 0 else o[i]] by rw [ownK_succ, List.getElem?_eq_getElem hil, List.getElem?_eq_getElem hio]; rfl)
        have HFS := Lib.hid (show (0 < l[i] → 1 ≤ o[i] ∧ o[i] ≤ most) → ∀ s, s < i + 1 → fitS l o most s from fun hf s hs => by
          rcases Nat.lt_or_ge s i with h' | h'
          · exact HFIT.out s h'
          · obtain rfl : s = i := by omega
            unfold fitS
            rw [List.getElem?_eq_getElem hil, List.getElem?_eq_getElem hio]
            exact hf)
        obtain ⟨x, hx⟩ : ∃ x, l[i] = x := ⟨_, rfl⟩
        obtain ⟨y, hy⟩ : ∃ y, o[i] = y := ⟨_, rfl⟩
        rw [hx] at d1 hx2 HOS HFS
        rw [hy] at d2 HOS HFS
        have hx0 : 0 ≤ x := by omega
        clear hlc hoc hx hy hx2
        by_cases q0 : x = 0
        · subst q0
          have HA := Lib.hid (show ownK l o (i + 1) = ownK l o i ++ [0] by rw [HOS.out, if_pos rfl])
          have HF2 := Lib.hid (HFS.out (fun h' => absurd h' (by omega)))
          have hm0 : ¬ most < 0 := by omega
          have hmd : decide (most < 0) = false := by simp; omega
          have hrn : Rd (wr.alloc (.cells #[.int .i64 0] 3)) (wr.heap.size + 1) 1 (some ⟨wr.heap.size, 0, none⟩) 1 (ints [(0 : Int)]) := rd_new (W0 := wr) (t := 3) (cs := ints [(0 : Int)]) (size := 1) (m := 1) rfl rfl
          go_wp2_with (at_builtin; with_reducible refine wp_append El_i rfl (s := .tmp 77) (x := .tmp 79) rfl rfl (o9.alloc _) rfl hrn (ints_one _) (by unfold maxLen; omega) (by omega) (by simp; omega) ?_; intro A4 c4 w4 o4 hg4 hat4)
          have hbX := below_grown (HB.alloc hsz (.cells #[.int .i64 0] 3)) hg4 (o9.alloc _) (by omega)
          have b4 := (b1.alloc (.cells #[.int .i64 0] 3)).grown hg4 (by intro e; have := (o9.blk g1 e.symm).1; omega)
          have z4 := hg4.size
          rw [World.size_alloc] at z4
          rw [← ints_cat] at o4
          go_roundw
          case rel => exact ⟨i + 1, c4, A4, by go_num, rfl, by omega, by rw [HA.out]; exact o4, HF2.out, b4, hbX, by omega⟩
          case measure => simp [intOf]; omega
        · have q0b : (x == 0) = false := by simp [q0]
          have qx : 0 < x := by omega
          have qxd : decide (0 < x) = true := by simp; omega
          by_cases q1 : y < 0
          · go_wp2_with fail
            refine (lawake_any _).mono ?_
            rintro e w7 ⟨rfl, hb7⟩
            go_wp2_with fail
            try rw [Exit.noGoto_ret]
            go_ret
            exact ⟨rfl, HB.trans (hb7.mono hsz)⟩
          · by_cases q2 : most < y
            · go_wp2_with fail
              refine (lawake_any _).mono ?_
              rintro e w7 ⟨rfl, hb7⟩
              go_wp2_with fail
              try rw [Exit.noGoto_ret]
              go_ret
              exact ⟨rfl, HB.trans (hb7.mono hsz)⟩
            · by_cases q3 : y = 0
              · subst q3
                go_wp2_with fail
                refine (lawake_any _).mono ?_
                rintro e w7 ⟨rfl, hb7⟩
                go_wp2_with fail
                try rw [Exit.noGoto_ret]
                go_ret
                exact ⟨rfl, HB.trans (hb7.mono hsz)⟩
              · have q3b : (y == 0) = false := by simp [q3]
                have q2d : decide (most < y) = false := by simp; omega
                have q1d : decide (y < 0) = false := by simp; omega
                have HA := Lib.hid (show ownK l o (i + 1) = ownK l o i ++ [y] by rw [HOS.out, if_neg q0])
                have HF2 := Lib.hid (HFS.out (fun _ => by omega))
                have hrn : Rd (wr.alloc (.cells #[.int .i64 y] 3)) (wr.heap.size + 1) 1 (some ⟨wr.heap.size, 0, none⟩) 1 (ints [y]) := rd_new (W0 := wr) (t := 3) (cs := ints [y]) (size := 1) (m := 1) rfl rfl
                go_wp2_with (at_builtin; with_reducible refine wp_append El_i rfl (s := .tmp 77) (x := .tmp 79) rfl rfl (o9.alloc _) rfl hrn (ints_one _) (by unfold maxLen; omega) (by omega) (by simp; omega) ?_; intro A4 c4 w4 o4 hg4 hat4)
                have hbX := below_grown (HB.alloc hsz (.cells #[.int .i64 y] 3)) hg4 (o9.alloc _) (by omega)
                have b4 := (b1.alloc (.cells #[.int .i64 y] 3)).grown hg4 (by intro e; have := (o9.blk g1 e.symm).1; omega)
                have z4 := hg4.size
                rw [World.size_alloc] at z4
                rw [← ints_cat] at o4
                go_roundw
                case rel => exact ⟨i + 1, c4, A4, by go_num, rfl, by omega, by rw [HA.out]; exact o4, HF2.out, b4, hbX, by omega⟩
                case measure => simp [intOf]; omega
      · have hiI : ¬ (i : Int) < (n : Int) := by omega
        obtain rfl : i = n := by omega
        have r9 := o9.rd
        have hHS := HLEAST.out (ownK l o i) (by rw [ownK_len]; omega) (fun s hs => by
          have hf := HFIT.out s (by omega)
          unfold fitS at hf
          have hb := (List.any_eq_false.1 HBAD.out) _ (List.getElem_mem hs)
          simp only [badN, Bool.or_eq_true, decide_eq_true_eq, not_or] at hb
          rw [ownK_at l o i s (by omega), List.getElem?_eq_getElem hs, Option.getD_some]
          rw [List.getElem?_eq_getElem hs, Option.getD_some] at hf
          refine ⟨fun hp => ?_, fun hp => ?_⟩
          · rw [if_neg (by omega)]; exact hf hp
          · rw [if_pos (by omega)])
        have HHS := Lib.hid hHS
        have HOL := Lib.hid (ownK_len l o i)
        obtain ⟨ow, how⟩ : ∃ ow, ownK l o i = ow := ⟨_, rfl⟩
        rw [how] at o9 r9 HHS HOL
        obtain ⟨sv, hsv⟩ : ∃ sv, sumR ow = sv := ⟨_, rfl⟩
        have C3 := refSum_any A9 i c9 ow wr r9 (by omega) sv hsv
        have HSV := Lib.hid hsv
        clear hHS how hsv
        go_wp2_with fail
        refine C3.mono ?_
        rintro e w2 ⟨rfl, rfl⟩
        clear C3
        by_cases s1 : sv < 0
        · go_wp2_with fail
          refine (lawake_any _).mono ?_
          rintro e w7 ⟨rfl, hb7⟩
          go_wp2_with fail
          go_ret
          exact ⟨rfl, HB.trans (hb7.mono hsz)⟩
        · by_cases s2 : 32768 < sv
          · go_wp2_with fail
            refine (lawake_any _).mono ?_
            rintro e w7 ⟨rfl, hb7⟩
            go_wp2_with fail
            go_ret
            exact ⟨rfl, HB.trans (hb7.mono hsz)⟩
          · have hsum : sumL ow ≤ 32768 := by
              have e := HSV.out
              unfold sumR at e
              split at e
              · omega
              · omega
            have hle := HHS.out hsum
            obtain ⟨v1, hv1⟩ : ∃ v, costW l L = v := ⟨_, rfl⟩
            obtain ⟨v2, hv2⟩ : ∃ v, costW l ow = v := ⟨_, rfl⟩
            rw [hv1, hv2] at hle
            have rL := (Rd.of_blk (size := 1) (m := i) b1 (by rw [ints_len, HLl.out]; have := HLN.out; omega)).more (show g1 + 1 ≤ w2.heap.size by omega)
            have rl := (h.below HB).more hsz
            have C4 := cost_any A (some ⟨g1, 0, none⟩) i c i i l L w2 rl rL (by omega) (by omega) v1 hv1
            have C5 := fun w ha hb => cost_any A A9 i c i c9 l ow w ha hb (by omega) (by omega) v2 hv2
            have hled : decide (v1 ≤ v2) = true := by simp; omega
            clear hv1 hv2 hsum b1
            go_wp2_with fail
            refine C4.mono ?_
            rintro e w3 ⟨rfl, hb3⟩
            have HB3 := HB.trans (hb3.mono hsz)
            have z3 := hb3.size
            go_wp2_with fail
            refine (C5 _ ((rl.below hb3).more z3) ((r9.below hb3).more z3)).mono ?_
            rintro e w4 ⟨rfl, hb4⟩
            have HB4 := HB3.trans (hb4.mono HB3.size)
            go_wp2_with fail
            refine (lawake_any _).mono ?_
            rintro e w7 ⟨rfl, hb7⟩
            go_wp2_with fail
            go_ret
            exact ⟨rfl, HB4.trans (hb7.mono HB4.size)⟩
  · obtain ⟨v, hv2⟩ : ∃ v, refuseW l most = v := ⟨_, rfl⟩
    rw [hv2] at hv
    have C1 := best_no A n c l most w h (by omega) v hv2 hv
    have hvd : (v != 0) = true := by simp [hv]
    clear hv2 hl hl2
    go_enter Try.func5, Try.ntmps5
    go_wp2_with fail
    refine C1.mono ?_
    rintro e w1 ⟨rfl, hb1⟩
    clear C1
    go_wp2_with fail
    refine (lawake_any _).mono ?_
    rintro e w7 ⟨rfl, hb7⟩
    go_wp2_with fail
    go_ret
    exact ⟨rfl, hb1.trans (hb7.mono hb1.size)⟩
end LenW
end Go.Proofs.Ytpnccehaomikbaa
