/- The reference of package lens: Best of no symbol, of one; what it refuses. Package lens and its reference, plainly: both rows are the same; both take the same. -/
import Derived.Test.YtdfclgpkhfpkhaaLfD
namespace Go.Proofs.Ytdfclgpkhfpkhaa
set_option linter.unusedVariables false
set_option linter.unusedSimpArgs false
set_option linter.unnecessarySimpa false
open Go.RowKit
namespace LenW

/-- A leaf. -/
def leafP (x : Int × Int) : PT := (x.1, [x.2], true)
theorem goes_leaf (x y : Int × Int) : goesP (leafP y) (leafP x) = decide (y.1 ≤ x.1) := by
  unfold goesP leafP
  dsimp only
  by_cases h1 : y.1 < x.1
  · have h3 : y.1 ≤ x.1 := by omega
    simp [h1, h3]
  · by_cases h2 : y.1 = x.1
    · simp [h2]
    · have h3 : ¬ y.1 ≤ x.1 := by omega
      simp [h1, h2, h3]
theorem ins_leaf (x : Int × Int) (l : List (Int × Int)) : (insW x l).map leafP = putP (leafP x) (l.map leafP) := by
  induction l with
  | nil => rfl
  | cons y r ih =>
    rw [insW, List.map_cons, putP]
    by_cases h : x.1 < y.1
    · rw [if_pos h, if_neg (by rw [goes_leaf]; simpa using h)]
      rfl
    · rw [if_neg h, if_pos (by rw [goes_leaf]; simp; omega), List.map_cons, ih]
theorem firstP_eq (l : List Int) (k : Nat) (hk : k ≤ l.length) : firstP l k = (sortW (lvsK l k)).map leafP := by
  induction k with
  | zero => rfl
  | succ k ih =>
    rw [firstP, lvsK_succ l k (by omega), List.getElem?_eq_getElem (show k < l.length by omega), Option.getD_some]
    split
    · rw [sortW_snoc, ins_leaf, ih (by omega)]; rfl
    · rw [List.append_nil, ih (by omega)]
theorem firstP_all (l : List Int) : firstP l l.length = (lvs l).map leafP := firstP_eq l _ (Nat.le_refl _)
set_option maxRecDepth 100000 in
set_option maxHeartbeats 16000000 in
theorem refBest_none (A : Option Addr) (n c : Nat) (l : List Int) (most : Int) (w : World) (h : Rd w w.heap.size 1 A n (ints l)) (hv : refuseW l most = 0) (hf0 : usedL l = 0) :
    Calls Try.prog 47 #[.slice A n c, .int .i64 most] w fun e w' => ∃ g, w.heap.size ≤ g ∧ g < w'.heap.size ∧ e = .returned (.tuple #[.slice (some ⟨g, 0, none⟩) n n, .int .i64 0]) ∧ Blk w' g 3 (ints (bestW l most.toNat)).toArray ∧ Below w.heap.size w w' := by
  have hl : l.length = n := rd_len h
  obtain ⟨hl257, hm1, hm15, hbad, hroom⟩ := refuseW_ok hv
  have hn : n ≤ 257 := by omega
  have HBAD := Lib.hid hbad
  have HFA := Lib.hid (firstP_all l)
  have HLV := Lib.hid (show (lvs l).length = 0 by rw [lvs_len, hf0])
  have HWH := Lib.hid (show ∀ x ∈ lvs l, 0 ≤ x.2 ∧ x.2 < (n : Int) from fun x hx => by have := lvs_what l x hx; omega)
  have HBW := Lib.hid (show bestW l most.toNat = (lvs l).foldl oneW (List.replicate n 0) by rw [bestW_few l _ (by omega), hl])
  have CF := fun w (h : Rd w w.heap.size 1 A n (ints l)) => first_any A n c l w h (by omega)
  rw [HBW.out]
  obtain ⟨F, hF⟩ : ∃ F, firstP l l.length = F := ⟨_, rfl⟩
  obtain ⟨G, hG⟩ : ∃ G, lvs l = G := ⟨_, rfl⟩
  rw [hF] at HFA CF
  rw [hG] at HFA HLV HWH ⊢
  rw [hf0] at CF
  obtain ⟨mm, rfl⟩ : ∃ mm : Nat, most = ((mm + 1 : Nat) : Int) := ⟨(most - 1).toNat, by omega⟩
  have hmm : mm ≤ 14 := by omega
  obtain ⟨z, hz⟩ : ∃ z, 2 ^ (mm + 1) = z := ⟨_, rfl⟩
  have CPW := power_any (mm + 1) (by omega)
  have CPW2 := fun w => CPW w z hz
  have hz1 : 1 ≤ z := by rw [← hz]; exact Nat.one_le_two_pow
  have hd1 : decide ((mm : Int) + 1 < 1) = false := by simp; omega
  have hd2 : decide ((15 : Int) < (mm : Int) + 1) = false := by simp; omega
  have hfz1 : ¬ (z : Int) < 1 := by omega
  have hfz0 : ¬ (z : Int) < 0 := by omega
  have hF1 : ¬ ((n : Int) > 257) := by omega
  have hn0 : l.length ≤ n := by omega
  have hn0' : n ≤ l.length := by omega
  clear hF hG hz CPW hv hbad hroom hl hf0 HBW
  go_enter Try.func47, Try.ntmps47
  go_wp2_with fail
  go_loopw [6] (fun s wr => ∃ k : Nat, s = .int .i64 k ∧ k ≤ n ∧ wr = w) (fun s _ => n - (intOf s).toNat)
  case atStart => exact ⟨0, rfl, by omega, rfl⟩
  case round =>
    obtain ⟨k, rfl, hk, rfl⟩ := hrel
    by_cases hlt : k < n
    · have hkl : k < l.length := by omega
      obtain ⟨b, o, rfl, hb, hc⟩ := rd_ints h (by omega)
      have d0 : wr.cell? ⟨b, o + k, none⟩ = some (.int .i64 l[k]) := hc k hkl
      have hx2 := (List.any_eq_false.1 HBAD.out) _ (List.getElem_mem hkl)
      simp only [badN, Bool.or_eq_true, decide_eq_true_eq, not_or] at hx2
      obtain ⟨x, hx⟩ : ∃ x, l[k] = x := ⟨_, rfl⟩
      rw [hx] at d0 hx2
      have hx3 : ¬ x < 0 := hx2.1
      have hx4 : ¬ 1000000 < x := hx2.2
      have hkI : (k : Int) < (n : Int) := by omega
      have hk0 : (0 : Int) ≤ (k : Int) := by omega
      have hadd : IntKind.i64.wrap ((k : Int) + 1) = (k : Int) + 1 := w64k (by omega) (by omega)
      clear hc hx hx2
      go_wp2_with fail
      go_roundw
      case rel => exact ⟨k + 1, by go_num, by omega, by first | rfl | trivial⟩
      case measure => simp [intOf]; omega
    · have hkI : ¬ (k : Int) < (n : Int) := by omega
      go_wp2_with fail
      refine (CF _ h).mono ?_
      rintro e w1 ⟨A2, c2, ts, rfl, R1, hT, hb1⟩
      have h1 := h.below hb1
      have hzz1 := hb1.size
      clear CF h
      go_wp2_with fail
      refine (CPW2 _).mono ?_
      rintro e w2 ⟨rfl, rfl⟩
      have hmk : (Instr.makeSlice 22 (.int .i64 n) (.int .i64 n)).run Try.prog w2 = .ok (.slice (some ⟨w2.heap.size, 0, none⟩) n n) (w2.alloc (.cells (madeCells #[.int .i64 0] n) 3)) :=
        run_make_row' 22 3 (.int .i64 0) 8 Try.underlying22 (by kernel_rfl) rfl .i64 .i64 n (by omega) (by omega) w2
      rw [made_ints] at hmk
      have bg := Blk.new w2 3 (ints (List.replicate n 0)).toArray
      have hbW := hb1.alloc hzz1 (.cells (ints (List.replicate n 0)).toArray 3)
      obtain rfl : G = [] := List.length_eq_zero_iff.1 HLV.out
      go_wp2_with fail
      go_ret2
      exact ⟨w2.heap.size, hzz1, by simp, rfl, bg, hbW⟩
set_option maxRecDepth 100000 in
set_option maxHeartbeats 16000000 in
theorem refBest_one (A : Option Addr) (n c : Nat) (l : List Int) (most : Int) (w : World) (h : Rd w w.heap.size 1 A n (ints l)) (hv : refuseW l most = 0) (hf0 : usedL l = 1) :
    Calls Try.prog 47 #[.slice A n c, .int .i64 most] w fun e w' => ∃ g, w.heap.size ≤ g ∧ g < w'.heap.size ∧ e = .returned (.tuple #[.slice (some ⟨g, 0, none⟩) n n, .int .i64 0]) ∧ Blk w' g 3 (ints (bestW l most.toNat)).toArray ∧ Below w.heap.size w w' := by
  have hl : l.length = n := rd_len h
  obtain ⟨hl257, hm1, hm15, hbad, hroom⟩ := refuseW_ok hv
  have hn : n ≤ 257 := by omega
  have HBAD := Lib.hid hbad
  have HFA := Lib.hid (firstP_all l)
  have HLV := Lib.hid (show (lvs l).length = 1 by rw [lvs_len, hf0])
  have HWH := Lib.hid (show ∀ x ∈ lvs l, 0 ≤ x.2 ∧ x.2 < (n : Int) from fun x hx => by have := lvs_what l x hx; omega)
  have HBW := Lib.hid (show bestW l most.toNat = (lvs l).foldl oneW (List.replicate n 0) by rw [bestW_few l _ (by omega), hl])
  have CF := fun w (h : Rd w w.heap.size 1 A n (ints l)) => first_any A n c l w h (by omega)
  rw [HBW.out]
  obtain ⟨F, hF⟩ : ∃ F, firstP l l.length = F := ⟨_, rfl⟩
  obtain ⟨G, hG⟩ : ∃ G, lvs l = G := ⟨_, rfl⟩
  rw [hF] at HFA CF
  rw [hG] at HFA HLV HWH ⊢
  rw [hf0] at CF
  obtain ⟨mm, rfl⟩ : ∃ mm : Nat, most = ((mm + 1 : Nat) : Int) := ⟨(most - 1).toNat, by omega⟩
  have hmm : mm ≤ 14 := by omega
  obtain ⟨z, hz⟩ : ∃ z, 2 ^ (mm + 1) = z := ⟨_, rfl⟩
  have CPW := power_any (mm + 1) (by omega)
  have CPW2 := fun w => CPW w z hz
  have hz1 : 1 ≤ z := by rw [← hz]; exact Nat.one_le_two_pow
  have hd1 : decide ((mm : Int) + 1 < 1) = false := by simp; omega
  have hd2 : decide ((15 : Int) < (mm : Int) + 1) = false := by simp; omega
  have hfz1 : ¬ (z : Int) < 1 := by omega
  have hfz0 : ¬ (z : Int) < 0 := by omega
  have hF1 : ¬ ((n : Int) > 257) := by omega
  have hn0 : l.length ≤ n := by omega
  have hn0' : n ≤ l.length := by omega
  clear hF hG hz CPW hv hbad hroom hl hf0 HBW
  go_enter Try.func47, Try.ntmps47
  go_wp2_with fail
  go_loopw [6] (fun s wr => ∃ k : Nat, s = .int .i64 k ∧ k ≤ n ∧ wr = w) (fun s _ => n - (intOf s).toNat)
  case atStart => exact ⟨0, rfl, by omega, rfl⟩
  case round =>
    obtain ⟨k, rfl, hk, rfl⟩ := hrel
    by_cases hlt : k < n
    · have hkl : k < l.length := by omega
      obtain ⟨b, o, rfl, hb, hc⟩ := rd_ints h (by omega)
      have d0 : wr.cell? ⟨b, o + k, none⟩ = some (.int .i64 l[k]) := hc k hkl
      have hx2 := (List.any_eq_false.1 HBAD.out) _ (List.getElem_mem hkl)
      simp only [badN, Bool.or_eq_true, decide_eq_true_eq, not_or] at hx2
      obtain ⟨x, hx⟩ : ∃ x, l[k] = x := ⟨_, rfl⟩
      rw [hx] at d0 hx2
      have hx3 : ¬ x < 0 := hx2.1
      have hx4 : ¬ 1000000 < x := hx2.2
      have hkI : (k : Int) < (n : Int) := by omega
      have hk0 : (0 : Int) ≤ (k : Int) := by omega
      have hadd : IntKind.i64.wrap ((k : Int) + 1) = (k : Int) + 1 := w64k (by omega) (by omega)
      clear hc hx hx2
      go_wp2_with fail
      go_roundw
      case rel => exact ⟨k + 1, by go_num, by omega, by first | rfl | trivial⟩
      case measure => simp [intOf]; omega
    · have hkI : ¬ (k : Int) < (n : Int) := by omega
      go_wp2_with fail
      refine (CF _ h).mono ?_
      rintro e w1 ⟨A2, c2, ts, rfl, R1, hT, hb1⟩
      have h1 := h.below hb1
      have hzz1 := hb1.size
      clear CF h
      go_wp2_with fail
      refine (CPW2 _).mono ?_
      rintro e w2 ⟨rfl, rfl⟩
      have hmk : (Instr.makeSlice 22 (.int .i64 n) (.int .i64 n)).run Try.prog w2 = .ok (.slice (some ⟨w2.heap.size, 0, none⟩) n n) (w2.alloc (.cells (madeCells #[.int .i64 0] n) 3)) :=
        run_make_row' 22 3 (.int .i64 0) 8 Try.underlying22 (by kernel_rfl) rfl .i64 .i64 n (by omega) (by omega) w2
      rw [made_ints] at hmk
      have bg := Blk.new w2 3 (ints (List.replicate n 0)).toArray
      have hbW := hb1.alloc hzz1 (.cells (ints (List.replicate n 0)).toArray 3)
      obtain ⟨x, rfl⟩ := List.length_eq_one_iff.1 HLV.out
      have hwh := HWH.out x (by simp)
      have hTT : ts.map TT.abs = [leafP x] := hT.trans HFA.out
      obtain ⟨t, rfl⟩ : ∃ t, ts = [t] := by
        match ts, hTT with
        | [t], _ => exact ⟨t, rfl⟩
      simp only [List.map_cons, List.map_nil, List.cons.injEq, and_true] at hTT
      obtain ⟨tw, tA, tn, tc, tl, tsy⟩ := t
      simp only [TT.abs, leafP, Prod.mk.injEq] at hTT
      obtain ⟨-, rfl, -⟩ := hTT
      obtain ⟨x1, x2⟩ := x
      dsimp only at hwh R1
      obtain ⟨y, rfl⟩ := Int.eq_ofNat_of_zero_le hwh.1
      have hyn : (y : Int) < (n : Int) := hwh.2
      have hyn2 : y < (List.replicate n (0 : Int)).length := by simp; omega
      have Rz := R1.below ((Below.refl _ _).alloc (Nat.le_refl _) (.cells (ints (List.replicate n 0)).toArray 3))
      obtain ⟨b, o, rfl, hbb, hcc⟩ := rd_tcells Rz.rd (by omega)
      obtain ⟨-, d1, -⟩ := hcc 0 (by simp)
      have s1 := (Rz.sym _ (List.mem_singleton.2 rfl)).rd
      dsimp only at s1
      have hs1 := rd_len s1
      simp only [List.length_singleton] at hs1
      subst hs1
      obtain ⟨sb, so, rfl, hsb, hsc⟩ := rd_ints s1 (by omega)
      have d2 := hsc 0 (by simp)
      simp only [Nat.zero_mul, Nat.add_zero, List.getElem_cons_zero] at d1 d2
      have hue : (List.replicate n (0 : Int))[y] = 0 := by simp
      have e5 := bg.cell_ y (v := .int .i64 0) (by rw [List.getElem?_toArray]; simp only [ints, List.getElem?_map, List.getElem?_eq_getElem hyn2, hue, Option.map_some])
      have f5 := bg.frozen y
      have BG := Lib.hid (blk_eq (Blk.new w2 3 ((ints (List.replicate n 0)).set y (.int .i64 1)).toArray) (cs' := (ints ((List.replicate n 0).set y 1)).toArray) (by simp [ints, List.map_set]))
      have hgl := bg.lt
      have HBF := Lib.hid (hb1.alloc hzz1 (.cells ((ints (List.replicate n 0)).set y (.int .i64 1)).toArray 3))
      clear hcc hsc s1 Rz R1 bg hbW hwh hue hyn2
      go_wp2_with fail
      go_ret2
      refine ⟨w2.heap.size, hzz1, by simp, rfl, ?_, HBF.out⟩
      exact BG.out
set_option maxRecDepth 100000 in
set_option maxHeartbeats 16000000 in
theorem refBest_no (A : Option Addr) (n c : Nat) (l : List Int) (most : Int) (w : World) (h : Rd w w.heap.size 1 A n (ints l)) (hn3 : n ≤ 300) (v : Int) (hv : refuseW l most = v) (h0 : ¬ v = 0) :
    Calls Try.prog 47 #[.slice A n c, .int .i64 most] w fun e w' => e = .returned (.tuple #[.slice none 0 0, .int .i64 v]) ∧ Below w.heap.size w w' := by
  have hl : l.length = n := rd_len h
  by_cases hbig : 257 < n
  · obtain rfl : v = 3 := by rw [← hv]; unfold refuseW; rw [if_pos (by omega)]
    have hbI : (257 : Int) < (n : Int) := by omega
    clear hv hl
    go_enter Try.func47, Try.ntmps47
    go_wp2_with fail
    go_ret2
    exact ⟨rfl, Below.refl _ _⟩
  · have hbI : ¬ (257 : Int) < (n : Int) := by omega
    by_cases hm1 : most < 1
    · obtain rfl : v = 2 := by rw [← hv]; unfold refuseW; rw [if_neg (by omega), if_pos (.inl hm1)]
      clear hv hl
      go_enter Try.func47, Try.ntmps47
      go_wp2_with fail
      go_ret2
      exact ⟨rfl, Below.refl _ _⟩
    · by_cases hm2 : 15 < most
      · obtain rfl : v = 2 := by rw [← hv]; unfold refuseW; rw [if_neg (by omega), if_pos (.inr (.inl hm2))]
        clear hv hl
        go_enter Try.func47, Try.ntmps47
        go_wp2_with fail
        go_ret2
        exact ⟨rfl, Below.refl _ _⟩
      · obtain ⟨mm, rfl⟩ : ∃ mm : Nat, most = ((mm + 1 : Nat) : Int) := ⟨(most - 1).toNat, by omega⟩
        have hmm : mm ≤ 14 := by omega
        have hd1 : decide ((mm : Int) + 1 < 1) = false := by simp; omega
        have hd2 : decide ((15 : Int) < (mm : Int) + 1) = false := by simp; omega
        have HVB := Lib.hid (fun hb : l.any badN = true => show v = 2 by rw [← hv]; unfold refuseW; rw [if_neg (by omega), refuseW_any, if_pos (.inr (.inr hb))])
        have HVR := Lib.hid (fun hb : l.any badN = false => show v = 3 ∧ 2 ^ (mm + 1) < usedL l by
          have hor : ¬ (((mm + 1 : Nat) : Int) < 1 ∨ 15 < ((mm + 1 : Nat) : Int) ∨ l.any badN = true) := by
            rintro (h | h | h)
            · omega
            · omega
            · rw [hb] at h; cases h
          have e : refuseW l ((mm + 1 : Nat) : Int) = if 2 ^ (mm + 1) < usedL l then 3 else 0 := by unfold refuseW; rw [if_neg (show ¬ 257 < l.length by omega), refuseW_any, if_neg hor, Int.toNat_natCast]
          rw [e] at hv
          split at hv
          · exact ⟨hv.symm, by assumption⟩
          · exact absurd hv.symm h0)
        have CF := fun w (h : Rd w w.heap.size 1 A n (ints l)) => first_any A n c l w h (by omega)
        have CPW := power_any (mm + 1) (by omega)
        have hn0 : l.length ≤ n := by omega
        have hn0' : n ≤ l.length := by omega
        clear hv hl
        go_enter Try.func47, Try.ntmps47
        go_wp2_with fail
        go_loopw [6] (fun s wr => ∃ k : Nat, s = .int .i64 k ∧ k ≤ n ∧ (l.take k).any badN = false ∧ wr = w) (fun s _ => n - (intOf s).toNat)
        case atStart => exact ⟨0, rfl, by omega, rfl, rfl⟩
        case round =>
          obtain ⟨k, rfl, hk, hy, rfl⟩ := hrel
          have HY := Lib.hid hy
          clear hy
          by_cases hlt : k < n
          · have hkl : k < l.length := by omega
            obtain ⟨b, o, rfl, hb, hc⟩ := rd_ints h (by omega)
            have d0 : wr.cell? ⟨b, o + k, none⟩ = some (.int .i64 l[k]) := hc k hkl
            have HS := Lib.hid (show (l.take (k + 1)).any badN = ((l.take k).any badN || badN l[k]) by rw [List.take_succ_eq_append_getElem hkl, List.any_append]; simp)
            have HM := Lib.hid (fun hb : badN l[k] = true => (List.any_eq_true.2 ⟨l[k], List.getElem_mem hkl, hb⟩ : l.any badN = true))
            obtain ⟨x, hx⟩ : ∃ x, l[k] = x := ⟨_, rfl⟩
            rw [hx] at d0 HS HM
            have hkI : (k : Int) < (n : Int) := by omega
            have hk0 : (0 : Int) ≤ (k : Int) := by omega
            have hadd : IntKind.i64.wrap ((k : Int) + 1) = (k : Int) + 1 := w64k (by omega) (by omega)
            clear hc hx
            by_cases q1 : x < 0
            · have hv2 := HVB.out (HM.out (by simp [badN, q1]))
              subst hv2
              go_wp2_with fail
              try rw [Exit.noGoto_ret]
              go_ret2
              exact ⟨rfl, Below.refl _ _⟩
            · by_cases q2 : 1000000 < x
              · have hv2 := HVB.out (HM.out (by simp [badN, q2]))
                subst hv2
                go_wp2_with fail
                try rw [Exit.noGoto_ret]
                go_ret2
                exact ⟨rfl, Below.refl _ _⟩
              · have HB0 := Lib.hid (show badN x = false by simp [badN]; omega)
                go_wp2_with fail
                go_roundw
                case rel => exact ⟨k + 1, by go_num, by omega, by rw [HS.out, HY.out, HB0.out]; rfl, by first | rfl | trivial⟩
                case measure => simp [intOf]; omega
          · have hkI : ¬ (k : Int) < (n : Int) := by omega
            have e := HY.out
            rw [List.take_of_length_le (by omega)] at e
            obtain ⟨hv3, hpw⟩ := HVR.out e
            subst hv3
            obtain ⟨z, hz⟩ : ∃ z, 2 ^ (mm + 1) = z := ⟨_, rfl⟩
            rw [hz] at hpw
            obtain ⟨f, hf⟩ : ∃ f, usedL l = f := ⟨_, rfl⟩
            rw [hf] at hpw CF
            have CPW2 := fun w => CPW w z hz
            have hzf : (z : Int) < (f : Int) := by omega
            clear e hz hf CPW
            go_wp2_with fail
            refine (CF _ h).mono ?_
            rintro e w1 ⟨A2, c2, ts, rfl, R1, hT, hb1⟩
            clear CF hT
            go_wp2_with fail
            refine (CPW2 _).mono ?_
            rintro e w2 ⟨rfl, rfl⟩
            go_wp2_with fail
            go_ret2
            exact ⟨rfl, hb1⟩
end LenW
end Go.Proofs.Ytdfclgpkhfpkhaa

namespace Go.Proofs.Ytdfclgpkhfpkhaa
set_option linter.unusedVariables false
set_option linter.unusedSimpArgs false
set_option linter.unnecessarySimpa false
open Go.RowKit
namespace LenW

/-- A thing's symbols. -/
def symW (G : List (Int × Int)) : Nat → (Int × Int) → List Int
  | 0, x => [x.2]
  | m + 1, x => if x.2 < 0 then symW G m ((rowW G m).getD (2 * (-1 - x.2).toNat) (0, 0)) ++ symW G m ((rowW G m).getD (2 * (-1 - x.2).toNat + 1) (0, 0)) else [x.2]
def hW (G : List (Int × Int)) (m : Nat) (x : Int × Int) : PT := (x.1, symW G m x, decide (0 ≤ x.2))
theorem sym_leaf (G : List (Int × Int)) (m : Nat) (x : Int × Int) (h : 0 ≤ x.2) : symW G m x = [x.2] := by
  cases m with
  | zero => rfl
  | succ m => rw [symW, if_neg (by omega)]
theorem h_leaf (G : List (Int × Int)) (m : Nat) (x : Int × Int) (h : 0 ≤ x.2) : hW G m x = leafP x := by
  unfold hW leafP
  rw [sym_leaf G m x h]
  simp [h]
theorem mrg_up {a b : List (Int × Int)} (ha : upW a) (hb : upW b) : upW (mrg a b) := by
  suffices ∀ n (a b : List (Int × Int)), a.length + b.length ≤ n → upW a → upW b → upW (mrg a b) from this _ a b (Nat.le_refl _) ha hb
  intro n
  induction n with
  | zero =>
    intro a b h _ hb
    obtain rfl := List.length_eq_zero_iff.1 (show a.length = 0 by omega)
    exact hb
  | succ n ih =>
    intro a b h ha hb
    match a, b with
    | [], b => exact hb
    | x :: a, [] => rw [mrg_right]; exact ha
    | x :: a, y :: b =>
      simp only [List.length_cons] at h
      rw [mrg_cons]
      obtain ⟨a1, a2⟩ := List.pairwise_cons.1 ha
      obtain ⟨b1, b2⟩ := List.pairwise_cons.1 hb
      split
      · rename_i hle
        refine List.pairwise_cons.2 ⟨fun z hz => ?_, ih a (y :: b) (by simp only [List.length_cons]; omega) a2 hb⟩
        rcases List.mem_append.1 ((mrg_perm _ _).mem_iff.1 hz) with h | h
        · exact a1 z h
        · rcases List.mem_cons.1 h with rfl | h
          · exact hle
          · exact Int.le_trans hle (b1 z h)
      · rename_i hle
        refine List.pairwise_cons.2 ⟨fun z hz => ?_, ih (x :: a) b (by simp only [List.length_cons]; omega) ha b2⟩
        rcases List.mem_append.1 ((mrg_perm _ _).mem_iff.1 hz) with h | h
        · rcases List.mem_cons.1 h with rfl | h
          · omega
          · have := a1 z h; omega
        · exact b1 z h
theorem pkgs_up {r : List (Int × Int)} (h : upW r) : upW (pkgs 0 r) := by
  refine List.pairwise_iff_getElem.2 (fun i j hi hj hij => ?_)
  have hl := pkgs_len r 0
  have e1 := pkgs_get r 0 i (by omega)
  have e2 := pkgs_get r 0 j (by omega)
  rw [List.getElem?_eq_getElem hi] at e1
  rw [List.getElem?_eq_getElem hj] at e2
  rw [Option.some.inj e1, Option.some.inj e2]
  have h1 := up_get h (2 * i) (2 * j) (by omega) (by omega)
  have h2 := up_get h (2 * i + 1) (2 * j + 1) (by omega) (by omega)
  dsimp only
  omega
theorem rowW_up {G : List (Int × Int)} (h : upW G) (m : Nat) : upW (rowW G m) := by
  induction m with
  | zero => exact h
  | succ m ih => exact mrg_up h (pkgs_up ih)
theorem pks_h (G : List (Int × Int)) (m : Nat) : pksP ((rowW G m).map (hW G m)) = (pkgs 0 (rowW G m)).map (hW G (m + 1)) := by
  refine List.ext_getElem? (fun k => ?_)
  have l1 := pksP_len ((rowW G m).map (hW G m))
  have l2 := pkgs_len (rowW G m) 0
  rw [List.length_map] at l1
  rcases Nat.lt_or_ge (2 * k + 1) (rowW G m).length with h | h
  · rw [pksP_get _ k (by rw [List.length_map]; exact h), List.getElem?_map, pkgs_get _ 0 k h]
    simp only [List.getElem_map, Option.map_some]
    congr 1
    unfold hW
    rw [symW, if_pos (by dsimp only; omega)]
    have e : (-1 - (-1 - ((0 + k : Nat) : Int))).toNat = k := by omega
    dsimp only
    rw [e, List.getD_eq_getElem?_getD, List.getD_eq_getElem?_getD, List.getElem?_eq_getElem (show 2 * k < (rowW G m).length by omega), List.getElem?_eq_getElem h]
    have e2 : decide ((0 : Int) ≤ -1 - ((0 + k : Nat) : Int)) = false := by simp; omega
    rw [e2]
    rfl
  · rw [List.getElem?_eq_none (by omega), List.getElem?_eq_none (by rw [List.length_map]; omega)]
theorem puts_end (P : List PT) : ∀ D : List PT, (∀ d ∈ D, ∀ x ∈ P, goesP d x = true) → P.Pairwise (fun a b => goesP a b = true) → putsP P D = D ++ P := by
  induction P with
  | nil => intro D _ _; simp [putsP]
  | cons x P ih =>
    intro D h1 h2
    obtain ⟨p1, p2⟩ := List.pairwise_cons.1 h2
    have e : ∀ D : List PT, (∀ d ∈ D, goesP d x = true) → putP x D = D ++ [x] := by
      intro D
      induction D with
      | nil => intro _; rfl
      | cons d D ihD => intro h; rw [putP, if_pos (h d (by simp)), ihD (fun d hd => h d (by simp [hd]))]; rfl
    show putsP P (putP x D) = _
    rw [e D (fun d hd => h1 d hd x (by simp)), ih _ (fun d hd z hz => ?_) p2]
    · simp
    · rcases List.mem_append.1 hd with h | h
      · exact h1 d h z (by simp [hz])
      · simp at h; subst h; exact p1 z hz
/-- A leaf is put: ahead of packages that weigh as much. -/
def putW (x : Int × Int) : List (Int × Int) → List (Int × Int)
  | [] => [x]
  | y :: r => if y.1 < x.1 ∨ (y.1 = x.1 ∧ 0 ≤ y.2) then y :: putW x r else x :: y :: r
theorem put_h (G : List (Int × Int)) (m : Nat) (x : Int × Int) (hx : 0 ≤ x.2) (r : List (Int × Int)) : putP (hW G m x) (r.map (hW G m)) = (putW x r).map (hW G m) := by
  induction r with
  | nil => rfl
  | cons y r ih =>
    have e : goesP (hW G m y) (hW G m x) = decide (y.1 < x.1 ∨ (y.1 = x.1 ∧ 0 ≤ y.2)) := by
      rw [Bool.eq_iff_iff]
      simp [goesP, hW, hx]
    rw [List.map_cons, putP, putW, e]
    by_cases h : y.1 < x.1 ∨ (y.1 = x.1 ∧ 0 ≤ y.2)
    · rw [if_pos (by simpa using h), if_pos h, List.map_cons, ih]
    · rw [if_neg (by simpa using h), if_neg h]; rfl
theorem putW_all (x : Int × Int) (l : List (Int × Int)) (h : ∀ y ∈ l, y.1 ≤ x.1 ∧ 0 ≤ y.2) : putW x l = l ++ [x] := by
  induction l with
  | nil => rfl
  | cons y r ih =>
    have := h y (by simp)
    rw [putW, if_pos (by omega), ih (fun y hy => h y (by simp [hy]))]
    rfl
theorem mrg_one (x : Int × Int) (P : List (Int × Int)) (hP : ∀ y ∈ P, y.2 < 0) : mrg [x] P = putW x P := by
  induction P with
  | nil => rfl
  | cons y P ih =>
    have := hP y (by simp)
    rw [mrg_cons, putW]
    by_cases h : x.1 ≤ y.1
    · rw [if_pos h, if_neg (by omega)]; rfl
    · rw [if_neg h, if_pos (by omega), ih (fun y hy => hP y (by simp [hy]))]
theorem mrg_snoc (x : Int × Int) (L : List (Int × Int)) : ∀ (P : List (Int × Int)), (∀ y ∈ L, y.1 ≤ x.1 ∧ 0 ≤ y.2) → (∀ y ∈ P, y.2 < 0) → mrg (L ++ [x]) P = putW x (mrg L P) := by
  induction L with
  | nil => intro P _ hP; exact mrg_one x P hP
  | cons a L ihL =>
    intro P
    induction P with
    | nil => intro hL _; rw [mrg_right, mrg_right, putW_all x _ hL]
    | cons y P ihP =>
      intro hL hP
      have ha := hL a (by simp)
      have hy := hP y (by simp)
      rw [List.cons_append, mrg_cons, mrg_cons]
      by_cases h : a.1 ≤ y.1
      · rw [if_pos h, if_pos h, putW, if_pos (by omega), ihL (y :: P) (fun z hz => hL z (by simp [hz])) hP]
      · rw [if_neg h, if_neg h, putW, if_pos (by omega), ← ihP hL (fun z hz => hP z (by simp [hz]))]
        rfl
theorem puts_mrg (G : List (Int × Int)) (m : Nat) (P : List (Int × Int)) (hP : ∀ y ∈ P, y.2 < 0) (L : List (Int × Int)) : upW L → (∀ y ∈ L, 0 ≤ y.2) → putsP (L.map (hW G m)) (P.map (hW G m)) = (mrg L P).map (hW G m) := by
  suffices ∀ n (L : List (Int × Int)), L.length = n → upW L → (∀ y ∈ L, 0 ≤ y.2) → putsP (L.map (hW G m)) (P.map (hW G m)) = (mrg L P).map (hW G m) from this _ L rfl
  intro n
  induction n with
  | zero => intro L h _ _; obtain rfl := List.length_eq_zero_iff.1 h; rfl
  | succ n ih =>
    intro L h hu hl
    obtain ⟨a, x, rfl⟩ : ∃ a x, L = a ++ [x] := ⟨L.dropLast, L.getLast (by intro e; subst e; simp at h), (List.dropLast_concat_getLast _).symm⟩
    have hq := (List.pairwise_append.1 hu)
    rw [List.map_append, List.map_singleton, putsP_snoc, ih a (by simpa using h) hq.1 (fun y hy => hl y (by simp [hy])), put_h G m x (hl x (by simp)),
      mrg_snoc x a P (fun y hy => ⟨hq.2.2 y hy x (by simp), hl y (by simp [hy])⟩) hP]
theorem row_h {G : List (Int × Int)} (hu : upW G) (hl : ∀ y ∈ G, 0 ≤ y.2) (m : Nat) : rowP (G.map leafP) m = (rowW G m).map (hW G m) := by
  have eF : ∀ m, G.map leafP = G.map (hW G m) := fun m => List.map_congr_left (fun x hx => (h_leaf G m x (hl x hx)).symm)
  induction m with
  | zero => exact eF 0
  | succ m ih =>
    have hP0 : putsP ((pkgs 0 (rowW G m)).map (hW G (m + 1))) [] = (pkgs 0 (rowW G m)).map (hW G (m + 1)) := by
      refine puts_end _ [] (fun d hd => by simp at hd) ?_
      have hp := pkgs_up (rowW_up hu m)
      have hn := pkgs_neg (rowW G m) 0
      refine List.pairwise_map.2 (List.Pairwise.imp_of_mem (fun {a b} ha hb hab => ?_) hp)
      have h1 := hn a ha
      have h2 := hn b hb
      have e1 : ¬ (0 : Int) ≤ b.2 := by omega
      have e2 : ¬ (0 : Int) ≤ a.2 := by omega
      simp only [goesP, hW, Bool.or_eq_true, Bool.and_eq_true, decide_eq_true_eq, e1, e2, decide_false, Bool.not_false, or_true, and_true]
      omega
    rw [rowP, ih, nextP, pks_h, eF (m + 1), hP0, puts_mrg G (m + 1) _ (pkgs_neg _ 0) G hu hl]
    rfl
theorem incL_comm (L : List Int) (a b : Int) : incL (incL L a) b = incL (incL L b) a := by
  unfold incL
  by_cases h : a.toNat = b.toNat
  · rw [h]
  · rw [List.getElem?_set_ne h, List.getElem?_set_ne (fun e => h e.symm), List.set_comm _ _ h]
theorem incs_perm {S T : List Int} (h : S.Perm T) : ∀ L : List Int, S.foldl incL L = T.foldl incL L := by
  induction h with
  | nil => intro L; rfl
  | cons x _ ih => intro L; exact ih _
  | swap x y l => intro L; show List.foldl incL (incL (incL L y) x) l = List.foldl incL (incL (incL L x) y) l; rw [incL_comm]
  | trans _ _ ih1 ih2 => intro L; rw [ih1, ih2]
theorem sums_flat (ts : List PT) : ∀ L : List Int, sumsP ts L = (ts.flatMap (·.2.1)).foldl incL L := by
  induction ts with
  | nil => intro L; rfl
  | cons t ts ih => intro L; show sumsP ts (t.2.1.foldl incL L) = _; rw [ih, List.flatMap_cons, List.foldl_append]
theorem bump_flat (l : List (Int × Int)) : ∀ L : List Int, l.foldl bumpL L = ((l.filter fun x => !decide (x.2 < 0)).map (·.2)).foldl incL L := by
  induction l with
  | nil => intro L; rfl
  | cons x l ih =>
    intro L
    rw [List.foldl_cons, ih, List.filter_cons]
    by_cases h : x.2 < 0
    · rw [bumpL, if_pos h]; simp [h]
    · rw [bumpL, if_neg h]; simp [h]; rfl
theorem flat_parts (f : Int × Int → List Int) (l : List (Int × Int)) : (l.flatMap f).Perm ((l.filter fun x => !decide (x.2 < 0)).flatMap f ++ (l.filter fun x => decide (x.2 < 0)).flatMap f) := by
  induction l with
  | nil => exact List.Perm.refl _
  | cons x l ih =>
    rw [List.filter_cons, List.filter_cons, List.flatMap_cons]
    by_cases h : x.2 < 0
    · simp only [h, decide_true, Bool.not_true, Bool.false_eq_true, if_false, if_true, List.flatMap_cons]
      refine (ih.append_left _).trans ?_
      rw [← List.append_assoc, ← List.append_assoc]
      exact List.Perm.append_right _ List.perm_append_comm
    · simp only [h, decide_false, Bool.not_false, if_true, Bool.false_eq_true, if_false, List.flatMap_cons]
      rw [List.append_assoc]
      exact ih.append_left _
theorem leaf_flat (G : List (Int × Int)) (m : Nat) (l : List (Int × Int)) : (l.filter fun x => !decide (x.2 < 0)).flatMap (symW G m) = (l.filter fun x => !decide (x.2 < 0)).map (·.2) := by
  induction l with
  | nil => rfl
  | cons x l ih =>
    rw [List.filter_cons]
    by_cases h : x.2 < 0
    · simp only [h, decide_true, Bool.not_true, Bool.false_eq_true, if_false]; exact ih
    · simp only [h, decide_false, Bool.not_false, if_true, List.flatMap_cons, List.map_cons, ih]
      rw [sym_leaf G m x (by omega)]
      rfl
theorem mrg_packs (a b : List (Int × Int)) (ha : ∀ y ∈ a, 0 ≤ y.2) (hb : ∀ y ∈ b, y.2 < 0) : (mrg a b).filter (fun x => decide (x.2 < 0)) = b := by
  suffices ∀ n (a b : List (Int × Int)), a.length + b.length ≤ n → (∀ y ∈ a, 0 ≤ y.2) → (∀ y ∈ b, y.2 < 0) → (mrg a b).filter (fun x => decide (x.2 < 0)) = b from this _ a b (Nat.le_refl _) ha hb
  have full : ∀ b : List (Int × Int), (∀ y ∈ b, y.2 < 0) → b.filter (fun x => decide (x.2 < 0)) = b := fun b hb => List.filter_eq_self.2 (fun x hx => by simpa using hb x hx)
  have none : ∀ a : List (Int × Int), (∀ y ∈ a, 0 ≤ y.2) → a.filter (fun x => decide (x.2 < 0)) = [] := fun a ha => List.filter_eq_nil_iff.2 (fun x hx => by have := ha x hx; simp; omega)
  intro n
  induction n with
  | zero =>
    intro a b h ha hb
    obtain rfl := List.length_eq_zero_iff.1 (show a.length = 0 by omega)
    exact full b hb
  | succ n ih =>
    intro a b h ha hb
    match a, b with
    | [], b => exact full b hb
    | x :: a, [] => rw [mrg_right]; exact none _ ha
    | x :: a, y :: b =>
      simp only [List.length_cons] at h
      have hx := ha x (by simp)
      have hy := hb y (by simp)
      rw [mrg_cons]
      split
      · rw [List.filter_cons, if_neg (by simp; omega), ih a (y :: b) (by simp only [List.length_cons]; omega) (fun z hz => ha z (by simp [hz])) hb]
      · rw [List.filter_cons, if_pos (by simpa using hy), ih (x :: a) b (by simp only [List.length_cons]; omega) ha (fun z hz => hb z (by simp [hz]))]
theorem take_filter (p : Int × Int → Bool) (l : List (Int × Int)) (n : Nat) : (l.take n).filter p = (l.filter p).take ((l.take n).filter p).length := by
  have e : l.filter p = (l.take n).filter p ++ (l.drop n).filter p := by rw [← List.filter_append, List.take_append_drop]
  rw [e, List.take_left']
  rfl
theorem pkgs_flat (G : List (Int × Int)) (m : Nat) : ∀ p, 2 * p ≤ (rowW G m).length → ((pkgs 0 (rowW G m)).take p).flatMap (symW G (m + 1)) = ((rowW G m).take (2 * p)).flatMap (symW G m) := by
  intro p
  induction p with
  | zero => intro _; rfl
  | succ p ih =>
    intro h
    have hp : 2 * p + 1 < (rowW G m).length := by omega
    rw [pkgs_take _ p hp, List.flatMap_append, ih (by omega), show 2 * (p + 1) = 2 * p + 1 + 1 by omega, List.take_succ_eq_append_getElem hp, List.take_succ_eq_append_getElem (show 2 * p < (rowW G m).length by omega)]
    rw [List.flatMap_append, List.flatMap_append, List.append_assoc]
    congr 1
    simp only [List.flatMap_cons, List.flatMap_nil, List.append_nil]
    rw [symW, if_pos (by dsimp only; omega)]
    have e : (-1 - (-1 - (p : Int))).toNat = p := by omega
    dsimp only
    rw [e, List.getD_eq_getElem?_getD, List.getD_eq_getElem?_getD, List.getElem?_eq_getElem (show 2 * p < (rowW G m).length by omega), List.getElem?_eq_getElem hp]
    rfl
theorem taken_flat {G : List (Int × Int)} (hl : ∀ y ∈ G, 0 ≤ y.2) (i : Nat) : ∀ (n : Nat) (L : List Int), (((rowW G i).take n).flatMap (symW G i)).foldl incL L = takenW G (i + 1) n L := by
  induction i with
  | zero =>
    intro n L
    rw [takenW]
    have hpk : packsW ((rowW G 0).take n) = 0 := packsW_pos _ (fun x hx => hl x (List.mem_of_mem_take hx))
    by_cases h0 : n = 0
    · rw [if_pos h0, h0]; rfl
    · rw [if_neg h0, incs_perm (flat_parts _ _), List.foldl_append, leaf_flat, ← bump_flat]
      have hnone : (((rowW G 0).take n).filter fun x => decide (x.2 < 0)) = [] := List.eq_nil_of_length_eq_zero hpk
      rw [hnone]
      rfl
  | succ i ih =>
    intro n L
    rw [takenW]
    by_cases h0 : n = 0
    · rw [if_pos h0, h0]; rfl
    · rw [if_neg h0, incs_perm (flat_parts _ _), List.foldl_append, leaf_flat, ← bump_flat, take_filter]
      have e : (rowW G (i + 1)).filter (fun x => decide (x.2 < 0)) = pkgs 0 (rowW G i) := mrg_packs _ _ hl (pkgs_neg _ 0)
      rw [e]
      show List.foldl incL _ (List.flatMap _ (List.take (packsW (List.take n (rowW G (i + 1)))) (pkgs 0 (rowW G i)))) = _
      rw [pkgs_flat G i _ (rowW_packs G hl i n), ih]
theorem best_same (l : List Int) (m : Nat) (h : ¬ usedL l < 2) : sumsP ((rowP (firstP l l.length) m).take (2 * usedL l - 2)) (List.replicate l.length 0) = bestW l (m + 1) := by
  have hu : upW (lvs l) := sortW_up _
  have hl : ∀ y ∈ lvs l, 0 ≤ y.2 := fun y hy => (lvs_what l y hy).1
  rw [bestW_many l _ h, firstP_all, row_h hu hl, sums_flat, ← List.map_take, List.flatMap_map, ← taken_flat hl]
  rfl
end LenW
end Go.Proofs.Ytdfclgpkhfpkhaa
