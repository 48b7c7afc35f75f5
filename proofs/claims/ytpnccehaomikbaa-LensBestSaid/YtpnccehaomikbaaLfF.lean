/- The reference of package lens: Best of no symbol, of one; what it refuses. -/
import Derived.Test.YtpnccehaomikbaaLfE
namespace Go.Proofs.Ytpnccehaomikbaa
set_option linter.unusedVariables false
set_option linter.unusedSimpArgs false
set_option linter.unnecessarySimpa false
open Go.RowKit
namespace LenW

/-- A leaf. -/
def leafP (x : Int × Int) : PT := (x.1, [x.2], true)
theorem goes_leaf (x y : Int × Int) : goesP (leafP y) (leafP x) = decide (y.1 ≤ x.1) := by
  unfold goesP leafP
  dsimp only
  by_cases h1 : y.1 < x.1
  · have h3 : y.1 ≤ x.1 := by omega
    simp [h1, h3]
  · by_cases h2 : y.1 = x.1
    · simp [h2]
    · have h3 : ¬ y.1 ≤ x.1 := by omega
      simp [h1, h2, h3]
theorem ins_leaf (x : Int × Int) (l : List (Int × Int)) : (insW x l).map leafP = putP (leafP x) (l.map leafP) := by
  induction l with
  | nil => rfl
  | cons y r ih =>
    rw [insW, List.map_cons, putP]
    by_cases h : x.1 < y.1
    · rw [if_pos h, if_neg (by rw [goes_leaf]; simpa using h)]
      rfl
    · rw [if_neg h, if_pos (by rw [goes_leaf]; simp; omega), List.map_cons, ih]
theorem firstP_eq (l : List Int) (k : Nat) (hk : k ≤ l.length) : firstP l k = (sortW (lvsK l k)).map leafP := by
  induction k with
  | zero => rfl
  | succ k ih =>
    rw [firstP, lvsK_succ l k (by omega), List.getElem?_eq_getElem (show k < l.length by omega), Option.getD_some]
    split
    · rw [sortW_snoc, ins_leaf, ih (by omega)]; rfl
    · rw [List.append_nil, ih (by omega)]
theorem firstP_all (l : List Int) : firstP l l.length = (lvs l).map leafP := firstP_eq l _ (Nat.le_refl _)
set_option maxRecDepth 100000 in
set_option maxHeartbeats 16000000 in
theorem refBest_none (A : Option Addr) (n c : Nat) (l : List Int) (most : Int) (w : World) (h : Rd w w.heap.size 1 A n (ints l)) (hv : refuseW l most = 0) (hf0 : usedL l = 0) :
    Calls Try.prog 9 #[.slice A n c, .int .i64 most] w fun e w' => ∃ g, w.heap.size ≤ g ∧ g < w'.heap.size ∧ e = .returned (.tuple #[.slice (some ⟨g, 0, none⟩) n n, .int .i64 0]) ∧ Blk w' g 3 (ints (bestW l most.toNat)).toArray ∧ Below w.heap.size w w' := by
  have hl : l.length = n := rd_len h
  obtain ⟨hl257, hm1, hm15, hbad, hroom⟩ := refuseW_ok hv
  have hn : n ≤ 257 := by omega
  have HBAD := Lib.hid hbad
  have HFA := Lib.hid (firstP_all l)
  have HLV := Lib.hid (show (lvs l).length = 0 by rw [lvs_len, hf0])
  have HWH := Lib.hid (show ∀ x ∈ lvs l, 0 ≤ x.2 ∧ x.2 < (n : Int) from fun x hx => by have := lvs_what l x hx; omega)
  have HBW := Lib.hid (show bestW l most.toNat = (lvs l).foldl oneW (List.replicate n 0) by rw [bestW_few l _ (by omega), hl])
  have CF := fun w (h : Rd w w.heap.size 1 A n (ints l)) => first_any A n c l w h (by omega)
  rw [HBW.out]
  obtain ⟨F, hF⟩ : ∃ F, firstP l l.length = F := ⟨_, rfl⟩
  obtain ⟨G, hG⟩ : ∃ G, lvs l = G := ⟨_, rfl⟩
  rw [hF] at HFA CF
  rw [hG] at HFA HLV HWH ⊢
  rw [hf0] at CF
  obtain ⟨mm, rfl⟩ : ∃ mm : Nat, most = ((mm + 1 : Nat) : Int) := ⟨(most - 1).toNat, by omega⟩
  have hmm : mm ≤ 14 := by omega
  obtain ⟨z, hz⟩ : ∃ z, 2 ^ (mm + 1) = z := ⟨_, rfl⟩
  have CPW := power_any (mm + 1) (by omega)
  have CPW2 := fun w => CPW w z hz
  have hz1 : 1 ≤ z := by rw [← hz]; exact Nat.one_le_two_pow
  have hd1 : decide ((mm : Int) + 1 < 1) = false := by simp; omega
  have hd2 : decide ((15 : Int) < (mm : Int) + 1) = false := by simp; omega
  have hfz1 : ¬ (z : Int) < 1 := by omega
  have hfz0 : ¬ (z : Int) < 0 := by omega
  have hF1 : ¬ ((n : Int) > 257) := by omega
  have hn0 : l.length ≤ n := by omega
  have hn0' : n ≤ l.length := by omega
  clear hF hG hz CPW hv hbad hroom hl hf0 HBW
  go_enter Try.func9, Try.ntmps9
  go_wp2_with fail
  go_loopw [6] (fun s wr => ∃ k : Nat, s = .int .i64 k ∧ k ≤ n ∧ wr = w) (fun s _ => n - (intOf s).toNat)
  case atStart => exact ⟨0, rfl, by omega, rfl⟩
  case round =>
    obtain ⟨k, rfl, hk, rfl⟩ := hrel
    by_cases hlt : k < n
    · have hkl : k < l.length := by omega
      obtain ⟨b, o, rfl, hb, hc⟩ := rd_ints h (by omega)
      have d0 : wr.cell? ⟨b, o + k, none⟩ = some (.int .i64 l[k]) := hc k hkl
      have hx2 := (List.any_eq_false.1 HBAD.out) _ (List.getElem_mem hkl)
      simp only [badN, Bool.or_eq_true, decide_eq_true_eq, not_or] at hx2
      obtain ⟨x, hx⟩ : ∃ x, l[k] = x := ⟨_, rfl⟩
      rw [hx] at d0 hx2
      have hx3 : ¬ x < 0 := hx2.1
      have hx4 : ¬ 1000000 < x := hx2.2
      have hkI : (k : Int) < (n : Int) := by omega
      have hk0 : (0 : Int) ≤ (k : Int) := by omega
      have hadd : IntKind.i64.wrap ((k : Int) + 1) = (k : Int) + 1 := w64k (by omega) (by omega)
      clear hc hx hx2
      go_wp2_with fail
      go_roundw
      case rel => exact ⟨k + 1, by go_num, by omega, by first | rfl | trivial⟩
      case measure => simp [intOf]; omega
    · have hkI : ¬ (k : Int) < (n : Int) := by omega
      go_wp2_with fail
      refine (CF _ h).mono ?_
      rintro e w1 ⟨A2, c2, ts, rfl, R1, hT, hb1⟩
      have h1 := h.below hb1
      have hzz1 := hb1.size
      clear CF h
      go_wp2_with fail
      refine (CPW2 _).mono ?_
      rintro e w2 ⟨rfl, rfl⟩
      have hmk : (Instr.makeSlice 22 (.int .i64 n) (.int .i64 n)).run Try.prog w2 = .ok (.slice (some ⟨w2.heap.size, 0, none⟩) n n) (w2.alloc (.cells (madeCells #[.int .i64 0] n) 3)) :=
        run_make_row' 22 3 (.int .i64 0) 8 Try.underlying22 (by kernel_rfl) rfl .i64 .i64 n (by omega) (by omega) w2
      rw [made_ints] at hmk
      have bg := Blk.new w2 3 (ints (List.replicate n 0)).toArray
      have hbW := hb1.alloc hzz1 (.cells (ints (List.replicate n 0)).toArray 3)
      obtain rfl : G = [] := List.length_eq_zero_iff.1 HLV.out
      go_wp2_with fail
      go_ret2
      exact ⟨w2.heap.size, hzz1, by simp, rfl, bg, hbW⟩
set_option maxRecDepth 100000 in
set_option maxHeartbeats 16000000 in
theorem refBest_one (A : Option Addr) (n c : Nat) (l : List Int) (most : Int) (w : World) (h : Rd w w.heap.size 1 A n (ints l)) (hv : refuseW l most = 0) (hf0 : usedL l = 1) :
    Calls Try.prog 9 #[.slice A n c, .int .i64 most] w fun e w' => ∃ g, w.heap.size ≤ g ∧ g < w'.heap.size ∧ e = .returned (.tuple #[.slice (some ⟨g, 0, none⟩) n n, .int .i64 0]) ∧ Blk w' g 3 (ints (bestW l most.toNat)).toArray ∧ Below w.heap.size w w' := by
  have hl : l.length = n := rd_len h
  obtain ⟨hl257, hm1, hm15, hbad, hroom⟩ := refuseW_ok hv
  have hn : n ≤ 257 := by omega
  have HBAD := Lib.hid hbad
  have HFA := Lib.hid (firstP_all l)
  have HLV := Lib.hid (show (lvs l).length = 1 by rw [lvs_len, hf0])
  have HWH := Lib.hid (show ∀ x ∈ lvs l, 0 ≤ x.2 ∧ x.2 < (n : Int) from fun x hx => by have := lvs_what l x hx; omega)
  have HBW := Lib.hid (show bestW l most.toNat = (lvs l).foldl oneW (List.replicate n 0) by rw [bestW_few l _ (by omega), hl])
  have CF := fun w (h : Rd w w.heap.size 1 A n (ints l)) => first_any A n c l w h (by omega)
  rw [HBW.out]
  obtain ⟨F, hF⟩ : ∃ F, firstP l l.length = F := ⟨_, rfl⟩
  obtain ⟨G, hG⟩ : ∃ G, lvs l = G := ⟨_, rfl⟩
  rw [hF] at HFA CF
  rw [hG] at HFA HLV HWH ⊢
  rw [hf0] at CF
  obtain ⟨mm, rfl⟩ : ∃ mm : Nat, most = ((mm + 1 : Nat) : Int) := ⟨(most - 1).toNat, by omega⟩
  have hmm : mm ≤ 14 := by omega
  obtain ⟨z, hz⟩ : ∃ z, 2 ^ (mm + 1) = z := ⟨_, rfl⟩
  have CPW := power_any (mm + 1) (by omega)
  have CPW2 := fun w => CPW w z hz
  have hz1 : 1 ≤ z := by rw [← hz]; exact Nat.one_le_two_pow
  have hd1 : decide ((mm : Int) + 1 < 1) = false := by simp; omega
  have hd2 : decide ((15 : Int) < (mm : Int) + 1) = false := by simp; omega
  have hfz1 : ¬ (z : Int) < 1 := by omega
  have hfz0 : ¬ (z : Int) < 0 := by omega
  have hF1 : ¬ ((n : Int) > 257) := by omega
  have hn0 : l.length ≤ n := by omega
  have hn0' : n ≤ l.length := by omega
  clear hF hG hz CPW hv hbad hroom hl hf0 HBW
  go_enter Try.func9, Try.ntmps9
  go_wp2_with fail
  go_loopw [6] (fun s wr => ∃ k : Nat, s = .int .i64 k ∧ k ≤ n ∧ wr = w) (fun s _ => n - (intOf s).toNat)
  case atStart => exact ⟨0, rfl, by omega, rfl⟩
  case round =>
    obtain ⟨k, rfl, hk, rfl⟩ := hrel
    by_cases hlt : k < n
    · have hkl : k < l.length := by omega
      obtain ⟨b, o, rfl, hb, hc⟩ := rd_ints h (by omega)
      have d0 : wr.cell? ⟨b, o + k, none⟩ = some (.int .i64 l[k]) := hc k hkl
      have hx2 := (List.any_eq_false.1 HBAD.out) _ (List.getElem_mem hkl)
      simp only [badN, Bool.or_eq_true, decide_eq_true_eq, not_or] at hx2
      obtain ⟨x, hx⟩ : ∃ x, l[k] = x := ⟨_, rfl⟩
      rw [hx] at d0 hx2
      have hx3 : ¬ x < 0 := hx2.1
      have hx4 : ¬ 1000000 < x := hx2.2
      have hkI : (k : Int) < (n : Int) := by omega
      have hk0 : (0 : Int) ≤ (k : Int) := by omega
      have hadd : IntKind.i64.wrap ((k : Int) + 1) = (k : Int) + 1 := w64k (by omega) (by omega)
      clear hc hx hx2
      go_wp2_with fail
      go_roundw
      case rel => exact ⟨k + 1, by go_num, by omega, by first | rfl | trivial⟩
      case measure => simp [intOf]; omega
    · have hkI : ¬ (k : Int) < (n : Int) := by omega
      go_wp2_with fail
      refine (CF _ h).mono ?_
      rintro e w1 ⟨A2, c2, ts, rfl, R1, hT, hb1⟩
      have h1 := h.below hb1
      have hzz1 := hb1.size
      clear CF h
      go_wp2_with fail
      refine (CPW2 _).mono ?_
      rintro e w2 ⟨rfl, rfl⟩
      have hmk : (Instr.makeSlice 22 (.int .i64 n) (.int .i64 n)).run Try.prog w2 = .ok (.slice (some ⟨w2.heap.size, 0, none⟩) n n) (w2.alloc (.cells (madeCells #[.int .i64 0] n) 3)) :=
        run_make_row' 22 3 (.int .i64 0) 8 Try.underlying22 (by kernel_rfl) rfl .i64 .i64 n (by omega) (by omega) w2
      rw [made_ints] at hmk
      have bg := Blk.new w2 3 (ints (List.replicate n 0)).toArray
      have hbW := hb1.alloc hzz1 (.cells (ints (List.replicate n 0)).toArray 3)
      obtain ⟨x, rfl⟩ := List.length_eq_one_iff.1 HLV.out
      have hwh := HWH.out x (by simp)
      have hTT : ts.map TT.abs = [leafP x] := hT.trans HFA.out
      obtain ⟨t, rfl⟩ : ∃ t, ts = [t] := by
        match ts, hTT with
        | [t], _ => exact ⟨t, rfl⟩
      simp only [List.map_cons, List.map_nil, List.cons.injEq, and_true] at hTT
      obtain ⟨tw, tA, tn, tc, tl, tsy⟩ := t
      simp only [TT.abs, leafP, Prod.mk.injEq] at hTT
      obtain ⟨-, rfl, -⟩ := hTT
      obtain ⟨x1, x2⟩ := x
      dsimp only at hwh R1
      obtain ⟨y, rfl⟩ := Int.eq_ofNat_of_zero_le hwh.1
      have hyn : (y : Int) < (n : Int) := hwh.2
      have hyn2 : y < (List.replicate n (0 : Int)).length := by simp; omega
      have Rz := R1.below ((Below.refl _ _).alloc (Nat.le_refl _) (.cells (ints (List.replicate n 0)).toArray 3))
      obtain ⟨b, o, rfl, hbb, hcc⟩ := rd_tcells Rz.rd (by omega)
      obtain ⟨-, d1, -⟩ := hcc 0 (by simp)
      have s1 := (Rz.sym _ (List.mem_singleton.2 rfl)).rd
      dsimp only at s1
      have hs1 := rd_len s1
      simp only [List.length_singleton] at hs1
      subst hs1
      obtain ⟨sb, so, rfl, hsb, hsc⟩ := rd_ints s1 (by omega)
      have d2 := hsc 0 (by simp)
      simp only [Nat.zero_mul, Nat.add_zero, List.getElem_cons_zero] at d1 d2
      have hue : (List.replicate n (0 : Int))[y] = 0 := by simp
      have e5 := bg.cell_ y (v := .int .i64 0) (by rw [List.getElem?_toArray]; simp only [ints, List.getElem?_map, List.getElem?_eq_getElem hyn2, hue, Option.map_some])
      have f5 := bg.frozen y
      have BG := Lib.hid (blk_eq (Blk.new w2 3 ((ints (List.replicate n 0)).set y (.int .i64 1)).toArray) (cs' := (ints ((List.replicate n 0).set y 1)).toArray) (by simp [ints, List.map_set]))
      have hgl := bg.lt
      have HBF := Lib.hid (hb1.alloc hzz1 (.cells ((ints (List.replicate n 0)).set y (.int .i64 1)).toArray 3))
      clear hcc hsc s1 Rz R1 bg hbW hwh hue hyn2
      go_wp2_with fail
      go_ret2
      refine ⟨w2.heap.size, hzz1, by simp, rfl, ?_, HBF.out⟩
      exact BG.out
set_option maxRecDepth 100000 in
set_option maxHeartbeats 16000000 in
theorem refBest_no (A : Option Addr) (n c : Nat) (l : List Int) (most : Int) (w : World) (h : Rd w w.heap.size 1 A n (ints l)) (hn3 : n ≤ 300) (v : Int) (hv : refuseW l most = v) (h0 : ¬ v = 0) :
    Calls Try.prog 9 #[.slice A n c, .int .i64 most] w fun e w' => e = .returned (.tuple #[.slice none 0 0, .int .i64 v]) ∧ Below w.heap.size w w' := by
  have hl : l.length = n := rd_len h
  by_cases hbig : 257 < n
  · obtain rfl : v = 3 := by rw [← hv]; unfold refuseW; rw [if_pos (by omega)]
    have hbI : (257 : Int) < (n : Int) := by omega
    clear hv hl
    go_enter Try.func9, Try.ntmps9
    go_wp2_with fail
    go_ret2
    exact ⟨rfl, Below.refl _ _⟩
  · have hbI : ¬ (257 : Int) < (n : Int) := by omega
    by_cases hm1 : most < 1
    · obtain rfl : v = 2 := by rw [← hv]; unfold refuseW; rw [if_neg (by omega), if_pos (.inl hm1)]
      clear hv hl
      go_enter Try.func9, Try.ntmps9
      go_wp2_with fail
      go_ret2
      exact ⟨rfl, Below.refl _ _⟩
    · by_cases hm2 : 15 < most
      · obtain rfl : v = 2 := by rw [← hv]; unfold refuseW; rw [if_neg (by omega), if_pos (.inr (.inl hm2))]
        clear hv hl
        go_enter Try.func9, Try.ntmps9
        go_wp2_with fail
        go_ret2
        exact ⟨rfl, Below.refl _ _⟩
      · obtain ⟨mm, rfl⟩ : ∃ mm : Nat, most = ((mm + 1 : Nat) : Int) := ⟨(most - 1).toNat, by omega⟩
        have hmm : mm ≤ 14 := by omega
        have hd1 : decide ((mm : Int) + 1 < 1) = false := by simp; omega
        have hd2 : decide ((15 : Int) < (mm : Int) + 1) = false := by simp; omega
        have HVB := Lib.hid (fun hb : l.any badN = true => show v = 2 by rw [← hv]; unfold refuseW; rw [if_neg (by omega), refuseW_any, if_pos (.inr (.inr hb))])
        have HVR := Lib.hid (fun hb : l.any badN = false => show v = 3 ∧ 2 ^ (mm + 1) < usedL l by
          have hor : ¬ (((mm + 1 : Nat) : Int) < 1 ∨ 15 < ((mm + 1 : Nat) : Int) ∨ l.any badN = true) := by
            rintro (h | h | h)
            · omega
            · omega
            · rw [hb] at h; cases h
          have e : refuseW l ((mm + 1 : Nat) : Int) = if 2 ^ (mm + 1) < usedL l then 3 else 0 := by unfold refuseW; rw [if_neg (show ¬ 257 < l.length by omega), refuseW_any, if_neg hor, Int.toNat_natCast]
          rw [e] at hv
          split at hv
          · exact ⟨hv.symm, by assumption⟩
          · exact absurd hv.symm h0)
        have CF := fun w (h : Rd w w.heap.size 1 A n (ints l)) => first_any A n c l w h (by omega)
        have CPW := power_any (mm + 1) (by omega)
        have hn0 : l.length ≤ n := by omega
        have hn0' : n ≤ l.length := by omega
        clear hv hl
        go_enter Try.func9, Try.ntmps9
        go_wp2_with fail
        go_loopw [6] (fun s wr => ∃ k : Nat, s = .int .i64 k ∧ k ≤ n ∧ (l.take k).any badN = false ∧ wr = w) (fun s _ => n - (intOf s).toNat)
        case atStart => exact ⟨0, rfl, by omega, rfl, rfl⟩
        case round =>
          obtain ⟨k, rfl, hk, hy, rfl⟩ := hrel
          have HY := Lib.hid hy
          clear hy
          by_cases hlt : k < n
          · have hkl : k < l.length := by omega
            obtain ⟨b, o, rfl, hb, hc⟩ := rd_ints h (by omega)
            have d0 : wr.cell? ⟨b, o + k, none⟩ = some (.int .i64 l[k]) := hc k hkl
            have HS := Lib.hid (show (l.take (k + 1)).any badN = ((l.take k).any badN || badN l[k]) by rw [List.take_succ_eq_append_getElem hkl, List.any_append]; simp)
            have HM := Lib.hid (fun hb : badN l[k] = true => (List.any_eq_true.2 ⟨l[k], List.getElem_mem hkl, hb⟩ : l.any badN = true))
            obtain ⟨x, hx⟩ : ∃ x, l[k] = x := ⟨_, rfl⟩
            rw [hx] at d0 HS HM
            have hkI : (k : Int) < (n : Int) := by omega
            have hk0 : (0 : Int) ≤ (k : Int) := by omega
            have hadd : IntKind.i64.wrap ((k : Int) + 1) = (k : Int) + 1 := w64k (by omega) (by omega)
            clear hc hx
            by_cases q1 : x < 0
            · have hv2 := HVB.out (HM.out (by simp [badN, q1]))
              subst hv2
              go_wp2_with fail
              try rw [Exit.noGoto_ret]
              go_ret2
              exact ⟨rfl, Below.refl _ _⟩
            · by_cases q2 : 1000000 < x
              · have hv2 := HVB.out (HM.out (by simp [badN, q2]))
                subst hv2
                go_wp2_with fail
                try rw [Exit.noGoto_ret]
                go_ret2
                exact ⟨rfl, Below.refl _ _⟩
              · have HB0 := Lib.hid (show badN x = false by simp [badN]; omega)
                go_wp2_with fail
                go_roundw
                case rel => exact ⟨k + 1, by go_num, by omega, by rw [HS.out, HY.out, HB0.out]; rfl, by first | rfl | trivial⟩
                case measure => simp [intOf]; omega
          · have hkI : ¬ (k : Int) < (n : Int) := by omega
            have e := HY.out
            rw [List.take_of_length_le (by omega)] at e
            obtain ⟨hv3, hpw⟩ := HVR.out e
            subst hv3
            obtain ⟨z, hz⟩ : ∃ z, 2 ^ (mm + 1) = z := ⟨_, rfl⟩
            rw [hz] at hpw
            obtain ⟨f, hf⟩ : ∃ f, usedL l = f := ⟨_, rfl⟩
            rw [hf] at hpw CF
            have CPW2 := fun w => CPW w z hz
            have hzf : (z : Int) < (f : Int) := by omega
            clear e hz hf CPW
            go_wp2_with fail
            refine (CF _ h).mono ?_
            rintro e w1 ⟨A2, c2, ts, rfl, R1, hT, hb1⟩
            clear CF hT
            go_wp2_with fail
            refine (CPW2 _).mono ?_
            rintro e w2 ⟨rfl, rfl⟩
            go_wp2_with fail
            go_ret2
            exact ⟨rfl, hb1⟩
end LenW
end Go.Proofs.Ytpnccehaomikbaa
