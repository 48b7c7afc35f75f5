/- The walks of package lens and its reference: what lengths cost. -/
import Derived.Test.YtpnccehaomikbaaLenK
namespace Go.Proofs.Ytpnccehaomikbaa
set_option linter.unusedVariables false
set_option linter.unusedSimpArgs false
set_option linter.unnecessarySimpa false
open Go.RowKit
namespace LenW

def winW (n t : Int) : Int := if n < 0 ∨ t < n then 0 else n
theorem winW_le (n t : Int) (h : 0 ≤ t) : 0 ≤ winW n t ∧ winW n t ≤ t := by unfold winW; split <;> omega
def costK (a l : List Int) : Nat → Int
  | 0 => 0
  | k + 1 => costK a l k + winW (a[k]?.getD 0) 1000000 * winW (l[k]?.getD 0) 15
theorem costK_le (a l : List Int) (k : Nat) : 0 ≤ costK a l k ∧ costK a l k ≤ 15000000 * (k : Int) := by
  induction k with
  | zero => simp [costK]
  | succ k ih =>
    rw [costK]
    have h1 := winW_le (a[k]?.getD 0) 1000000 (by omega)
    have h2 := winW_le (l[k]?.getD 0) 15 (by omega)
    have h3 := Int.mul_nonneg h1.1 h2.1
    have h4 := Int.mul_le_mul h1.2 h2.2 h2.1 (by omega)
    omega
/-- How many count. -/
def costN (n1 n2 : Nat) : Nat := min (min n1 n2) 257
def costW (a l : List Int) : Int := costK a l (costN a.length l.length)
theorem within_any (n t : Int) (w : World) (v : Int) (hv : winW n t = v) : Calls Try.prog 26 #[.int .i64 n, .int .i64 t] w fun e w' => e = .returned (.int .i64 v) ∧ Below w.heap.size w w' := by
  by_cases h1 : n < 0
  · obtain rfl : v = 0 := by rw [← hv, winW, if_pos (.inl h1)]
    clear hv
    go_enter Try.func26, Try.ntmps26
    go_wp2_with fail
    go_ret
    exact ⟨rfl, Below.refl _ _⟩
  · by_cases h2 : t < n
    · obtain rfl : v = 0 := by rw [← hv, winW, if_pos (.inr h2)]
      clear hv
      go_enter Try.func26, Try.ntmps26
      go_wp2_with fail
      go_ret
      exact ⟨rfl, Below.refl _ _⟩
    · obtain rfl : v = n := by rw [← hv, winW, if_neg (by omega)]
      clear hv
      go_enter Try.func26, Try.ntmps26
      go_wp2_with fail
      go_ret
      exact ⟨rfl, Below.refl _ _⟩
def Case1 (p : Nat) : Prop := p ≤ 257
def Case2 (p : Nat) : Prop := 257 < p
theorem caseA1 {p : Nat} (h : Case1 p) : (p : Int) ≤ 257 := by unfold Case1 at h; omega
theorem caseA2 {p : Nat} (h : Case2 p) : ¬ (p : Int) ≤ 257 := by unfold Case2 at h; omega
theorem caseB1 {p : Nat} (h : Case1 p) : ¬ (257 : Int) < (p : Int) := by unfold Case1 at h; omega
theorem caseB2 {p : Nat} (h : Case2 p) : (257 : Int) < (p : Int) := by unfold Case2 at h; omega
theorem caseC1 {p m : Nat} (h : Case1 p) (H : (p ≤ 257 → (p : Int) = (m : Int)) ∧ (257 < p → (257 : Int) = (m : Int))) : (p : Int) = (m : Int) := H.1 h
theorem caseC2 {p m : Nat} (h : Case2 p) (H : (p ≤ 257 → (p : Int) = (m : Int)) ∧ (257 < p → (257 : Int) = (m : Int))) : (257 : Int) = (m : Int) := H.2 h
set_option maxRecDepth 100000 in
set_option maxHeartbeats 4000000 in
theorem cost1_any (A1 A2 : Option Addr) (n1 c1 n2 c2 : Nat) (a l : List Int) (w : World) (h1 : Rd w w.heap.size 1 A1 n1 (ints a)) (h2 : Rd w w.heap.size 1 A2 n2 (ints l)) (hn1 : n1 ≤ 1000000) (hn2 : n2 ≤ 1000000) (v : Int) (hv : costW a l = v) (hcs : Case1 (min n1 n2)) :
    Calls Try.prog 15 #[.slice A1 n1 c1, .slice A2 n2 c2] w fun e w' => e = .returned (.int .i64 v) ∧ Below w.heap.size w w' := by
  have hl1 : a.length = n1 := rd_len h1
  have hl2 : l.length = n2 := rd_len h2
  have HV := Lib.hid (show costK a l (costN n1 n2) = v by rw [← hv, costW, hl1, hl2])
  obtain ⟨m, hm⟩ : ∃ m, costN n1 n2 = m := ⟨_, rfl⟩
  rw [hm] at HV
  have hm1 : m ≤ n1 ∧ m ≤ n2 ∧ m ≤ 257 ∧ (m = n1 ∨ m = n2 ∨ m = 257) := by unfold costN at hm; omega
  clear hv hm
  obtain ⟨p, hp⟩ : ∃ p : Nat, p = min n1 n2 := ⟨_, rfl⟩
  have hpn : (if n2 < n1 then (n2 : Int) else (n1 : Int)) = (p : Int) := by split <;> omega
  have HM := Lib.hid (show (p ≤ 257 → (p : Int) = (m : Int)) ∧ (257 < p → (257 : Int) = (m : Int)) by omega)
  have HM1 := Lib.hid hm1
  rw [← hp] at hcs
  clear hp hm1
  have hp7I := caseA1 hcs
  have hp7J := caseB1 hcs
  go_enter Try.func15, Try.ntmps15
  go_wp2_with fail
  rw [caseC1 hcs HM.out]
  have hm1 := HM1.out.1
  have hm2 := HM1.out.2.1
  have hm3 := HM1.out.2.2.1
  clear hpn HM HM1 hp7I hp7J hcs
  go_loopw [5, 12] (fun u i wr => ∃ k : Nat, i = .int .i64 k ∧ k ≤ m ∧ u = .int .i64 (costK a l k) ∧ Below w.heap.size w wr) (fun _ i _ => m - (intOf i).toNat)
  case atStart => exact ⟨0, rfl, by omega, rfl, Below.refl _ _⟩
  case round =>
    obtain ⟨k, rfl, hk, rfl, HB⟩ := hrel
    have hz := HB.size
    by_cases hlt : k < m
    · have hkl1 : k < a.length := by omega
      have hkl2 : k < l.length := by omega
      obtain ⟨b1, o1, rfl, hb1, hc1⟩ := rd_ints h1 (by omega)
      obtain ⟨b2, o2, rfl, hb2, hc2⟩ := rd_ints h2 (by omega)
      have e1 : w.cell? ⟨b1, o1 + k, none⟩ = some (.int .i64 a[k]) := hc1 k hkl1
      have e2 : w.cell? ⟨b2, o2 + k, none⟩ = some (.int .i64 l[k]) := hc2 k hkl2
      have HS := Lib.hid (show costK a l (k + 1) = costK a l k + winW a[k] 1000000 * winW l[k] 15 by rw [costK, List.getElem?_eq_getElem hkl1, List.getElem?_eq_getElem hkl2]; rfl)
      have hcl := costK_le a l k
      obtain ⟨u, hu⟩ : ∃ u, costK a l k = u := ⟨_, rfl⟩
      obtain ⟨x, hx⟩ : ∃ x, a[k] = x := ⟨_, rfl⟩
      obtain ⟨y, hy⟩ : ∃ y, l[k] = y := ⟨_, rfl⟩
      obtain ⟨x', hx'⟩ : ∃ x', winW x 1000000 = x' := ⟨_, rfl⟩
      obtain ⟨y', hy'⟩ : ∃ y', winW y 15 = y' := ⟨_, rfl⟩
      have q1 := winW_le x 1000000 (by omega)
      have q2 := winW_le y 15 (by omega)
      rw [hx, hy, hx', hy', hu] at HS
      rw [hx] at e1
      rw [hy] at e2
      rw [hx'] at q1
      rw [hy'] at q2
      rw [hu] at hcl ⊢
      have q3 := Int.mul_nonneg q1.1 q2.1
      have q4 := Int.mul_le_mul q1.2 q2.2 q2.1 (by omega)
      have E1 := Lib.hid e1
      have E2 := Lib.hid e2
      have HX := Lib.hid hx'
      have HY := Lib.hid hy'
      have hmul : IntKind.i64.wrap (x' * y') = x' * y' := w64k (by omega) (by omega)
      have hadd : IntKind.i64.wrap (u + x' * y') = u + x' * y' := w64k (by omega) (by omega)
      have hkI : (k : Int) < (m : Int) := by omega
      have hk0 : (0 : Int) ≤ (k : Int) := by omega
      have hkn1 : (k : Int) < (n1 : Int) := by omega
      have hkn2 : (k : Int) < (n2 : Int) := by omega
      have HN := Lib.hid hm3
      clear hc1 hc2 hu hx hy hx' hy' e1 e2 q1 q2 q3 q4 hcl
      go_wp2_with fail
      refine wp_region_held_drew (S := (fun w' => w'.cell? ⟨b1, o1 + k, none⟩ = some (.int .i64 x) ∧ w'.cell? ⟨b2, o2 + k, none⟩ = some (.int .i64 y))) (by kernel_rfl) ?_ (fun hHeld => ?_)
      · replace HB := Below.drew HB; (try dsimp only); exact ⟨(HB.cell hb1).trans E1.out, (HB.cell hb2).trans E2.out⟩
      replace HB := Below.drew HB
      have zHB := HB.size
      refine take_movev (v := ?vu1x0) 0 (Operand.tmp 5) rfl rfl (by first | exact .inl rfl | exact .inr rfl) rfl (by kernel_rfl) (by kernel_rfl) (by kernel_rfl) (fun _ _ _ h => h) (by assumption) ?yu1x0 ?ru1x0
      case yu1x0 => (go_simp; try (with_reducible rfl))
      simp only [List.setIfInBounds_toArray, List.set_cons_zero, List.set_cons_succ]
      refine take_movev (v := ?vu1x1) 1 (Operand.tmp 0) rfl rfl (by first | exact .inl rfl | exact .inr rfl) rfl (by kernel_rfl) (by kernel_rfl) (by kernel_rfl) (fun _ _ _ h => h) (by assumption) ?yu1x1 ?ru1x1
      case yu1x1 => (go_simp; try (with_reducible rfl))
      simp only [List.setIfInBounds_toArray, List.set_cons_zero, List.set_cons_succ]
      refine take_movev (v := ?vu1x2) 2 (Operand.tmp 6) rfl rfl (by first | exact .inl rfl | exact .inr rfl) rfl (by kernel_rfl) (by kernel_rfl) (by kernel_rfl) (fun _ _ _ h => h) (by assumption) ?yu1x2 ?ru1x2
      case yu1x2 => (go_simp; try (with_reducible rfl))
      simp only [List.setIfInBounds_toArray, List.set_cons_zero, List.set_cons_succ]
      refine take_op (v := ?vu1x3) 3 (Op.indexAddr 22 (Operand.tmp 16) (Operand.tmp 17)) 0 rfl rfl rfl rfl rfl (by kernel_rfl) (by kernel_rfl) (by kernel_rfl) (fun _ _ _ h => h) ?yu1x3 (by assumption) ?ru1x3
      case yu1x3 => (intro w' hSw; (try dsimp only at hSw); go_simp; try (with_reducible rfl))
      simp only [List.setIfInBounds_toArray, List.set_cons_zero, List.set_cons_succ]
      refine take_op (v := ?vu1x4) 4 (Op.load 3 (Operand.tmp 18)) 3 rfl rfl rfl rfl rfl (by kernel_rfl) (by kernel_rfl) (by kernel_rfl) (fun _ _ _ h => h) ?yu1x4 (by assumption) ?ru1x4
      case yu1x4 => (intro w' hSw; (try dsimp only at hSw); go_simp; try (with_reducible rfl))
      simp only [List.setIfInBounds_toArray, List.set_cons_zero, List.set_cons_succ]
      refine take_movev (v := ?vu1x6) 6 (Operand.tmp 1) rfl rfl (by first | exact .inl rfl | exact .inr rfl) rfl (by kernel_rfl) (by kernel_rfl) (by kernel_rfl) (fun _ _ _ h => h) (by assumption) ?yu1x6 ?ru1x6
      case yu1x6 => (go_simp; try (with_reducible rfl))
      simp only [List.setIfInBounds_toArray, List.set_cons_zero, List.set_cons_succ]
      refine take_movev (v := ?vu1x7) 7 (Operand.tmp 6) rfl rfl (by first | exact .inl rfl | exact .inr rfl) rfl (by kernel_rfl) (by kernel_rfl) (by kernel_rfl) (fun _ _ _ h => h) (by assumption) ?yu1x7 ?ru1x7
      case yu1x7 => (go_simp; try (with_reducible rfl))
      simp only [List.setIfInBounds_toArray, List.set_cons_zero, List.set_cons_succ]
      refine take_op (v := ?vu1x8) 8 (Op.indexAddr 22 (Operand.tmp 21) (Operand.tmp 22)) 0 rfl rfl rfl rfl rfl (by kernel_rfl) (by kernel_rfl) (by kernel_rfl) (fun _ _ _ h => h) ?yu1x8 (by assumption) ?ru1x8
      case yu1x8 => (intro w' hSw; (try dsimp only at hSw); go_simp; try (with_reducible rfl))
      simp only [List.setIfInBounds_toArray, List.set_cons_zero, List.set_cons_succ]
      refine take_op (v := ?vu1x9) 9 (Op.load 3 (Operand.tmp 23)) 3 rfl rfl rfl rfl rfl (by kernel_rfl) (by kernel_rfl) (by kernel_rfl) (fun _ _ _ h => h) ?yu1x9 (by assumption) ?ru1x9
      case yu1x9 => (intro w' hSw; (try dsimp only at hSw); go_simp; try (with_reducible rfl))
      simp only [List.setIfInBounds_toArray, List.set_cons_zero, List.set_cons_succ]
      refine wpAnyH_ready (rs := [5]) (by kernel_rfl) (by simp) (AllReadyH.cons rfl (fun K5 hK5 => ?ku1x5) AllReadyH.nil)
      refine take_calls 5 26 [Operand.tmp 19, Operand.const (Value.int IntKind.i64 1000000)] #[3, 3] rfl rfl (by kernel_rfl) (fun args w => run_enter Try.func26 (by kernel_rfl) rfl args w) ?_
      refine (within_any x 1000000 _ x' HX.out).mono ?_
      rintro e w5 ⟨rfl, hb5⟩
      refine ⟨_, rfl, ?_⟩
      have z5 := hb5.size
      try simp only [World.size_drew] at z5
      replace HB := HB.trans (hb5.mono (by first | exact HB.size | omega))
      have zHB5 := HB.size
      refine hK5.out _ _ ?su1x5 (fun hHeld => ?ru1x5)
      case su1x5 => ((try dsimp only); exact ⟨(HB.cell hb1).trans E1.out, (HB.cell hb2).trans E2.out⟩)
      try simp only [List.setIfInBounds_toArray, List.set_cons_zero, List.set_cons_succ]
      refine wpAnyH_ready (rs := [10]) (by kernel_rfl) (by simp) (AllReadyH.cons rfl (fun K10 hK10 => ?ku1x10) AllReadyH.nil)
      refine take_calls 10 26 [Operand.tmp 24, Operand.const (Value.int IntKind.i64 15)] #[3, 3] rfl rfl (by kernel_rfl) (fun args w => run_enter Try.func26 (by kernel_rfl) rfl args w) ?_
      refine (within_any y 15 _ y' HY.out).mono ?_
      rintro e w10 ⟨rfl, hb10⟩
      refine ⟨_, rfl, ?_⟩
      have z10 := hb10.size
      try simp only [World.size_drew] at z10
      replace HB := HB.trans (hb10.mono (by first | exact HB.size | omega))
      have zHB10 := HB.size
      refine hK10.out _ _ ?su1x10 (fun hHeld => ?ru1x10)
      case su1x10 => ((try dsimp only); exact ⟨(HB.cell hb1).trans E1.out, (HB.cell hb2).trans E2.out⟩)
      try simp only [List.setIfInBounds_toArray, List.set_cons_zero, List.set_cons_succ]
      refine take_op (v := ?vu1x11) 11 (Op.binOp BinOp.mul 3 (Operand.tmp 20) (Operand.tmp 25) 3) 3 rfl rfl rfl rfl rfl (by kernel_rfl) (by kernel_rfl) (by kernel_rfl) (fun _ _ _ h => h) ?yu1x11 (by assumption) ?ru1x11
      case yu1x11 => (intro w' hSw; (try dsimp only at hSw); go_simp; try (with_reducible rfl))
      simp only [List.setIfInBounds_toArray, List.set_cons_zero, List.set_cons_succ]
      refine take_op (v := ?vu1x12) 12 (Op.binOp BinOp.add 3 (Operand.tmp 15) (Operand.tmp 26) 3) 3 rfl rfl rfl rfl rfl (by kernel_rfl) (by kernel_rfl) (by kernel_rfl) (fun _ _ _ h => h) ?yu1x12 (by assumption) ?ru1x12
      case yu1x12 => (intro w' hSw; (try dsimp only at hSw); go_simp; try (with_reducible rfl))
      simp only [List.setIfInBounds_toArray, List.set_cons_zero, List.set_cons_succ]
      refine take_op (v := ?vu1x13) 13 (Op.assign (Operand.tmp 27)) 3 rfl rfl rfl rfl rfl (by kernel_rfl) (by kernel_rfl) (by kernel_rfl) (fun _ _ _ h => h) ?yu1x13 (by assumption) ?ru1x13
      case yu1x13 => (intro w' hSw; (try dsimp only at hSw); go_simp; try (with_reducible rfl))
      simp only [List.setIfInBounds_toArray, List.set_cons_zero, List.set_cons_succ]
      refine wpAnyH_done (by kernel_rfl) ?_ _
      clear hHeld
      go_wp2_with fail
      go_roundw
      case rel => exact ⟨k + 1, by go_num, by omega, by rw [HS.out], HB⟩
      case measure => simp [intOf]; omega
    · have hkI : ¬ (k : Int) < (m : Int) := by omega
      obtain rfl : k = m := by omega
      have HV2 := HV.out
      rw [HV2]
      clear HV2
      go_wp2_with fail
      try rw [Exit.noGoto_ret]
      go_ret
      exact ⟨rfl, HB⟩
set_option maxRecDepth 100000 in
set_option maxHeartbeats 4000000 in
theorem cost2_any (A1 A2 : Option Addr) (n1 c1 n2 c2 : Nat) (a l : List Int) (w : World) (h1 : Rd w w.heap.size 1 A1 n1 (ints a)) (h2 : Rd w w.heap.size 1 A2 n2 (ints l)) (hn1 : n1 ≤ 1000000) (hn2 : n2 ≤ 1000000) (v : Int) (hv : costW a l = v) (hcs : Case2 (min n1 n2)) :
    Calls Try.prog 15 #[.slice A1 n1 c1, .slice A2 n2 c2] w fun e w' => e = .returned (.int .i64 v) ∧ Below w.heap.size w w' := by
  have hl1 : a.length = n1 := rd_len h1
  have hl2 : l.length = n2 := rd_len h2
  have HV := Lib.hid (show costK a l (costN n1 n2) = v by rw [← hv, costW, hl1, hl2])
  obtain ⟨m, hm⟩ : ∃ m, costN n1 n2 = m := ⟨_, rfl⟩
  rw [hm] at HV
  have hm1 : m ≤ n1 ∧ m ≤ n2 ∧ m ≤ 257 ∧ (m = n1 ∨ m = n2 ∨ m = 257) := by unfold costN at hm; omega
  clear hv hm
  obtain ⟨p, hp⟩ : ∃ p : Nat, p = min n1 n2 := ⟨_, rfl⟩
  have hpn : (if n2 < n1 then (n2 : Int) else (n1 : Int)) = (p : Int) := by split <;> omega
  have HM := Lib.hid (show (p ≤ 257 → (p : Int) = (m : Int)) ∧ (257 < p → (257 : Int) = (m : Int)) by omega)
  have HM1 := Lib.hid hm1
  rw [← hp] at hcs
  clear hp hm1
  have hp7I := caseA2 hcs
  have hp7J := caseB2 hcs
  go_enter Try.func15, Try.ntmps15
  go_wp2_with fail
  rw [caseC2 hcs HM.out]
  have hm1 := HM1.out.1
  have hm2 := HM1.out.2.1
  have hm3 := HM1.out.2.2.1
  clear hpn HM HM1 hp7I hp7J hcs
  go_loopw [5, 12] (fun u i wr => ∃ k : Nat, i = .int .i64 k ∧ k ≤ m ∧ u = .int .i64 (costK a l k) ∧ Below w.heap.size w wr) (fun _ i _ => m - (intOf i).toNat)
  case atStart => exact ⟨0, rfl, by omega, rfl, Below.refl _ _⟩
  case round =>
    obtain ⟨k, rfl, hk, rfl, HB⟩ := hrel
    have hz := HB.size
    by_cases hlt : k < m
    · have hkl1 : k < a.length := by omega
      have hkl2 : k < l.length := by omega
      obtain ⟨b1, o1, rfl, hb1, hc1⟩ := rd_ints h1 (by omega)
      obtain ⟨b2, o2, rfl, hb2, hc2⟩ := rd_ints h2 (by omega)
      have e1 : w.cell? ⟨b1, o1 + k, none⟩ = some (.int .i64 a[k]) := hc1 k hkl1
      have e2 : w.cell? ⟨b2, o2 + k, none⟩ = some (.int .i64 l[k]) := hc2 k hkl2
      have HS := Lib.hid (show costK a l (k + 1) = costK a l k + winW a[k] 1000000 * winW l[k] 15 by rw [costK, List.getElem?_eq_getElem hkl1, List.getElem?_eq_getElem hkl2]; rfl)
      have hcl := costK_le a l k
      obtain ⟨u, hu⟩ : ∃ u, costK a l k = u := ⟨_, rfl⟩
      obtain ⟨x, hx⟩ : ∃ x, a[k] = x := ⟨_, rfl⟩
      obtain ⟨y, hy⟩ : ∃ y, l[k] = y := ⟨_, rfl⟩
      obtain ⟨x', hx'⟩ : ∃ x', winW x 1000000 = x' := ⟨_, rfl⟩
      obtain ⟨y', hy'⟩ : ∃ y', winW y 15 = y' := ⟨_, rfl⟩
      have q1 := winW_le x 1000000 (by omega)
      have q2 := winW_le y 15 (by omega)
      rw [hx, hy, hx', hy', hu] at HS
      rw [hx] at e1
      rw [hy] at e2
      rw [hx'] at q1
      rw [hy'] at q2
      rw [hu] at hcl ⊢
      have q3 := Int.mul_nonneg q1.1 q2.1
      have q4 := Int.mul_le_mul q1.2 q2.2 q2.1 (by omega)
      have E1 := Lib.hid e1
      have E2 := Lib.hid e2
      have HX := Lib.hid hx'
      have HY := Lib.hid hy'
      have hmul : IntKind.i64.wrap (x' * y') = x' * y' := w64k (by omega) (by omega)
      have hadd : IntKind.i64.wrap (u + x' * y') = u + x' * y' := w64k (by omega) (by omega)
      have hkI : (k : Int) < (m : Int) := by omega
      have hk0 : (0 : Int) ≤ (k : Int) := by omega
      have hkn1 : (k : Int) < (n1 : Int) := by omega
      have hkn2 : (k : Int) < (n2 : Int) := by omega
      have HN := Lib.hid hm3
      clear hc1 hc2 hu hx hy hx' hy' e1 e2 q1 q2 q3 q4 hcl
      go_wp2_with fail
      refine wp_region_held_drew (S := (fun w' => w'.cell? ⟨b1, o1 + k, none⟩ = some (.int .i64 x) ∧ w'.cell? ⟨b2, o2 + k, none⟩ = some (.int .i64 y))) (by kernel_rfl) ?_ (fun hHeld => ?_)
      · replace HB := Below.drew HB; (try dsimp only); exact ⟨(HB.cell hb1).trans E1.out, (HB.cell hb2).trans E2.out⟩
      replace HB := Below.drew HB
      have zHB := HB.size
      refine take_movev (v := ?vu2x0) 0 (Operand.tmp 5) rfl rfl (by first | exact .inl rfl | exact .inr rfl) rfl (by kernel_rfl) (by kernel_rfl) (by kernel_rfl) (fun _ _ _ h => h) (by assumption) ?yu2x0 ?ru2x0
      case yu2x0 => (go_simp; try (with_reducible rfl))
      simp only [List.setIfInBounds_toArray, List.set_cons_zero, List.set_cons_succ]
      refine take_movev (v := ?vu2x1) 1 (Operand.tmp 0) rfl rfl (by first | exact .inl rfl | exact .inr rfl) rfl (by kernel_rfl) (by kernel_rfl) (by kernel_rfl) (fun _ _ _ h => h) (by assumption) ?yu2x1 ?ru2x1
      case yu2x1 => (go_simp; try (with_reducible rfl))
      simp only [List.setIfInBounds_toArray, List.set_cons_zero, List.set_cons_succ]
      refine take_movev (v := ?vu2x2) 2 (Operand.tmp 6) rfl rfl (by first | exact .inl rfl | exact .inr rfl) rfl (by kernel_rfl) (by kernel_rfl) (by kernel_rfl) (fun _ _ _ h => h) (by assumption) ?yu2x2 ?ru2x2
      case yu2x2 => (go_simp; try (with_reducible rfl))
      simp only [List.setIfInBounds_toArray, List.set_cons_zero, List.set_cons_succ]
      refine take_op (v := ?vu2x3) 3 (Op.indexAddr 22 (Operand.tmp 16) (Operand.tmp 17)) 0 rfl rfl rfl rfl rfl (by kernel_rfl) (by kernel_rfl) (by kernel_rfl) (fun _ _ _ h => h) ?yu2x3 (by assumption) ?ru2x3
      case yu2x3 => (intro w' hSw; (try dsimp only at hSw); go_simp; try (with_reducible rfl))
      simp only [List.setIfInBounds_toArray, List.set_cons_zero, List.set_cons_succ]
      refine take_op (v := ?vu2x4) 4 (Op.load 3 (Operand.tmp 18)) 3 rfl rfl rfl rfl rfl (by kernel_rfl) (by kernel_rfl) (by kernel_rfl) (fun _ _ _ h => h) ?yu2x4 (by assumption) ?ru2x4
      case yu2x4 => (intro w' hSw; (try dsimp only at hSw); go_simp; try (with_reducible rfl))
      simp only [List.setIfInBounds_toArray, List.set_cons_zero, List.set_cons_succ]
      refine take_movev (v := ?vu2x6) 6 (Operand.tmp 1) rfl rfl (by first | exact .inl rfl | exact .inr rfl) rfl (by kernel_rfl) (by kernel_rfl) (by kernel_rfl) (fun _ _ _ h => h) (by assumption) ?yu2x6 ?ru2x6
      case yu2x6 => (go_simp; try (with_reducible rfl))
      simp only [List.setIfInBounds_toArray, List.set_cons_zero, List.set_cons_succ]
      refine take_movev (v := ?vu2x7) 7 (Operand.tmp 6) rfl rfl (by first | exact .inl rfl | exact .inr rfl) rfl (by kernel_rfl) (by kernel_rfl) (by kernel_rfl) (fun _ _ _ h => h) (by assumption) ?yu2x7 ?ru2x7
      case yu2x7 => (go_simp; try (with_reducible rfl))
      simp only [List.setIfInBounds_toArray, List.set_cons_zero, List.set_cons_succ]
      refine take_op (v := ?vu2x8) 8 (Op.indexAddr 22 (Operand.tmp 21) (Operand.tmp 22)) 0 rfl rfl rfl rfl rfl (by kernel_rfl) (by kernel_rfl) (by kernel_rfl) (fun _ _ _ h => h) ?yu2x8 (by assumption) ?ru2x8
      case yu2x8 => (intro w' hSw; (try dsimp only at hSw); go_simp; try (with_reducible rfl))
      simp only [List.setIfInBounds_toArray, List.set_cons_zero, List.set_cons_succ]
      refine take_op (v := ?vu2x9) 9 (Op.load 3 (Operand.tmp 23)) 3 rfl rfl rfl rfl rfl (by kernel_rfl) (by kernel_rfl) (by kernel_rfl) (fun _ _ _ h => h) ?yu2x9 (by assumption) ?ru2x9
      case yu2x9 => (intro w' hSw; (try dsimp only at hSw); go_simp; try (with_reducible rfl))
      simp only [List.setIfInBounds_toArray, List.set_cons_zero, List.set_cons_succ]
      refine wpAnyH_ready (rs := [5]) (by kernel_rfl) (by simp) (AllReadyH.cons rfl (fun K5 hK5 => ?ku2x5) AllReadyH.nil)
      refine take_calls 5 26 [Operand.tmp 19, Operand.const (Value.int IntKind.i64 1000000)] #[3, 3] rfl rfl (by kernel_rfl) (fun args w => run_enter Try.func26 (by kernel_rfl) rfl args w) ?_
      refine (within_any x 1000000 _ x' HX.out).mono ?_
      rintro e w5 ⟨rfl, hb5⟩
      refine ⟨_, rfl, ?_⟩
      have z5 := hb5.size
      try simp only [World.size_drew] at z5
      replace HB := HB.trans (hb5.mono (by first | exact HB.size | omega))
      have zHB5 := HB.size
      refine hK5.out _ _ ?su2x5 (fun hHeld => ?ru2x5)
      case su2x5 => ((try dsimp only); exact ⟨(HB.cell hb1).trans E1.out, (HB.cell hb2).trans E2.out⟩)
      try simp only [List.setIfInBounds_toArray, List.set_cons_zero, List.set_cons_succ]
      refine wpAnyH_ready (rs := [10]) (by kernel_rfl) (by simp) (AllReadyH.cons rfl (fun K10 hK10 => ?ku2x10) AllReadyH.nil)
      refine take_calls 10 26 [Operand.tmp 24, Operand.const (Value.int IntKind.i64 15)] #[3, 3] rfl rfl (by kernel_rfl) (fun args w => run_enter Try.func26 (by kernel_rfl) rfl args w) ?_
      refine (within_any y 15 _ y' HY.out).mono ?_
      rintro e w10 ⟨rfl, hb10⟩
      refine ⟨_, rfl, ?_⟩
      have z10 := hb10.size
      try simp only [World.size_drew] at z10
      replace HB := HB.trans (hb10.mono (by first | exact HB.size | omega))
      have zHB10 := HB.size
      refine hK10.out _ _ ?su2x10 (fun hHeld => ?ru2x10)
      case su2x10 => ((try dsimp only); exact ⟨(HB.cell hb1).trans E1.out, (HB.cell hb2).trans E2.out⟩)
      try simp only [List.setIfInBounds_toArray, List.set_cons_zero, List.set_cons_succ]
      refine take_op (v := ?vu2x11) 11 (Op.binOp BinOp.mul 3 (Operand.tmp 20) (Operand.tmp 25) 3) 3 rfl rfl rfl rfl rfl (by kernel_rfl) (by kernel_rfl) (by kernel_rfl) (fun _ _ _ h => h) ?yu2x11 (by assumption) ?ru2x11
      case yu2x11 => (intro w' hSw; (try dsimp only at hSw); go_simp; try (with_reducible rfl))
      simp only [List.setIfInBounds_toArray, List.set_cons_zero, List.set_cons_succ]
      refine take_op (v := ?vu2x12) 12 (Op.binOp BinOp.add 3 (Operand.tmp 15) (Operand.tmp 26) 3) 3 rfl rfl rfl rfl rfl (by kernel_rfl) (by kernel_rfl) (by kernel_rfl) (fun _ _ _ h => h) ?yu2x12 (by assumption) ?ru2x12
      case yu2x12 => (intro w' hSw; (try dsimp only at hSw); go_simp; try (with_reducible rfl))
      simp only [List.setIfInBounds_toArray, List.set_cons_zero, List.set_cons_succ]
      refine take_op (v := ?vu2x13) 13 (Op.assign (Operand.tmp 27)) 3 rfl rfl rfl rfl rfl (by kernel_rfl) (by kernel_rfl) (by kernel_rfl) (fun _ _ _ h => h) ?yu2x13 (by assumption) ?ru2x13
      case yu2x13 => (intro w' hSw; (try dsimp only at hSw); go_simp; try (with_reducible rfl))
      simp only [List.setIfInBounds_toArray, List.set_cons_zero, List.set_cons_succ]
      refine wpAnyH_done (by kernel_rfl) ?_ _
      clear hHeld
      go_wp2_with fail
      go_roundw
      case rel => exact ⟨k + 1, by go_num, by omega, by rw [HS.out], HB⟩
      case measure => simp [intOf]; omega
    · have hkI : ¬ (k : Int) < (m : Int) := by omega
      obtain rfl : k = m := by omega
      have HV2 := HV.out
      rw [HV2]
      clear HV2
      go_wp2_with fail
      try rw [Exit.noGoto_ret]
      go_ret
      exact ⟨rfl, HB⟩
theorem cost_any (A1 A2 : Option Addr) (n1 c1 n2 c2 : Nat) (a l : List Int) (w : World) (h1 : Rd w w.heap.size 1 A1 n1 (ints a)) (h2 : Rd w w.heap.size 1 A2 n2 (ints l)) (hn1 : n1 ≤ 1000000) (hn2 : n2 ≤ 1000000) (v : Int) (hv : costW a l = v) :
    Calls Try.prog 15 #[.slice A1 n1 c1, .slice A2 n2 c2] w fun e w' => e = .returned (.int .i64 v) ∧ Below w.heap.size w w' := by
  by_cases h : min n1 n2 ≤ 257
  · exact cost1_any A1 A2 n1 c1 n2 c2 a l w h1 h2 hn1 hn2 v hv h
  · exact cost2_any A1 A2 n1 c1 n2 c2 a l w h1 h2 hn1 hn2 v hv (by unfold Case2; omega)
end LenW
end Go.Proofs.Ytpnccehaomikbaa
