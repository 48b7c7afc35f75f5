/- The walks of the reference of package lens: what lengths cost. -/
import Derived.Test.YtpnccehaomikbaaLenL
namespace Go.Proofs.Ytpnccehaomikbaa
set_option linter.unusedVariables false
set_option linter.unusedSimpArgs false
set_option linter.unnecessarySimpa false
open Go.RowKit
namespace LenW

theorem winW_no (n t : Int) (h : n < 0 ∨ t < n) : winW n t = 0 := by rw [winW, if_pos h]
theorem winW_ok (n t : Int) (h : 0 ≤ n) (h2 : n ≤ t) : winW n t = n := by rw [winW, if_neg (by omega)]
set_option maxRecDepth 100000 in
set_option maxHeartbeats 8000000 in
theorem refCost_any (A1 A2 : Option Addr) (n1 c1 n2 c2 : Nat) (a l : List Int) (w : World) (h1 : Rd w w.heap.size 1 A1 n1 (ints a)) (h2 : Rd w w.heap.size 1 A2 n2 (ints l)) (hn1 : n1 ≤ 1000000) (hn2 : n2 ≤ 1000000) (v : Int) (hv : costW a l = v) :
    Calls Try.prog 16 #[.slice A1 n1 c1, .slice A2 n2 c2] w fun e w' => e = .returned (.int .i64 v) ∧ Below w.heap.size w w' := by
  have hl1 : a.length = n1 := rd_len h1
  have hl2 : l.length = n2 := rd_len h2
  have HV := Lib.hid (show costK a l (costN n1 n2) = v by rw [← hv, costW, hl1, hl2])
  obtain ⟨m, hm⟩ : ∃ m, costN n1 n2 = m := ⟨_, rfl⟩
  rw [hm] at HV
  have hm1 : m ≤ n1 ∧ m ≤ n2 ∧ m ≤ 257 ∧ (m = n1 ∨ m = n2 ∨ m = 257) := by unfold costN at hm; omega
  have HM := Lib.hid hm1
  obtain ⟨hma, hmb, hmc, -⟩ := hm1
  clear hv hm
  go_enter Try.func16, Try.ntmps16
  go_wp2_with fail
  go_loopw [5, 6] (fun u i wr => ∃ k : Nat, i = .int .i64 k ∧ k ≤ m ∧ u = .int .i64 (costK a l k) ∧ Below w.heap.size w wr) (fun _ i _ => m - (intOf i).toNat)
  case atStart => exact ⟨0, rfl, by omega, rfl, Below.refl _ _⟩
  case round =>
    obtain ⟨k, rfl, hk, rfl, HB⟩ := hrel
    by_cases hlt : k < m
    · have hkl1 : k < a.length := by omega
      have hkl2 : k < l.length := by omega
      obtain ⟨b1, o1, rfl, hb1, hc1⟩ := rd_ints h1 (by omega)
      obtain ⟨b2, o2, rfl, hb2, hc2⟩ := rd_ints h2 (by omega)
      have e1 : wr.cell? ⟨b1, o1 + k, none⟩ = some (.int .i64 a[k]) := (HB.cell hb1).trans (hc1 k hkl1)
      have e2 : wr.cell? ⟨b2, o2 + k, none⟩ = some (.int .i64 l[k]) := (HB.cell hb2).trans (hc2 k hkl2)
      have HS := Lib.hid (show costK a l (k + 1) = costK a l k + winW a[k] 1000000 * winW l[k] 15 by rw [costK, List.getElem?_eq_getElem hkl1, List.getElem?_eq_getElem hkl2]; rfl)
      have hcl := costK_le a l k
      obtain ⟨u, hu⟩ : ∃ u, costK a l k = u := ⟨_, rfl⟩
      obtain ⟨x, hx⟩ : ∃ x, a[k] = x := ⟨_, rfl⟩
      obtain ⟨y, hy⟩ : ∃ y, l[k] = y := ⟨_, rfl⟩
      rw [hx, hy, hu] at HS
      rw [hx] at e1
      rw [hy] at e2
      rw [hu] at hcl ⊢
      have hkn1 : (k : Int) < (n1 : Int) := by omega
      have hkn2 : (k : Int) < (n2 : Int) := by omega
      have hk257 : (k : Int) < 257 := by omega
      have hk0 : (0 : Int) ≤ (k : Int) := by omega
      have hadd : IntKind.i64.wrap ((k : Int) + 1) = (k : Int) + 1 := w64k (by omega) (by omega)
      have hD := Lib.hid (show decide ((k : Int) < (n1 : Int)) = true by simp; omega)
      clear hc1 hc2 hu hx hy
      by_cases q1 : x < 0
      · have HSN := Lib.hid (show costK a l (k + 1) = u by rw [HS.out, winW_no _ _ (.inl q1), Int.zero_mul, Int.add_zero])
        have p1 : ¬ 0 ≤ x := by omega
        go_wp2_with fail
        go_roundw
        case rel => exact ⟨k + 1, by go_num, by omega, by rw [HSN.out], HB⟩
        case measure => simp [intOf]; omega
      · have q1' : 0 ≤ x := by omega
        by_cases q2 : 1000000 < x
        · have HSN := Lib.hid (show costK a l (k + 1) = u by rw [HS.out, winW_no _ _ (.inr q2), Int.zero_mul, Int.add_zero])
          have p1 : ¬ x ≤ 1000000 := by omega
          go_wp2_with fail
          go_roundw
          case rel => exact ⟨k + 1, by go_num, by omega, by rw [HSN.out], HB⟩
          case measure => simp [intOf]; omega
        · have q2' : x ≤ 1000000 := by omega
          by_cases q3 : y < 0
          · have HSN := Lib.hid (show costK a l (k + 1) = u by rw [HS.out, winW_no y _ (.inl q3), Int.mul_zero, Int.add_zero])
            have p1 : ¬ 0 ≤ y := by omega
            go_wp2_with fail
            go_roundw
            case rel => exact ⟨k + 1, by go_num, by omega, by rw [HSN.out], HB⟩
            case measure => simp [intOf]; omega
          · have q3' : 0 ≤ y := by omega
            by_cases q4 : 15 < y
            · have HSN := Lib.hid (show costK a l (k + 1) = u by rw [HS.out, winW_no y _ (.inr q4), Int.mul_zero, Int.add_zero])
              have p1 : ¬ y ≤ 15 := by omega
              go_wp2_with fail
              go_roundw
              case rel => exact ⟨k + 1, by go_num, by omega, by rw [HSN.out], HB⟩
              case measure => simp [intOf]; omega
            · have q4' : y ≤ 15 := by omega
              have HSN := Lib.hid (show costK a l (k + 1) = u + x * y by rw [HS.out, winW_ok _ _ q1' q2', winW_ok _ _ q3' q4'])
              have r3 := Int.mul_nonneg q1' q3'
              have r4 := Int.mul_le_mul q2' q4' q3' (by omega)
              have hmul : IntKind.i64.wrap (x * y) = x * y := w64k (by omega) (by omega)
              have hadd2 : IntKind.i64.wrap (u + x * y) = u + x * y := w64k (by omega) (by omega)
              have E1 := Lib.hid e1
              have E2 := Lib.hid e2
              clear r3 r4 hcl
              go_wp2_with fail
              refine wp_region_held_drew (S := (fun w' => w'.cell? ⟨b1, o1 + k, none⟩ = some (.int .i64 x) ∧ w'.cell? ⟨b2, o2 + k, none⟩ = some (.int .i64 y))) (by kernel_rfl) ?_ (fun hHeld => ?_)
              · replace HB := Below.drew HB; (try dsimp only); exact ⟨E1.out, E2.out⟩
              replace HB := Below.drew HB
              have zHB := HB.size
              refine take_movev (v := ?vu1x0) 0 (Operand.tmp 5) rfl rfl (by first | exact .inl rfl | exact .inr rfl) rfl (by kernel_rfl) (by kernel_rfl) (by kernel_rfl) (fun _ _ _ h => h) (by assumption) ?yu1x0 ?ru1x0
              case yu1x0 => (go_simp; try (with_reducible rfl))
              simp only [List.setIfInBounds_toArray, List.set_cons_zero, List.set_cons_succ]
              refine take_movev (v := ?vu1x1) 1 (Operand.tmp 0) rfl rfl (by first | exact .inl rfl | exact .inr rfl) rfl (by kernel_rfl) (by kernel_rfl) (by kernel_rfl) (fun _ _ _ h => h) (by assumption) ?yu1x1 ?ru1x1
              case yu1x1 => (go_simp; try (with_reducible rfl))
              simp only [List.setIfInBounds_toArray, List.set_cons_zero, List.set_cons_succ]
              refine take_movev (v := ?vu1x2) 2 (Operand.tmp 6) rfl rfl (by first | exact .inl rfl | exact .inr rfl) rfl (by kernel_rfl) (by kernel_rfl) (by kernel_rfl) (fun _ _ _ h => h) (by assumption) ?yu1x2 ?ru1x2
              case yu1x2 => (go_simp; try (with_reducible rfl))
              simp only [List.setIfInBounds_toArray, List.set_cons_zero, List.set_cons_succ]
              refine take_op (v := ?vu1x3) 3 (Op.indexAddr 22 (Operand.tmp 50) (Operand.tmp 51)) 0 rfl rfl rfl rfl rfl (by kernel_rfl) (by kernel_rfl) (by kernel_rfl) (fun _ _ _ h => h) ?yu1x3 (by assumption) ?ru1x3
              case yu1x3 => (intro w' hSw; (try dsimp only at hSw); go_simp; try (with_reducible rfl))
              simp only [List.setIfInBounds_toArray, List.set_cons_zero, List.set_cons_succ]
              refine take_op (v := ?vu1x4) 4 (Op.load 3 (Operand.tmp 52)) 3 rfl rfl rfl rfl rfl (by kernel_rfl) (by kernel_rfl) (by kernel_rfl) (fun _ _ _ h => h) ?yu1x4 (by assumption) ?ru1x4
              case yu1x4 => (intro w' hSw; (try dsimp only at hSw); go_simp; try (with_reducible rfl))
              simp only [List.setIfInBounds_toArray, List.set_cons_zero, List.set_cons_succ]
              refine take_movev (v := ?vu1x5) 5 (Operand.tmp 1) rfl rfl (by first | exact .inl rfl | exact .inr rfl) rfl (by kernel_rfl) (by kernel_rfl) (by kernel_rfl) (fun _ _ _ h => h) (by assumption) ?yu1x5 ?ru1x5
              case yu1x5 => (go_simp; try (with_reducible rfl))
              simp only [List.setIfInBounds_toArray, List.set_cons_zero, List.set_cons_succ]
              refine take_movev (v := ?vu1x6) 6 (Operand.tmp 6) rfl rfl (by first | exact .inl rfl | exact .inr rfl) rfl (by kernel_rfl) (by kernel_rfl) (by kernel_rfl) (fun _ _ _ h => h) (by assumption) ?yu1x6 ?ru1x6
              case yu1x6 => (go_simp; try (with_reducible rfl))
              simp only [List.setIfInBounds_toArray, List.set_cons_zero, List.set_cons_succ]
              refine take_op (v := ?vu1x7) 7 (Op.indexAddr 22 (Operand.tmp 54) (Operand.tmp 55)) 0 rfl rfl rfl rfl rfl (by kernel_rfl) (by kernel_rfl) (by kernel_rfl) (fun _ _ _ h => h) ?yu1x7 (by assumption) ?ru1x7
              case yu1x7 => (intro w' hSw; (try dsimp only at hSw); go_simp; try (with_reducible rfl))
              simp only [List.setIfInBounds_toArray, List.set_cons_zero, List.set_cons_succ]
              refine take_op (v := ?vu1x8) 8 (Op.load 3 (Operand.tmp 56)) 3 rfl rfl rfl rfl rfl (by kernel_rfl) (by kernel_rfl) (by kernel_rfl) (fun _ _ _ h => h) ?yu1x8 (by assumption) ?ru1x8
              case yu1x8 => (intro w' hSw; (try dsimp only at hSw); go_simp; try (with_reducible rfl))
              simp only [List.setIfInBounds_toArray, List.set_cons_zero, List.set_cons_succ]
              refine take_op (v := ?vu1x9) 9 (Op.binOp BinOp.mul 3 (Operand.tmp 53) (Operand.tmp 57) 3) 3 rfl rfl rfl rfl rfl (by kernel_rfl) (by kernel_rfl) (by kernel_rfl) (fun _ _ _ h => h) ?yu1x9 (by assumption) ?ru1x9
              case yu1x9 => (intro w' hSw; (try dsimp only at hSw); go_simp; try (with_reducible rfl))
              simp only [List.setIfInBounds_toArray, List.set_cons_zero, List.set_cons_succ]
              refine take_op (v := ?vu1x10) 10 (Op.binOp BinOp.add 3 (Operand.tmp 49) (Operand.tmp 58) 3) 3 rfl rfl rfl rfl rfl (by kernel_rfl) (by kernel_rfl) (by kernel_rfl) (fun _ _ _ h => h) ?yu1x10 (by assumption) ?ru1x10
              case yu1x10 => (intro w' hSw; (try dsimp only at hSw); go_simp; try (with_reducible rfl))
              simp only [List.setIfInBounds_toArray, List.set_cons_zero, List.set_cons_succ]
              refine take_op (v := ?vu1x11) 11 (Op.assign (Operand.tmp 59)) 3 rfl rfl rfl rfl rfl (by kernel_rfl) (by kernel_rfl) (by kernel_rfl) (fun _ _ _ h => h) ?yu1x11 (by assumption) ?ru1x11
              case yu1x11 => (intro w' hSw; (try dsimp only at hSw); go_simp; try (with_reducible rfl))
              simp only [List.setIfInBounds_toArray, List.set_cons_zero, List.set_cons_succ]
              refine wpAnyH_done (by kernel_rfl) ?_ _
              clear hHeld
              go_wp2_with fail
              go_roundw
              case rel => exact ⟨k + 1, by go_num, by omega, by rw [HSN.out], HB⟩
              case measure => simp [intOf]; omega
    · obtain rfl : k = m := by omega
      have HV2 := HV.out
      rw [HV2]
      clear HV2
      by_cases g1 : k < n1
      · have g1I : (k : Int) < (n1 : Int) := by omega
        by_cases g2 : k < n2
        · have g2I : (k : Int) < (n2 : Int) := by omega
          have g3I : ¬ (k : Int) < 257 := by have := HM.out; omega
          go_wp2_with fail
          try rw [Exit.noGoto_ret]
          go_ret
          exact ⟨rfl, HB⟩
        · have g2I : ¬ (k : Int) < (n2 : Int) := by omega
          go_wp2_with fail
          try rw [Exit.noGoto_ret]
          go_ret
          exact ⟨rfl, HB⟩
      · have g1I : ¬ (k : Int) < (n1 : Int) := by omega
        go_wp2_with fail
        try rw [Exit.noGoto_ret]
        go_ret
        exact ⟨rfl, HB⟩
end LenW
end Go.Proofs.Ytpnccehaomikbaa
