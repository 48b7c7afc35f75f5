/- Walks over the laws of package lens: LensFull. -/
import Derived.Test.YtpnccehaomikbaaLfJ
import Derived.Test.YtpnccehaomikbaaLfH
namespace Go.Proofs.Ytpnccehaomikbaa
set_option linter.unusedVariables false
set_option linter.unusedSimpArgs false
set_option linter.unnecessarySimpa false
open Go.RowKit Go.ChangeShapes Go.WideShapes Go.Deep
namespace LenW

theorem ranked_bits {l L : List Int} {most : Nat} {lam : Nat → Nat} (h : Ranked l L most lam) (i : Nat) (hi : i < l.length) : ∃ b x, L[i]? = some x ∧ decide (0 < x) = b ∧ decide (0 < l[i]) = b ∧ x ≤ (most : Int) := by
  rcases ranked_at h i hi with ⟨r, hr, hp, _, e, h1, h2⟩ | ⟨hp, e⟩
  · exact ⟨true, _, e, by simp; omega, by simpa using hp, by omega⟩
  · exact ⟨false, _, e, by simp, by simpa using hp, by omega⟩
set_option maxRecDepth 100000 in
set_option maxHeartbeats 8000000 in
theorem full_law (A : Option Addr) (n c : Nat) (l : List Int) (most : Int) (w : World)
    (h : Rd w w.heap.size 1 A n (ints l)) (hn : n ≤ maxLen) :
    Calls Try.prog 6 #[.slice A n c, .int .i64 most] w fun e w' => e = .returned (.bool true) ∧ Below w.heap.size w w' := by
  unfold maxLen at hn
  by_cases h1 : (n : Int) > 300
  · clear h
    go_enter Try.func6, Try.ntmps6
    go_wp2_with fail
    refine (lawake_any _).mono ?_
    rintro e w7 ⟨rfl, hb7⟩
    go_wp2_with fail
    go_ret
    exact ⟨rfl, hb7⟩
  · have hl := rd_len h
    by_cases hv : refuseW l most = 0
    · have hu := usedL_le l
      have C1 := best_yes A n c l most w h hv (sort_ok _ (by omega))
      obtain ⟨lam, hR, hck⟩ := best_ranked hv
      have hm0 := (refuseW_ok hv).2.1
      have hmn : ((most.toNat : Nat) : Int) = most := by omega
      have HBI := Lib.hid (fun i (hi : i < l.length) => ranked_bits hR i hi)
      have HMO := Lib.hid (fun i k (hi : i < l.length) (hk : k < l.length) => best_more hR i k hi hk)
      have hLl := hR.len
      obtain ⟨L, hL⟩ : ∃ L, bestW l most.toNat = L := ⟨_, rfl⟩
      rw [hL] at C1 hck hLl HBI HMO
      rw [hl] at hLl
      have HLl := Lib.hid hLl
      have HLN := Lib.hid hl
      have hn0 : l.length ≤ n := by omega
      have hn0' : n ≤ l.length := by omega
      have HCK := Lib.hid hck
      have HMN := Lib.hid hmn
      clear hL hv hl hLl hR hck hmn
      go_enter Try.func6, Try.ntmps6
      go_wp2_with fail
      refine C1.mono ?_
      rintro e w1 ⟨g1, hg1, hg1', rfl, bi, hb1⟩
      clear C1
      go_wp2_with fail
      have r1 := (Rd.of_blk (size := 1) (m := n) bi (by rw [ints_len, HLl.out]; omega)).more (show g1 + 1 ≤ w1.heap.size by omega)
      refine (check_any (some ⟨g1, 0, none⟩) n n L w1 r1 (by omega) 0 HCK.out).mono ?_
      rintro e w2 ⟨rfl, rfl⟩
      clear r1
      go_wp2_with fail
      go_loopw [7] (fun s v => ∃ i : Nat, s = .int .i64 i ∧ i ≤ n ∧ Blk v g1 3 (ints L).toArray ∧ Below w.heap.size w v) (fun s _ => n - (intOf s).toNat)
      case atStart => exact ⟨0, rfl, by omega, bi, hb1⟩
      case round =>
        clear bi hb1
        obtain ⟨i, rfl, hi, b1, HB⟩ := hrel
        have hi0 : (0 : Int) ≤ (i : Int) := by omega
        by_cases hlt : i < n
        · have hil : i < l.length := by omega
          have hiI : (i : Int) < (n : Int) := by omega
          have haddi : IntKind.i64.wrap ((i : Int) + 1) = (i : Int) + 1 := w64k (by omega) (by omega)
          obtain ⟨lb, lo, rfl, hlb, hlc⟩ := rd_ints h (by omega)
          have e1 := hlc i hil
          obtain ⟨bb, xi, hxi, hbx, hby, hxm⟩ := HBI.out i hil
          rw [HMN.out] at hxm
          have HMI := Lib.hid (fun k (hk : k < l.length) => HMO.out i k hil hk)
          obtain ⟨li, hli⟩ : ∃ li, l[i] = li := ⟨_, rfl⟩
          rw [hli] at e1 hby HMI
          have E1 := Lib.hid e1
          have E3 := Lib.hid (show (ints L).toArray[i]? = some (.int .i64 xi) by rw [List.getElem?_toArray]; simp [ints, hxi])
          have HXI := Lib.hid hxi
          have hxm2 : ¬ most < xi := by omega
          have hxd : decide (most < xi) = false := by simp; omega
          clear e1 hxi hli hxm
          go_wp2_with fail
          refine wp_region_held_drew (S := (fun w' => w'.cell? ⟨lb, lo + i, none⟩ = some (.int .i64 li) ∧ w'.cell? ⟨g1, i, none⟩ = some (.int .i64 xi))) (by kernel_rfl) ?_ (fun hHeld => ?_)
          · replace HB := Below.drew HB; replace b1 := Blk.drew b1; (try dsimp only); exact ⟨(HB.cell hlb).trans E1.out, b1.cell_ i E3.out⟩
          replace HB := Below.drew HB
          replace b1 := Blk.drew b1
          have zHB := HB.size
          refine take_movev (v := ?vu4x0) 0 (Operand.tmp 5) rfl rfl (by first | exact .inl rfl | exact .inr rfl) rfl (by kernel_rfl) (by kernel_rfl) (by kernel_rfl) (fun _ _ _ h => h) (by assumption) ?yu4x0 ?ru4x0
          case yu4x0 => (go_simp; try (with_reducible rfl))
          simp only [List.setIfInBounds_toArray, List.set_cons_zero, List.set_cons_succ]
          refine take_movev (v := ?vu4x1) 1 (Operand.tmp 7) rfl rfl (by first | exact .inl rfl | exact .inr rfl) rfl (by kernel_rfl) (by kernel_rfl) (by kernel_rfl) (fun _ _ _ h => h) (by assumption) ?yu4x1 ?ru4x1
          case yu4x1 => (go_simp; try (with_reducible rfl))
          simp only [List.setIfInBounds_toArray, List.set_cons_zero, List.set_cons_succ]
          refine take_op (v := ?vu4x2) 2 (Op.indexAddr 22 (Operand.tmp 38) (Operand.tmp 39)) 0 rfl rfl rfl rfl rfl (by kernel_rfl) (by kernel_rfl) (by kernel_rfl) (fun _ _ _ h => h) ?yu4x2 (by assumption) ?ru4x2
          case yu4x2 => (intro w' hSw; (try dsimp only at hSw); go_simp; try (with_reducible rfl))
          simp only [List.setIfInBounds_toArray, List.set_cons_zero, List.set_cons_succ]
          refine take_op (v := ?vu4x3) 3 (Op.load 3 (Operand.tmp 40)) 3 rfl rfl rfl rfl rfl (by kernel_rfl) (by kernel_rfl) (by kernel_rfl) (fun _ _ _ h => h) ?yu4x3 (by assumption) ?ru4x3
          case yu4x3 => (intro w' hSw; (try dsimp only at hSw); go_simp; try (with_reducible rfl))
          simp only [List.setIfInBounds_toArray, List.set_cons_zero, List.set_cons_succ]
          refine take_op (v := ?vu4x4) 4 (Op.binOp BinOp.gtr 3 (Operand.tmp 41) (Operand.const (Value.int IntKind.i64 0)) 3) 4 rfl rfl rfl rfl rfl (by kernel_rfl) (by kernel_rfl) (by kernel_rfl) (fun _ _ _ h => h) ?yu4x4 (by assumption) ?ru4x4
          case yu4x4 => (intro w' hSw; (try dsimp only at hSw); go_simp; try (with_reducible rfl))
          simp only [List.setIfInBounds_toArray, List.set_cons_zero, List.set_cons_succ]
          refine take_movev (v := ?vu4x5) 5 (Operand.tmp 0) rfl rfl (by first | exact .inl rfl | exact .inr rfl) rfl (by kernel_rfl) (by kernel_rfl) (by kernel_rfl) (fun _ _ _ h => h) (by assumption) ?yu4x5 ?ru4x5
          case yu4x5 => (go_simp; try (with_reducible rfl))
          simp only [List.setIfInBounds_toArray, List.set_cons_zero, List.set_cons_succ]
          refine take_movev (v := ?vu4x6) 6 (Operand.tmp 7) rfl rfl (by first | exact .inl rfl | exact .inr rfl) rfl (by kernel_rfl) (by kernel_rfl) (by kernel_rfl) (fun _ _ _ h => h) (by assumption) ?yu4x6 ?ru4x6
          case yu4x6 => (go_simp; try (with_reducible rfl))
          simp only [List.setIfInBounds_toArray, List.set_cons_zero, List.set_cons_succ]
          refine take_op (v := ?vu4x7) 7 (Op.indexAddr 22 (Operand.tmp 43) (Operand.tmp 44)) 0 rfl rfl rfl rfl rfl (by kernel_rfl) (by kernel_rfl) (by kernel_rfl) (fun _ _ _ h => h) ?yu4x7 (by assumption) ?ru4x7
          case yu4x7 => (intro w' hSw; (try dsimp only at hSw); go_simp; try (with_reducible rfl))
          simp only [List.setIfInBounds_toArray, List.set_cons_zero, List.set_cons_succ]
          refine take_op (v := ?vu4x8) 8 (Op.load 3 (Operand.tmp 45)) 3 rfl rfl rfl rfl rfl (by kernel_rfl) (by kernel_rfl) (by kernel_rfl) (fun _ _ _ h => h) ?yu4x8 (by assumption) ?ru4x8
          case yu4x8 => (intro w' hSw; (try dsimp only at hSw); go_simp; try (with_reducible rfl))
          simp only [List.setIfInBounds_toArray, List.set_cons_zero, List.set_cons_succ]
          refine take_op (v := ?vu4x9) 9 (Op.binOp BinOp.gtr 3 (Operand.tmp 46) (Operand.const (Value.int IntKind.i64 0)) 3) 4 rfl rfl rfl rfl rfl (by kernel_rfl) (by kernel_rfl) (by kernel_rfl) (fun _ _ _ h => h) ?yu4x9 (by assumption) ?ru4x9
          case yu4x9 => (intro w' hSw; (try dsimp only at hSw); go_simp; try (with_reducible rfl))
          simp only [List.setIfInBounds_toArray, List.set_cons_zero, List.set_cons_succ]
          refine take_op (v := ?vu4x10) 10 (Op.binOp BinOp.neq 4 (Operand.tmp 42) (Operand.tmp 47) 4) 4 rfl rfl rfl rfl rfl (by kernel_rfl) (by kernel_rfl) (by kernel_rfl) (fun _ _ _ h => h) ?yu4x10 (by assumption) ?ru4x10
          case yu4x10 => (intro w' hSw; (try dsimp only at hSw); go_simp; try (with_reducible rfl))
          simp only [List.setIfInBounds_toArray, List.set_cons_zero, List.set_cons_succ]
          refine take_movev (v := ?vu4x11) 11 (Operand.tmp 48) rfl rfl (by first | exact .inl rfl | exact .inr rfl) rfl (by kernel_rfl) (by kernel_rfl) (by kernel_rfl) (fun _ _ _ h => h) (by assumption) ?yu4x11 ?ru4x11
          case yu4x11 => (go_simp; try (with_reducible rfl))
          simp only [List.setIfInBounds_toArray, List.set_cons_zero, List.set_cons_succ]
          refine take_movev (v := ?vu4x12) 12 (Operand.tmp 5) rfl rfl (by first | exact .inl rfl | exact .inr rfl) rfl (by kernel_rfl) (by kernel_rfl) (by kernel_rfl) (fun _ _ _ h => h) (by assumption) ?yu4x12 ?ru4x12
          case yu4x12 => (go_simp; try (with_reducible rfl))
          simp only [List.setIfInBounds_toArray, List.set_cons_zero, List.set_cons_succ]
          refine take_movev (v := ?vu4x13) 13 (Operand.tmp 7) rfl rfl (by first | exact .inl rfl | exact .inr rfl) rfl (by kernel_rfl) (by kernel_rfl) (by kernel_rfl) (fun _ _ _ h => h) (by assumption) ?yu4x13 ?ru4x13
          case yu4x13 => (go_simp; try (with_reducible rfl))
          simp only [List.setIfInBounds_toArray, List.set_cons_zero, List.set_cons_succ]
          refine take_op (v := ?vu4x14) 14 (Op.indexAddr 22 (Operand.tmp 50) (Operand.tmp 51)) 0 rfl rfl rfl rfl rfl (by kernel_rfl) (by kernel_rfl) (by kernel_rfl) (fun _ _ _ h => h) ?yu4x14 (by assumption) ?ru4x14
          case yu4x14 => (intro w' hSw; (try dsimp only at hSw); go_simp; try (with_reducible rfl))
          simp only [List.setIfInBounds_toArray, List.set_cons_zero, List.set_cons_succ]
          refine take_op (v := ?vu4x15) 15 (Op.load 3 (Operand.tmp 52)) 3 rfl rfl rfl rfl rfl (by kernel_rfl) (by kernel_rfl) (by kernel_rfl) (fun _ _ _ h => h) ?yu4x15 (by assumption) ?ru4x15
          case yu4x15 => (intro w' hSw; (try dsimp only at hSw); go_simp; try (with_reducible rfl))
          simp only [List.setIfInBounds_toArray, List.set_cons_zero, List.set_cons_succ]
          refine take_movev (v := ?vu4x16) 16 (Operand.tmp 1) rfl rfl (by first | exact .inl rfl | exact .inr rfl) rfl (by kernel_rfl) (by kernel_rfl) (by kernel_rfl) (fun _ _ _ h => h) (by assumption) ?yu4x16 ?ru4x16
          case yu4x16 => (go_simp; try (with_reducible rfl))
          simp only [List.setIfInBounds_toArray, List.set_cons_zero, List.set_cons_succ]
          refine take_op (v := ?vu4x17) 17 (Op.binOp BinOp.gtr 3 (Operand.tmp 53) (Operand.tmp 54) 3) 4 rfl rfl rfl rfl rfl (by kernel_rfl) (by kernel_rfl) (by kernel_rfl) (fun _ _ _ h => h) ?yu4x17 (by assumption) ?ru4x17
          case yu4x17 => (intro w' hSw; (try dsimp only at hSw); go_simp; try (with_reducible rfl))
          simp only [List.setIfInBounds_toArray, List.set_cons_zero, List.set_cons_succ]
          refine take_op (v := ?vu4x18) 18 (Op.pick (Operand.tmp 49) (Operand.const (Value.bool true)) (Operand.tmp 55)) 4 rfl rfl rfl rfl rfl (by kernel_rfl) (by kernel_rfl) (by kernel_rfl) (fun _ _ _ h => h) ?yu4x18 (by assumption) ?ru4x18
          case yu4x18 => (intro w' hSw; (try dsimp only at hSw); go_simp; try (with_reducible rfl))
          simp only [List.setIfInBounds_toArray, List.set_cons_zero, List.set_cons_succ]
          refine wpAnyH_done (by kernel_rfl) ?_ _
          clear hHeld
          go_wp2_with fail
          go_loopw [8] (fun s v => ∃ k : Nat, s = .int .i64 k ∧ k ≤ n ∧ Blk v g1 3 (ints L).toArray ∧ Below w.heap.size w v) (fun s _ => n - (intOf s).toNat)
          case atStart => exact ⟨0, rfl, by omega, b1, HB⟩
          case round =>
            clear b1 HB
            obtain ⟨k, rfl, hk, b1, HB⟩ := hrel
            have hk0 : (0 : Int) ≤ (k : Int) := by omega
            by_cases hlt2 : k < n
            · have hkl : k < l.length := by omega
              have hkI : (k : Int) < (n : Int) := by omega
              have haddk : IntKind.i64.wrap ((k : Int) + 1) = (k : Int) + 1 := w64k (by omega) (by omega)
              have e2 := hlc k hkl
              obtain ⟨bb2, xk, hxk, -, -, -⟩ := HBI.out k hkl
              have HMK := Lib.hid (HMI.out k hkl)
              obtain ⟨lk, hlk⟩ : ∃ lk, l[k] = lk := ⟨_, rfl⟩
              rw [hlk] at e2 HMK
              have E2 := Lib.hid e2
              have E4 := Lib.hid (show (ints L).toArray[k]? = some (.int .i64 xk) by rw [List.getElem?_toArray]; simp [ints, hxk])
              have HXK := Lib.hid hxk
              clear e2 hxk hlk
              by_cases q1 : lk < li
              · by_cases q2 : 0 < lk
                · have hle := HMK.out q1 q2 xi xk HXI.out HXK.out
                  have q3 : ¬ xk < xi := by omega
                  go_wp2_with fail
                  refine wp_region_held_drew (S := (fun w' => (w'.cell? ⟨lb, lo + i, none⟩ = some (.int .i64 li) ∧ w'.cell? ⟨lb, lo + k, none⟩ = some (.int .i64 lk)) ∧ (w'.cell? ⟨g1, i, none⟩ = some (.int .i64 xi) ∧ w'.cell? ⟨g1, k, none⟩ = some (.int .i64 xk)))) (by kernel_rfl) ?_ (fun hHeld => ?_)
                  · replace HB := Below.drew HB; replace b1 := Blk.drew b1; (try dsimp only); exact ⟨⟨(HB.cell hlb).trans E1.out, (HB.cell hlb).trans E2.out⟩, ⟨b1.cell_ i E3.out, b1.cell_ k E4.out⟩⟩
                  replace HB := Below.drew HB
                  replace b1 := Blk.drew b1
                  have zHB := HB.size
                  refine take_movev (v := ?vu1t4x0) 0 (Operand.tmp 0) rfl rfl (by first | exact .inl rfl | exact .inr rfl) rfl (by kernel_rfl) (by kernel_rfl) (by kernel_rfl) (fun _ _ _ h => h) (by assumption) ?yu1t4x0 ?ru1t4x0
                  case yu1t4x0 => (go_simp; try (with_reducible rfl))
                  simp only [List.setIfInBounds_toArray, List.set_cons_zero, List.set_cons_succ]
                  refine take_movev (v := ?vu1t4x1) 1 (Operand.tmp 7) rfl rfl (by first | exact .inl rfl | exact .inr rfl) rfl (by kernel_rfl) (by kernel_rfl) (by kernel_rfl) (fun _ _ _ h => h) (by assumption) ?yu1t4x1 ?ru1t4x1
                  case yu1t4x1 => (go_simp; try (with_reducible rfl))
                  simp only [List.setIfInBounds_toArray, List.set_cons_zero, List.set_cons_succ]
                  refine take_op (v := ?vu1t4x2) 2 (Op.indexAddr 22 (Operand.tmp 63) (Operand.tmp 64)) 0 rfl rfl rfl rfl rfl (by kernel_rfl) (by kernel_rfl) (by kernel_rfl) (fun _ _ _ h => h) ?yu1t4x2 (by assumption) ?ru1t4x2
                  case yu1t4x2 => (intro w' hSw; (try dsimp only at hSw); go_simp; try (with_reducible rfl))
                  simp only [List.setIfInBounds_toArray, List.set_cons_zero, List.set_cons_succ]
                  refine take_op (v := ?vu1t4x3) 3 (Op.load 3 (Operand.tmp 65)) 3 rfl rfl rfl rfl rfl (by kernel_rfl) (by kernel_rfl) (by kernel_rfl) (fun _ _ _ h => h) ?yu1t4x3 (by assumption) ?ru1t4x3
                  case yu1t4x3 => (intro w' hSw; (try dsimp only at hSw); go_simp; try (with_reducible rfl))
                  simp only [List.setIfInBounds_toArray, List.set_cons_zero, List.set_cons_succ]
                  refine take_movev (v := ?vu1t4x4) 4 (Operand.tmp 0) rfl rfl (by first | exact .inl rfl | exact .inr rfl) rfl (by kernel_rfl) (by kernel_rfl) (by kernel_rfl) (fun _ _ _ h => h) (by assumption) ?yu1t4x4 ?ru1t4x4
                  case yu1t4x4 => (go_simp; try (with_reducible rfl))
                  simp only [List.setIfInBounds_toArray, List.set_cons_zero, List.set_cons_succ]
                  refine take_movev (v := ?vu1t4x5) 5 (Operand.tmp 8) rfl rfl (by first | exact .inl rfl | exact .inr rfl) rfl (by kernel_rfl) (by kernel_rfl) (by kernel_rfl) (fun _ _ _ h => h) (by assumption) ?yu1t4x5 ?ru1t4x5
                  case yu1t4x5 => (go_simp; try (with_reducible rfl))
                  simp only [List.setIfInBounds_toArray, List.set_cons_zero, List.set_cons_succ]
                  refine take_op (v := ?vu1t4x6) 6 (Op.indexAddr 22 (Operand.tmp 67) (Operand.tmp 68)) 0 rfl rfl rfl rfl rfl (by kernel_rfl) (by kernel_rfl) (by kernel_rfl) (fun _ _ _ h => h) ?yu1t4x6 (by assumption) ?ru1t4x6
                  case yu1t4x6 => (intro w' hSw; (try dsimp only at hSw); go_simp; try (with_reducible rfl))
                  simp only [List.setIfInBounds_toArray, List.set_cons_zero, List.set_cons_succ]
                  refine take_op (v := ?vu1t4x7) 7 (Op.load 3 (Operand.tmp 69)) 3 rfl rfl rfl rfl rfl (by kernel_rfl) (by kernel_rfl) (by kernel_rfl) (fun _ _ _ h => h) ?yu1t4x7 (by assumption) ?ru1t4x7
                  case yu1t4x7 => (intro w' hSw; (try dsimp only at hSw); go_simp; try (with_reducible rfl))
                  simp only [List.setIfInBounds_toArray, List.set_cons_zero, List.set_cons_succ]
                  refine take_op (v := ?vu1t4x8) 8 (Op.binOp BinOp.gtr 3 (Operand.tmp 66) (Operand.tmp 70) 3) 4 rfl rfl rfl rfl rfl (by kernel_rfl) (by kernel_rfl) (by kernel_rfl) (fun _ _ _ h => h) ?yu1t4x8 (by assumption) ?ru1t4x8
                  case yu1t4x8 => (intro w' hSw; (try dsimp only at hSw); go_simp; try (with_reducible rfl))
                  simp only [List.setIfInBounds_toArray, List.set_cons_zero, List.set_cons_succ]
                  refine take_movev (v := ?vu1t4x9) 9 (Operand.tmp 71) rfl rfl (by first | exact .inl rfl | exact .inr rfl) rfl (by kernel_rfl) (by kernel_rfl) (by kernel_rfl) (fun _ _ _ h => h) (by assumption) ?yu1t4x9 ?ru1t4x9
                  case yu1t4x9 => (go_simp; try (with_reducible rfl))
                  simp only [List.setIfInBounds_toArray, List.set_cons_zero, List.set_cons_succ]
                  refine take_movev (v := ?vu1t4x10) 10 (Operand.tmp 0) rfl rfl (by first | exact .inl rfl | exact .inr rfl) rfl (by kernel_rfl) (by kernel_rfl) (by kernel_rfl) (fun _ _ _ h => h) (by assumption) ?yu1t4x10 ?ru1t4x10
                  case yu1t4x10 => (go_simp; try (with_reducible rfl))
                  simp only [List.setIfInBounds_toArray, List.set_cons_zero, List.set_cons_succ]
                  refine take_movev (v := ?vu1t4x11) 11 (Operand.tmp 8) rfl rfl (by first | exact .inl rfl | exact .inr rfl) rfl (by kernel_rfl) (by kernel_rfl) (by kernel_rfl) (fun _ _ _ h => h) (by assumption) ?yu1t4x11 ?ru1t4x11
                  case yu1t4x11 => (go_simp; try (with_reducible rfl))
                  simp only [List.setIfInBounds_toArray, List.set_cons_zero, List.set_cons_succ]
                  refine take_op (v := ?vu1t4x12) 12 (Op.indexAddr 22 (Operand.tmp 73) (Operand.tmp 74)) 0 rfl rfl rfl rfl rfl (by kernel_rfl) (by kernel_rfl) (by kernel_rfl) (fun _ _ _ h => h) ?yu1t4x12 (by assumption) ?ru1t4x12
                  case yu1t4x12 => (intro w' hSw; (try dsimp only at hSw); go_simp; try (with_reducible rfl))
                  simp only [List.setIfInBounds_toArray, List.set_cons_zero, List.set_cons_succ]
                  refine take_op (v := ?vu1t4x13) 13 (Op.load 3 (Operand.tmp 75)) 3 rfl rfl rfl rfl rfl (by kernel_rfl) (by kernel_rfl) (by kernel_rfl) (fun _ _ _ h => h) ?yu1t4x13 (by assumption) ?ru1t4x13
                  case yu1t4x13 => (intro w' hSw; (try dsimp only at hSw); go_simp; try (with_reducible rfl))
                  simp only [List.setIfInBounds_toArray, List.set_cons_zero, List.set_cons_succ]
                  refine take_op (v := ?vu1t4x14) 14 (Op.binOp BinOp.gtr 3 (Operand.tmp 76) (Operand.const (Value.int IntKind.i64 0)) 3) 4 rfl rfl rfl rfl rfl (by kernel_rfl) (by kernel_rfl) (by kernel_rfl) (fun _ _ _ h => h) ?yu1t4x14 (by assumption) ?ru1t4x14
                  case yu1t4x14 => (intro w' hSw; (try dsimp only at hSw); go_simp; try (with_reducible rfl))
                  simp only [List.setIfInBounds_toArray, List.set_cons_zero, List.set_cons_succ]
                  refine take_op (v := ?vu1t4x15) 15 (Op.pick (Operand.tmp 72) (Operand.tmp 77) (Operand.const (Value.bool false))) 4 rfl rfl rfl rfl rfl (by kernel_rfl) (by kernel_rfl) (by kernel_rfl) (fun _ _ _ h => h) ?yu1t4x15 (by assumption) ?ru1t4x15
                  case yu1t4x15 => (intro w' hSw; (try dsimp only at hSw); go_simp; try (with_reducible rfl))
                  simp only [List.setIfInBounds_toArray, List.set_cons_zero, List.set_cons_succ]
                  refine take_movev (v := ?vu1t4x16) 16 (Operand.tmp 78) rfl rfl (by first | exact .inl rfl | exact .inr rfl) rfl (by kernel_rfl) (by kernel_rfl) (by kernel_rfl) (fun _ _ _ h => h) (by assumption) ?yu1t4x16 ?ru1t4x16
                  case yu1t4x16 => (go_simp; try (with_reducible rfl))
                  simp only [List.setIfInBounds_toArray, List.set_cons_zero, List.set_cons_succ]
                  refine take_movev (v := ?vu1t4x17) 17 (Operand.tmp 5) rfl rfl (by first | exact .inl rfl | exact .inr rfl) rfl (by kernel_rfl) (by kernel_rfl) (by kernel_rfl) (fun _ _ _ h => h) (by assumption) ?yu1t4x17 ?ru1t4x17
                  case yu1t4x17 => (go_simp; try (with_reducible rfl))
                  simp only [List.setIfInBounds_toArray, List.set_cons_zero, List.set_cons_succ]
                  refine take_movev (v := ?vu1t4x18) 18 (Operand.tmp 7) rfl rfl (by first | exact .inl rfl | exact .inr rfl) rfl (by kernel_rfl) (by kernel_rfl) (by kernel_rfl) (fun _ _ _ h => h) (by assumption) ?yu1t4x18 ?ru1t4x18
                  case yu1t4x18 => (go_simp; try (with_reducible rfl))
                  simp only [List.setIfInBounds_toArray, List.set_cons_zero, List.set_cons_succ]
                  refine take_op (v := ?vu1t4x19) 19 (Op.indexAddr 22 (Operand.tmp 80) (Operand.tmp 81)) 0 rfl rfl rfl rfl rfl (by kernel_rfl) (by kernel_rfl) (by kernel_rfl) (fun _ _ _ h => h) ?yu1t4x19 (by assumption) ?ru1t4x19
                  case yu1t4x19 => (intro w' hSw; (try dsimp only at hSw); go_simp; try (with_reducible rfl))
                  simp only [List.setIfInBounds_toArray, List.set_cons_zero, List.set_cons_succ]
                  refine take_op (v := ?vu1t4x20) 20 (Op.load 3 (Operand.tmp 82)) 3 rfl rfl rfl rfl rfl (by kernel_rfl) (by kernel_rfl) (by kernel_rfl) (fun _ _ _ h => h) ?yu1t4x20 (by assumption) ?ru1t4x20
                  case yu1t4x20 => (intro w' hSw; (try dsimp only at hSw); go_simp; try (with_reducible rfl))
                  simp only [List.setIfInBounds_toArray, List.set_cons_zero, List.set_cons_succ]
                  refine take_movev (v := ?vu1t4x21) 21 (Operand.tmp 5) rfl rfl (by first | exact .inl rfl | exact .inr rfl) rfl (by kernel_rfl) (by kernel_rfl) (by kernel_rfl) (fun _ _ _ h => h) (by assumption) ?yu1t4x21 ?ru1t4x21
                  case yu1t4x21 => (go_simp; try (with_reducible rfl))
                  simp only [List.setIfInBounds_toArray, List.set_cons_zero, List.set_cons_succ]
                  refine take_movev (v := ?vu1t4x22) 22 (Operand.tmp 8) rfl rfl (by first | exact .inl rfl | exact .inr rfl) rfl (by kernel_rfl) (by kernel_rfl) (by kernel_rfl) (fun _ _ _ h => h) (by assumption) ?yu1t4x22 ?ru1t4x22
                  case yu1t4x22 => (go_simp; try (with_reducible rfl))
                  simp only [List.setIfInBounds_toArray, List.set_cons_zero, List.set_cons_succ]
                  refine take_op (v := ?vu1t4x23) 23 (Op.indexAddr 22 (Operand.tmp 84) (Operand.tmp 85)) 0 rfl rfl rfl rfl rfl (by kernel_rfl) (by kernel_rfl) (by kernel_rfl) (fun _ _ _ h => h) ?yu1t4x23 (by assumption) ?ru1t4x23
                  case yu1t4x23 => (intro w' hSw; (try dsimp only at hSw); go_simp; try (with_reducible rfl))
                  simp only [List.setIfInBounds_toArray, List.set_cons_zero, List.set_cons_succ]
                  refine take_op (v := ?vu1t4x24) 24 (Op.load 3 (Operand.tmp 86)) 3 rfl rfl rfl rfl rfl (by kernel_rfl) (by kernel_rfl) (by kernel_rfl) (fun _ _ _ h => h) ?yu1t4x24 (by assumption) ?ru1t4x24
                  case yu1t4x24 => (intro w' hSw; (try dsimp only at hSw); go_simp; try (with_reducible rfl))
                  simp only [List.setIfInBounds_toArray, List.set_cons_zero, List.set_cons_succ]
                  refine take_op (v := ?vu1t4x25) 25 (Op.binOp BinOp.gtr 3 (Operand.tmp 83) (Operand.tmp 87) 3) 4 rfl rfl rfl rfl rfl (by kernel_rfl) (by kernel_rfl) (by kernel_rfl) (fun _ _ _ h => h) ?yu1t4x25 (by assumption) ?ru1t4x25
                  case yu1t4x25 => (intro w' hSw; (try dsimp only at hSw); go_simp; try (with_reducible rfl))
                  simp only [List.setIfInBounds_toArray, List.set_cons_zero, List.set_cons_succ]
                  refine take_op (v := ?vu1t4x26) 26 (Op.pick (Operand.tmp 79) (Operand.tmp 88) (Operand.const (Value.bool false))) 4 rfl rfl rfl rfl rfl (by kernel_rfl) (by kernel_rfl) (by kernel_rfl) (fun _ _ _ h => h) ?yu1t4x26 (by assumption) ?ru1t4x26
                  case yu1t4x26 => (intro w' hSw; (try dsimp only at hSw); go_simp; try (with_reducible rfl))
                  simp only [List.setIfInBounds_toArray, List.set_cons_zero, List.set_cons_succ]
                  refine wpAnyH_done (by kernel_rfl) ?_ _
                  clear hHeld
                  go_wp2_with fail
                  go_roundw
                  case rel => exact ⟨k + 1, by go_num, by omega, b1, HB⟩
                  case measure => simp [intOf]; omega
                · have q2' : decide (0 < lk) = false := by simp; omega
                  go_wp2_with fail
                  refine wp_region_held_drew (S := (fun w' => (w'.cell? ⟨lb, lo + i, none⟩ = some (.int .i64 li) ∧ w'.cell? ⟨lb, lo + k, none⟩ = some (.int .i64 lk)) ∧ (w'.cell? ⟨g1, i, none⟩ = some (.int .i64 xi) ∧ w'.cell? ⟨g1, k, none⟩ = some (.int .i64 xk)))) (by kernel_rfl) ?_ (fun hHeld => ?_)
                  · replace HB := Below.drew HB; replace b1 := Blk.drew b1; (try dsimp only); exact ⟨⟨(HB.cell hlb).trans E1.out, (HB.cell hlb).trans E2.out⟩, ⟨b1.cell_ i E3.out, b1.cell_ k E4.out⟩⟩
                  replace HB := Below.drew HB
                  replace b1 := Blk.drew b1
                  have zHB := HB.size
                  refine take_movev (v := ?vu2t4x0) 0 (Operand.tmp 0) rfl rfl (by first | exact .inl rfl | exact .inr rfl) rfl (by kernel_rfl) (by kernel_rfl) (by kernel_rfl) (fun _ _ _ h => h) (by assumption) ?yu2t4x0 ?ru2t4x0
                  case yu2t4x0 => (go_simp; try (with_reducible rfl))
                  simp only [List.setIfInBounds_toArray, List.set_cons_zero, List.set_cons_succ]
                  refine take_movev (v := ?vu2t4x1) 1 (Operand.tmp 7) rfl rfl (by first | exact .inl rfl | exact .inr rfl) rfl (by kernel_rfl) (by kernel_rfl) (by kernel_rfl) (fun _ _ _ h => h) (by assumption) ?yu2t4x1 ?ru2t4x1
                  case yu2t4x1 => (go_simp; try (with_reducible rfl))
                  simp only [List.setIfInBounds_toArray, List.set_cons_zero, List.set_cons_succ]
                  refine take_op (v := ?vu2t4x2) 2 (Op.indexAddr 22 (Operand.tmp 63) (Operand.tmp 64)) 0 rfl rfl rfl rfl rfl (by kernel_rfl) (by kernel_rfl) (by kernel_rfl) (fun _ _ _ h => h) ?yu2t4x2 (by assumption) ?ru2t4x2
                  case yu2t4x2 => (intro w' hSw; (try dsimp only at hSw); go_simp; try (with_reducible rfl))
                  simp only [List.setIfInBounds_toArray, List.set_cons_zero, List.set_cons_succ]
                  refine take_op (v := ?vu2t4x3) 3 (Op.load 3 (Operand.tmp 65)) 3 rfl rfl rfl rfl rfl (by kernel_rfl) (by kernel_rfl) (by kernel_rfl) (fun _ _ _ h => h) ?yu2t4x3 (by assumption) ?ru2t4x3
                  case yu2t4x3 => (intro w' hSw; (try dsimp only at hSw); go_simp; try (with_reducible rfl))
                  simp only [List.setIfInBounds_toArray, List.set_cons_zero, List.set_cons_succ]
                  refine take_movev (v := ?vu2t4x4) 4 (Operand.tmp 0) rfl rfl (by first | exact .inl rfl | exact .inr rfl) rfl (by kernel_rfl) (by kernel_rfl) (by kernel_rfl) (fun _ _ _ h => h) (by assumption) ?yu2t4x4 ?ru2t4x4
                  case yu2t4x4 => (go_simp; try (with_reducible rfl))
                  simp only [List.setIfInBounds_toArray, List.set_cons_zero, List.set_cons_succ]
                  refine take_movev (v := ?vu2t4x5) 5 (Operand.tmp 8) rfl rfl (by first | exact .inl rfl | exact .inr rfl) rfl (by kernel_rfl) (by kernel_rfl) (by kernel_rfl) (fun _ _ _ h => h) (by assumption) ?yu2t4x5 ?ru2t4x5
                  case yu2t4x5 => (go_simp; try (with_reducible rfl))
                  simp only [List.setIfInBounds_toArray, List.set_cons_zero, List.set_cons_succ]
                  refine take_op (v := ?vu2t4x6) 6 (Op.indexAddr 22 (Operand.tmp 67) (Operand.tmp 68)) 0 rfl rfl rfl rfl rfl (by kernel_rfl) (by kernel_rfl) (by kernel_rfl) (fun _ _ _ h => h) ?yu2t4x6 (by assumption) ?ru2t4x6
                  case yu2t4x6 => (intro w' hSw; (try dsimp only at hSw); go_simp; try (with_reducible rfl))
                  simp only [List.setIfInBounds_toArray, List.set_cons_zero, List.set_cons_succ]
                  refine take_op (v := ?vu2t4x7) 7 (Op.load 3 (Operand.tmp 69)) 3 rfl rfl rfl rfl rfl (by kernel_rfl) (by kernel_rfl) (by kernel_rfl) (fun _ _ _ h => h) ?yu2t4x7 (by assumption) ?ru2t4x7
                  case yu2t4x7 => (intro w' hSw; (try dsimp only at hSw); go_simp; try (with_reducible rfl))
                  simp only [List.setIfInBounds_toArray, List.set_cons_zero, List.set_cons_succ]
                  refine take_op (v := ?vu2t4x8) 8 (Op.binOp BinOp.gtr 3 (Operand.tmp 66) (Operand.tmp 70) 3) 4 rfl rfl rfl rfl rfl (by kernel_rfl) (by kernel_rfl) (by kernel_rfl) (fun _ _ _ h => h) ?yu2t4x8 (by assumption) ?ru2t4x8
                  case yu2t4x8 => (intro w' hSw; (try dsimp only at hSw); go_simp; try (with_reducible rfl))
                  simp only [List.setIfInBounds_toArray, List.set_cons_zero, List.set_cons_succ]
                  refine take_movev (v := ?vu2t4x9) 9 (Operand.tmp 71) rfl rfl (by first | exact .inl rfl | exact .inr rfl) rfl (by kernel_rfl) (by kernel_rfl) (by kernel_rfl) (fun _ _ _ h => h) (by assumption) ?yu2t4x9 ?ru2t4x9
                  case yu2t4x9 => (go_simp; try (with_reducible rfl))
                  simp only [List.setIfInBounds_toArray, List.set_cons_zero, List.set_cons_succ]
                  refine take_movev (v := ?vu2t4x10) 10 (Operand.tmp 0) rfl rfl (by first | exact .inl rfl | exact .inr rfl) rfl (by kernel_rfl) (by kernel_rfl) (by kernel_rfl) (fun _ _ _ h => h) (by assumption) ?yu2t4x10 ?ru2t4x10
                  case yu2t4x10 => (go_simp; try (with_reducible rfl))
                  simp only [List.setIfInBounds_toArray, List.set_cons_zero, List.set_cons_succ]
                  refine take_movev (v := ?vu2t4x11) 11 (Operand.tmp 8) rfl rfl (by first | exact .inl rfl | exact .inr rfl) rfl (by kernel_rfl) (by kernel_rfl) (by kernel_rfl) (fun _ _ _ h => h) (by assumption) ?yu2t4x11 ?ru2t4x11
                  case yu2t4x11 => (go_simp; try (with_reducible rfl))
                  simp only [List.setIfInBounds_toArray, List.set_cons_zero, List.set_cons_succ]
                  refine take_op (v := ?vu2t4x12) 12 (Op.indexAddr 22 (Operand.tmp 73) (Operand.tmp 74)) 0 rfl rfl rfl rfl rfl (by kernel_rfl) (by kernel_rfl) (by kernel_rfl) (fun _ _ _ h => h) ?yu2t4x12 (by assumption) ?ru2t4x12
                  case yu2t4x12 => (intro w' hSw; (try dsimp only at hSw); go_simp; try (with_reducible rfl))
                  simp only [List.setIfInBounds_toArray, List.set_cons_zero, List.set_cons_succ]
                  refine take_op (v := ?vu2t4x13) 13 (Op.load 3 (Operand.tmp 75)) 3 rfl rfl rfl rfl rfl (by kernel_rfl) (by kernel_rfl) (by kernel_rfl) (fun _ _ _ h => h) ?yu2t4x13 (by assumption) ?ru2t4x13
                  case yu2t4x13 => (intro w' hSw; (try dsimp only at hSw); go_simp; try (with_reducible rfl))
                  simp only [List.setIfInBounds_toArray, List.set_cons_zero, List.set_cons_succ]
                  refine take_op (v := ?vu2t4x14) 14 (Op.binOp BinOp.gtr 3 (Operand.tmp 76) (Operand.const (Value.int IntKind.i64 0)) 3) 4 rfl rfl rfl rfl rfl (by kernel_rfl) (by kernel_rfl) (by kernel_rfl) (fun _ _ _ h => h) ?yu2t4x14 (by assumption) ?ru2t4x14
                  case yu2t4x14 => (intro w' hSw; (try dsimp only at hSw); go_simp; try (with_reducible rfl))
                  simp only [List.setIfInBounds_toArray, List.set_cons_zero, List.set_cons_succ]
                  refine take_op (v := ?vu2t4x15) 15 (Op.pick (Operand.tmp 72) (Operand.tmp 77) (Operand.const (Value.bool false))) 4 rfl rfl rfl rfl rfl (by kernel_rfl) (by kernel_rfl) (by kernel_rfl) (fun _ _ _ h => h) ?yu2t4x15 (by assumption) ?ru2t4x15
                  case yu2t4x15 => (intro w' hSw; (try dsimp only at hSw); go_simp; try (with_reducible rfl))
                  simp only [List.setIfInBounds_toArray, List.set_cons_zero, List.set_cons_succ]
                  refine take_movev (v := ?vu2t4x16) 16 (Operand.tmp 78) rfl rfl (by first | exact .inl rfl | exact .inr rfl) rfl (by kernel_rfl) (by kernel_rfl) (by kernel_rfl) (fun _ _ _ h => h) (by assumption) ?yu2t4x16 ?ru2t4x16
                  case yu2t4x16 => (go_simp; try (with_reducible rfl))
                  simp only [List.setIfInBounds_toArray, List.set_cons_zero, List.set_cons_succ]
                  refine take_skip 17 rfl rfl rfl (by kernel_rfl) (by kernel_rfl) (by kernel_rfl) (fun _ _ _ h => h) (by assumption) ?_
                  simp only [List.setIfInBounds_toArray, List.set_cons_zero, List.set_cons_succ]
                  refine take_skip 18 rfl rfl rfl (by kernel_rfl) (by kernel_rfl) (by kernel_rfl) (fun _ _ _ h => h) (by assumption) ?_
                  simp only [List.setIfInBounds_toArray, List.set_cons_zero, List.set_cons_succ]
                  refine take_skip 19 rfl rfl rfl (by kernel_rfl) (by kernel_rfl) (by kernel_rfl) (fun _ _ _ h => h) (by assumption) ?_
                  simp only [List.setIfInBounds_toArray, List.set_cons_zero, List.set_cons_succ]
                  refine take_skip 20 rfl rfl rfl (by kernel_rfl) (by kernel_rfl) (by kernel_rfl) (fun _ _ _ h => h) (by assumption) ?_
                  simp only [List.setIfInBounds_toArray, List.set_cons_zero, List.set_cons_succ]
                  refine take_skip 21 rfl rfl rfl (by kernel_rfl) (by kernel_rfl) (by kernel_rfl) (fun _ _ _ h => h) (by assumption) ?_
                  simp only [List.setIfInBounds_toArray, List.set_cons_zero, List.set_cons_succ]
                  refine take_skip 22 rfl rfl rfl (by kernel_rfl) (by kernel_rfl) (by kernel_rfl) (fun _ _ _ h => h) (by assumption) ?_
                  simp only [List.setIfInBounds_toArray, List.set_cons_zero, List.set_cons_succ]
                  refine take_skip 23 rfl rfl rfl (by kernel_rfl) (by kernel_rfl) (by kernel_rfl) (fun _ _ _ h => h) (by assumption) ?_
                  simp only [List.setIfInBounds_toArray, List.set_cons_zero, List.set_cons_succ]
                  refine take_skip 24 rfl rfl rfl (by kernel_rfl) (by kernel_rfl) (by kernel_rfl) (fun _ _ _ h => h) (by assumption) ?_
                  simp only [List.setIfInBounds_toArray, List.set_cons_zero, List.set_cons_succ]
                  refine take_skip 25 rfl rfl rfl (by kernel_rfl) (by kernel_rfl) (by kernel_rfl) (fun _ _ _ h => h) (by assumption) ?_
                  simp only [List.setIfInBounds_toArray, List.set_cons_zero, List.set_cons_succ]
                  refine take_op (v := ?vu2t4x26) 26 (Op.pick (Operand.tmp 79) (Operand.tmp 88) (Operand.const (Value.bool false))) 4 rfl rfl rfl rfl rfl (by kernel_rfl) (by kernel_rfl) (by kernel_rfl) (fun _ _ _ h => h) ?yu2t4x26 (by assumption) ?ru2t4x26
                  case yu2t4x26 => (intro w' hSw; (try dsimp only at hSw); go_simp; try (with_reducible rfl))
                  simp only [List.setIfInBounds_toArray, List.set_cons_zero, List.set_cons_succ]
                  refine wpAnyH_done (by kernel_rfl) ?_ _
                  clear hHeld
                  go_wp2_with fail
                  go_roundw
                  case rel => exact ⟨k + 1, by go_num, by omega, b1, HB⟩
                  case measure => simp [intOf]; omega
              · have q1' : decide (lk < li) = false := by simp; omega
                go_wp2_with fail
                refine wp_region_held_drew (S := (fun w' => (w'.cell? ⟨lb, lo + i, none⟩ = some (.int .i64 li) ∧ w'.cell? ⟨lb, lo + k, none⟩ = some (.int .i64 lk)) ∧ (w'.cell? ⟨g1, i, none⟩ = some (.int .i64 xi) ∧ w'.cell? ⟨g1, k, none⟩ = some (.int .i64 xk)))) (by kernel_rfl) ?_ (fun hHeld => ?_)
                · replace HB := Below.drew HB; replace b1 := Blk.drew b1; (try dsimp only); exact ⟨⟨(HB.cell hlb).trans E1.out, (HB.cell hlb).trans E2.out⟩, ⟨b1.cell_ i E3.out, b1.cell_ k E4.out⟩⟩
                replace HB := Below.drew HB
                replace b1 := Blk.drew b1
                have zHB := HB.size
                refine take_movev (v := ?vu3t4x0) 0 (Operand.tmp 0) rfl rfl (by first | exact .inl rfl | exact .inr rfl) rfl (by kernel_rfl) (by kernel_rfl) (by kernel_rfl) (fun _ _ _ h => h) (by assumption) ?yu3t4x0 ?ru3t4x0
                case yu3t4x0 => (go_simp; try (with_reducible rfl))
                simp only [List.setIfInBounds_toArray, List.set_cons_zero, List.set_cons_succ]
                refine take_movev (v := ?vu3t4x1) 1 (Operand.tmp 7) rfl rfl (by first | exact .inl rfl | exact .inr rfl) rfl (by kernel_rfl) (by kernel_rfl) (by kernel_rfl) (fun _ _ _ h => h) (by assumption) ?yu3t4x1 ?ru3t4x1
                case yu3t4x1 => (go_simp; try (with_reducible rfl))
                simp only [List.setIfInBounds_toArray, List.set_cons_zero, List.set_cons_succ]
                refine take_op (v := ?vu3t4x2) 2 (Op.indexAddr 22 (Operand.tmp 63) (Operand.tmp 64)) 0 rfl rfl rfl rfl rfl (by kernel_rfl) (by kernel_rfl) (by kernel_rfl) (fun _ _ _ h => h) ?yu3t4x2 (by assumption) ?ru3t4x2
                case yu3t4x2 => (intro w' hSw; (try dsimp only at hSw); go_simp; try (with_reducible rfl))
                simp only [List.setIfInBounds_toArray, List.set_cons_zero, List.set_cons_succ]
                refine take_op (v := ?vu3t4x3) 3 (Op.load 3 (Operand.tmp 65)) 3 rfl rfl rfl rfl rfl (by kernel_rfl) (by kernel_rfl) (by kernel_rfl) (fun _ _ _ h => h) ?yu3t4x3 (by assumption) ?ru3t4x3
                case yu3t4x3 => (intro w' hSw; (try dsimp only at hSw); go_simp; try (with_reducible rfl))
                simp only [List.setIfInBounds_toArray, List.set_cons_zero, List.set_cons_succ]
                refine take_movev (v := ?vu3t4x4) 4 (Operand.tmp 0) rfl rfl (by first | exact .inl rfl | exact .inr rfl) rfl (by kernel_rfl) (by kernel_rfl) (by kernel_rfl) (fun _ _ _ h => h) (by assumption) ?yu3t4x4 ?ru3t4x4
                case yu3t4x4 => (go_simp; try (with_reducible rfl))
                simp only [List.setIfInBounds_toArray, List.set_cons_zero, List.set_cons_succ]
                refine take_movev (v := ?vu3t4x5) 5 (Operand.tmp 8) rfl rfl (by first | exact .inl rfl | exact .inr rfl) rfl (by kernel_rfl) (by kernel_rfl) (by kernel_rfl) (fun _ _ _ h => h) (by assumption) ?yu3t4x5 ?ru3t4x5
                case yu3t4x5 => (go_simp; try (with_reducible rfl))
                simp only [List.setIfInBounds_toArray, List.set_cons_zero, List.set_cons_succ]
                refine take_op (v := ?vu3t4x6) 6 (Op.indexAddr 22 (Operand.tmp 67) (Operand.tmp 68)) 0 rfl rfl rfl rfl rfl (by kernel_rfl) (by kernel_rfl) (by kernel_rfl) (fun _ _ _ h => h) ?yu3t4x6 (by assumption) ?ru3t4x6
                case yu3t4x6 => (intro w' hSw; (try dsimp only at hSw); go_simp; try (with_reducible rfl))
                simp only [List.setIfInBounds_toArray, List.set_cons_zero, List.set_cons_succ]
                refine take_op (v := ?vu3t4x7) 7 (Op.load 3 (Operand.tmp 69)) 3 rfl rfl rfl rfl rfl (by kernel_rfl) (by kernel_rfl) (by kernel_rfl) (fun _ _ _ h => h) ?yu3t4x7 (by assumption) ?ru3t4x7
                case yu3t4x7 => (intro w' hSw; (try dsimp only at hSw); go_simp; try (with_reducible rfl))
                simp only [List.setIfInBounds_toArray, List.set_cons_zero, List.set_cons_succ]
                refine take_op (v := ?vu3t4x8) 8 (Op.binOp BinOp.gtr 3 (Operand.tmp 66) (Operand.tmp 70) 3) 4 rfl rfl rfl rfl rfl (by kernel_rfl) (by kernel_rfl) (by kernel_rfl) (fun _ _ _ h => h) ?yu3t4x8 (by assumption) ?ru3t4x8
                case yu3t4x8 => (intro w' hSw; (try dsimp only at hSw); go_simp; try (with_reducible rfl))
                simp only [List.setIfInBounds_toArray, List.set_cons_zero, List.set_cons_succ]
                refine take_movev (v := ?vu3t4x9) 9 (Operand.tmp 71) rfl rfl (by first | exact .inl rfl | exact .inr rfl) rfl (by kernel_rfl) (by kernel_rfl) (by kernel_rfl) (fun _ _ _ h => h) (by assumption) ?yu3t4x9 ?ru3t4x9
                case yu3t4x9 => (go_simp; try (with_reducible rfl))
                simp only [List.setIfInBounds_toArray, List.set_cons_zero, List.set_cons_succ]
                refine take_skip 10 rfl rfl rfl (by kernel_rfl) (by kernel_rfl) (by kernel_rfl) (fun _ _ _ h => h) (by assumption) ?_
                simp only [List.setIfInBounds_toArray, List.set_cons_zero, List.set_cons_succ]
                refine take_skip 11 rfl rfl rfl (by kernel_rfl) (by kernel_rfl) (by kernel_rfl) (fun _ _ _ h => h) (by assumption) ?_
                simp only [List.setIfInBounds_toArray, List.set_cons_zero, List.set_cons_succ]
                refine take_skip 12 rfl rfl rfl (by kernel_rfl) (by kernel_rfl) (by kernel_rfl) (fun _ _ _ h => h) (by assumption) ?_
                simp only [List.setIfInBounds_toArray, List.set_cons_zero, List.set_cons_succ]
                refine take_skip 13 rfl rfl rfl (by kernel_rfl) (by kernel_rfl) (by kernel_rfl) (fun _ _ _ h => h) (by assumption) ?_
                simp only [List.setIfInBounds_toArray, List.set_cons_zero, List.set_cons_succ]
                refine take_skip 14 rfl rfl rfl (by kernel_rfl) (by kernel_rfl) (by kernel_rfl) (fun _ _ _ h => h) (by assumption) ?_
                simp only [List.setIfInBounds_toArray, List.set_cons_zero, List.set_cons_succ]
                refine take_op (v := ?vu3t4x15) 15 (Op.pick (Operand.tmp 72) (Operand.tmp 77) (Operand.const (Value.bool false))) 4 rfl rfl rfl rfl rfl (by kernel_rfl) (by kernel_rfl) (by kernel_rfl) (fun _ _ _ h => h) ?yu3t4x15 (by assumption) ?ru3t4x15
                case yu3t4x15 => (intro w' hSw; (try dsimp only at hSw); go_simp; try (with_reducible rfl))
                simp only [List.setIfInBounds_toArray, List.set_cons_zero, List.set_cons_succ]
                refine take_movev (v := ?vu3t4x16) 16 (Operand.tmp 78) rfl rfl (by first | exact .inl rfl | exact .inr rfl) rfl (by kernel_rfl) (by kernel_rfl) (by kernel_rfl) (fun _ _ _ h => h) (by assumption) ?yu3t4x16 ?ru3t4x16
                case yu3t4x16 => (go_simp; try (with_reducible rfl))
                simp only [List.setIfInBounds_toArray, List.set_cons_zero, List.set_cons_succ]
                refine take_skip 17 rfl rfl rfl (by kernel_rfl) (by kernel_rfl) (by kernel_rfl) (fun _ _ _ h => h) (by assumption) ?_
                simp only [List.setIfInBounds_toArray, List.set_cons_zero, List.set_cons_succ]
                refine take_skip 18 rfl rfl rfl (by kernel_rfl) (by kernel_rfl) (by kernel_rfl) (fun _ _ _ h => h) (by assumption) ?_
                simp only [List.setIfInBounds_toArray, List.set_cons_zero, List.set_cons_succ]
                refine take_skip 19 rfl rfl rfl (by kernel_rfl) (by kernel_rfl) (by kernel_rfl) (fun _ _ _ h => h) (by assumption) ?_
                simp only [List.setIfInBounds_toArray, List.set_cons_zero, List.set_cons_succ]
                refine take_skip 20 rfl rfl rfl (by kernel_rfl) (by kernel_rfl) (by kernel_rfl) (fun _ _ _ h => h) (by assumption) ?_
                simp only [List.setIfInBounds_toArray, List.set_cons_zero, List.set_cons_succ]
                refine take_skip 21 rfl rfl rfl (by kernel_rfl) (by kernel_rfl) (by kernel_rfl) (fun _ _ _ h => h) (by assumption) ?_
                simp only [List.setIfInBounds_toArray, List.set_cons_zero, List.set_cons_succ]
                refine take_skip 22 rfl rfl rfl (by kernel_rfl) (by kernel_rfl) (by kernel_rfl) (fun _ _ _ h => h) (by assumption) ?_
                simp only [List.setIfInBounds_toArray, List.set_cons_zero, List.set_cons_succ]
                refine take_skip 23 rfl rfl rfl (by kernel_rfl) (by kernel_rfl) (by kernel_rfl) (fun _ _ _ h => h) (by assumption) ?_
                simp only [List.setIfInBounds_toArray, List.set_cons_zero, List.set_cons_succ]
                refine take_skip 24 rfl rfl rfl (by kernel_rfl) (by kernel_rfl) (by kernel_rfl) (fun _ _ _ h => h) (by assumption) ?_
                simp only [List.setIfInBounds_toArray, List.set_cons_zero, List.set_cons_succ]
                refine take_skip 25 rfl rfl rfl (by kernel_rfl) (by kernel_rfl) (by kernel_rfl) (fun _ _ _ h => h) (by assumption) ?_
                simp only [List.setIfInBounds_toArray, List.set_cons_zero, List.set_cons_succ]
                refine take_op (v := ?vu3t4x26) 26 (Op.pick (Operand.tmp 79) (Operand.tmp 88) (Operand.const (Value.bool false))) 4 rfl rfl rfl rfl rfl (by kernel_rfl) (by kernel_rfl) (by kernel_rfl) (fun _ _ _ h => h) ?yu3t4x26 (by assumption) ?ru3t4x26
                case yu3t4x26 => (intro w' hSw; (try dsimp only at hSw); go_simp; try (with_reducible rfl))
                simp only [List.setIfInBounds_toArray, List.set_cons_zero, List.set_cons_succ]
                refine wpAnyH_done (by kernel_rfl) ?_ _
                clear hHeld
                go_wp2_with fail
                go_roundw
                case rel => exact ⟨k + 1, by go_num, by omega, b1, HB⟩
                case measure => simp [intOf]; omega
            · have hkI : ¬ (k : Int) < (n : Int) := by omega
              go_wp2_with fail
              go_roundw
              case rel => exact ⟨i + 1, by go_num, by omega, b1, HB⟩
              case measure => simp [intOf]; omega
        · have hiI : ¬ (i : Int) < (n : Int) := by omega
          go_wp2_with fail
          refine (lawake_any _).mono ?_
          rintro e w7 ⟨rfl, hb7⟩
          go_wp2_with fail
          try rw [Exit.noGoto_ret]
          go_ret
          exact ⟨rfl, HB.trans (hb7.mono HB.size)⟩
    · obtain ⟨v, hv2⟩ : ∃ v, refuseW l most = v := ⟨_, rfl⟩
      rw [hv2] at hv
      have C1 := best_no A n c l most w h (by omega) v hv2 hv
      have hvd : (v != 0) = true := by simp [hv]
      clear hv2 hl
      go_enter Try.func6, Try.ntmps6
      go_wp2_with fail
      refine C1.mono ?_
      rintro e w1 ⟨rfl, hb1⟩
      clear C1
      go_wp2_with fail
      refine (lawake_any _).mono ?_
      rintro e w7 ⟨rfl, hb7⟩
      go_wp2_with fail
      go_ret
      exact ⟨rfl, hb1.trans (hb7.mono hb1.size)⟩
end LenW
end Go.Proofs.Ytpnccehaomikbaa
