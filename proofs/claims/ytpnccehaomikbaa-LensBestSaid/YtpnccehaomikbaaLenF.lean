/- The walks of package lens: packages. -/
import Derived.Test.YtpnccehaomikbaaLenE
namespace Go.Proofs.Ytpnccehaomikbaa
set_option linter.unusedVariables false
set_option linter.unusedSimpArgs false
set_option linter.unnecessarySimpa false
open Go.RowKit
namespace LenW

theorem pkgs_get (r : List (Int × Int)) : ∀ (i k : Nat) (h : 2 * k + 1 < r.length), (pkgs i r)[k]? = some ((r[2 * k]'(by omega)).1 + (r[2 * k + 1]'(by omega)).1, -1 - ((i + k : Nat) : Int)) := by
  suffices ∀ n (r : List (Int × Int)), r.length ≤ n → ∀ (i k : Nat) (h : 2 * k + 1 < r.length), (pkgs i r)[k]? = some ((r[2 * k]'(by omega)).1 + (r[2 * k + 1]'(by omega)).1, -1 - ((i + k : Nat) : Int)) from this _ r (Nat.le_refl _)
  intro n
  induction n with
  | zero => intro r hr i k h; omega
  | succ n ih =>
    intro r hr i k h
    match r, hr, h with
    | [], _, h => simp at h
    | [a], _, h => simp at h
    | a :: b :: r, hr, h =>
      simp only [List.length_cons] at hr h
      rw [pkgs]
      cases k with
      | zero => simp
      | succ k =>
        rw [List.getElem?_cons_succ, ih r (by omega) (i + 1) k (by omega)]
        congr 2
        omega
theorem pkgs_take (r : List (Int × Int)) (k : Nat) (h : 2 * k + 1 < r.length) : (pkgs 0 r).take (k + 1) = (pkgs 0 r).take k ++ [((r[2 * k]'(by omega)).1 + (r[2 * k + 1]'(by omega)).1, -1 - (k : Int))] := by
  have e := pkgs_get r 0 k h
  rw [Nat.zero_add] at e
  rw [List.take_add_one, e]
  rfl
set_option maxRecDepth 100000 in
set_option maxHeartbeats 4000000 in
theorem packages_any (A : Option Addr) (n c : Nat) (r : List (Int × Int)) (B : Int) (w : World) (h : Rd w w.heap.size 2 A n (fcells r)) (hn : n ≤ 1000) (hB : ∀ x ∈ r, 0 ≤ x.1 ∧ x.1 ≤ B) (hB2 : B ≤ 1000000000000000) :
    Calls Try.prog 21 #[.slice A n c] w fun e w' => ∃ A2 c2, e = .returned (.slice A2 (n / 2) c2) ∧ Own w' w.heap.size 39 2 A2 (n / 2) c2 (fcells (pkgs 0 r)) ∧ Below w.heap.size w w' := by
  have hl : r.length = n := rd_flen h
  have HPL := Lib.hid (show (pkgs 0 r).length = n / 2 by rw [pkgs_len, hl])
  go_enter Try.func21, Try.ntmps21
  go_wp2_with fail
  go_loopw [3, 4] (fun out i wr => ∃ (k i' c2 : Nat) (A2 : Option Addr), i = .int .i64 i' ∧ i' = 2 * k ∧ out = .slice A2 k c2 ∧ i' ≤ n ∧ Own wr w.heap.size 39 2 A2 k c2 (fcells ((pkgs 0 r).take k)) ∧ Below w.heap.size w wr) (fun _ i _ => n - (intOf i).toNat)
  case atStart => exact ⟨0, 0, 0, none, rfl, rfl, rfl, by omega, by simpa [fcells] using Own.nil _ _ _ _, Below.refl _ _⟩
  case round =>
    obtain ⟨k, i, c2, A2, rfl, hik, rfl, hi, o2, hbw⟩ := hrel
    have HIK := Lib.hid hik
    have hik1 : i ≤ 2 * k := Nat.le_of_eq hik
    have hik2 : 2 * k ≤ i := Nat.le_of_eq hik.symm
    have hsz := hbw.size
    by_cases hlt : i + 1 < n
    · have hkl : 2 * k + 1 < r.length := by omega
      obtain ⟨b, o, rfl, hb, hc⟩ := rd_fcells h (by omega)
      obtain ⟨c0, -⟩ := hc (2 * k) (by omega)
      obtain ⟨c1, -⟩ := hc (2 * k + 1) (by omega)
      have HT := Lib.hid (pkgs_take r k hkl)
      have b0 := hB _ (List.getElem_mem (show 2 * k < r.length by omega))
      have b1 := hB _ (List.getElem_mem (show 2 * k + 1 < r.length by omega))
      obtain ⟨x, hx⟩ : ∃ x, (r[2 * k]'(by omega)).1 = x := ⟨_, rfl⟩
      obtain ⟨y, hy⟩ : ∃ y, (r[2 * k + 1]'(by omega)).1 = y := ⟨_, rfl⟩
      rw [hx] at c0 HT b0
      rw [hy] at c1 HT b1
      rw [← hik] at c0 c1
      have C0 := Lib.hid c0
      have C1 := Lib.hid c1
      have hi0 : (0 : Int) ≤ (i : Int) := by omega
      have hi1 : (0 : Int) ≤ (i : Int) + 1 := by omega
      have hi2 : (i : Int) + 1 < (n : Int) := by omega
      have hi3 : (i : Int) < (n : Int) := by omega
      have htd : Int.tdiv (i : Int) 2 = (k : Int) := by rw [Int.tdiv_eq_ediv_of_nonneg (by omega), hik]; omega
      have hadd : IntKind.i64.wrap ((i : Int) + 1) = (i : Int) + 1 := w64k (by omega) (by omega)
      have hadd2 : IntKind.i64.wrap ((i : Int) + 2) = (i : Int) + 2 := w64k (by omega) (by omega)
      have hkw : IntKind.i64.wrap (k : Int) = (k : Int) := w64k (by omega) (by omega)
      have hkw2 : IntKind.i64.wrap (-1 - (k : Int)) = -1 - (k : Int) := w64k (by omega) (by omega)
      have hxy : IntKind.i64.wrap (x + y) = x + y := w64k (by omega) (by omega)
      have HB := hbw
      have hbb : b < w.heap.size := hb
      clear hc hx hy c0 c1 hik
      go_wp2_with fail
      refine wp_region_held_drew (S := (fun w' => w'.cell? ⟨b, o + i * 2, none⟩ = some (.int .i64 x) ∧ w'.cell? ⟨b, o + (i + 1) * 2, none⟩ = some (.int .i64 y))) (by kernel_rfl) ?_ (fun hHeld => ?_)
      · replace HB := Below.drew HB; replace o2 := Own.drew o2; (try dsimp only); exact ⟨(HB.cell hbb).trans C0.out, (HB.cell hbb).trans C1.out⟩
      replace HB := Below.drew HB
      replace o2 := Own.drew o2
      have zHB := HB.size
      refine take_movev (v := ?vu1x0) 0 (Operand.tmp 3) rfl rfl (by first | exact .inl rfl | exact .inr rfl) rfl (by kernel_rfl) (by kernel_rfl) (by kernel_rfl) (fun _ _ _ h => h) (by assumption) ?yu1x0 ?ru1x0
      case yu1x0 => (go_simp; try (with_reducible rfl))
      simp only [List.setIfInBounds_toArray, List.set_cons_zero, List.set_cons_succ]
      refine take_movev (v := ?vu1x1) 1 (Operand.tmp 0) rfl rfl (by first | exact .inl rfl | exact .inr rfl) rfl (by kernel_rfl) (by kernel_rfl) (by kernel_rfl) (fun _ _ _ h => h) (by assumption) ?yu1x1 ?ru1x1
      case yu1x1 => (go_simp; try (with_reducible rfl))
      simp only [List.setIfInBounds_toArray, List.set_cons_zero, List.set_cons_succ]
      refine take_movev (v := ?vu1x2) 2 (Operand.tmp 4) rfl rfl (by first | exact .inl rfl | exact .inr rfl) rfl (by kernel_rfl) (by kernel_rfl) (by kernel_rfl) (fun _ _ _ h => h) (by assumption) ?yu1x2 ?ru1x2
      case yu1x2 => (go_simp; try (with_reducible rfl))
      simp only [List.setIfInBounds_toArray, List.set_cons_zero, List.set_cons_succ]
      refine take_op (v := ?vu1x3) 3 (Op.indexAddr 36 (Operand.tmp 13) (Operand.tmp 14)) 0 rfl rfl rfl rfl rfl (by kernel_rfl) (by kernel_rfl) (by kernel_rfl) (fun _ _ _ h => h) ?yu1x3 (by assumption) ?ru1x3
      case yu1x3 => (intro w' hSw; (try dsimp only at hSw); go_simp; try (with_reducible rfl))
      simp only [List.setIfInBounds_toArray, List.set_cons_zero, List.set_cons_succ]
      refine take_op (v := ?vu1x4) 4 (Op.fieldAddr 39 (Operand.tmp 15) 0) 0 rfl rfl rfl rfl rfl (by kernel_rfl) (by kernel_rfl) (by kernel_rfl) (fun _ _ _ h => h) ?yu1x4 (by assumption) ?ru1x4
      case yu1x4 => (intro w' hSw; (try dsimp only at hSw); go_simp; try (with_reducible rfl))
      simp only [List.setIfInBounds_toArray, List.set_cons_zero, List.set_cons_succ]
      refine take_op (v := ?vu1x5) 5 (Op.load 3 (Operand.tmp 16)) 3 rfl rfl rfl rfl rfl (by kernel_rfl) (by kernel_rfl) (by kernel_rfl) (fun _ _ _ h => h) ?yu1x5 (by assumption) ?ru1x5
      case yu1x5 => (intro w' hSw; (try dsimp only at hSw); go_simp; try (with_reducible rfl))
      simp only [List.setIfInBounds_toArray, List.set_cons_zero, List.set_cons_succ]
      refine take_movev (v := ?vu1x6) 6 (Operand.tmp 0) rfl rfl (by first | exact .inl rfl | exact .inr rfl) rfl (by kernel_rfl) (by kernel_rfl) (by kernel_rfl) (fun _ _ _ h => h) (by assumption) ?yu1x6 ?ru1x6
      case yu1x6 => (go_simp; try (with_reducible rfl))
      simp only [List.setIfInBounds_toArray, List.set_cons_zero, List.set_cons_succ]
      refine take_movev (v := ?vu1x7) 7 (Operand.tmp 4) rfl rfl (by first | exact .inl rfl | exact .inr rfl) rfl (by kernel_rfl) (by kernel_rfl) (by kernel_rfl) (fun _ _ _ h => h) (by assumption) ?yu1x7 ?ru1x7
      case yu1x7 => (go_simp; try (with_reducible rfl))
      simp only [List.setIfInBounds_toArray, List.set_cons_zero, List.set_cons_succ]
      refine take_op (v := ?vu1x8) 8 (Op.binOp BinOp.add 3 (Operand.tmp 19) (Operand.const (Value.int IntKind.i64 1)) 3) 3 rfl rfl rfl rfl rfl (by kernel_rfl) (by kernel_rfl) (by kernel_rfl) (fun _ _ _ h => h) ?yu1x8 (by assumption) ?ru1x8
      case yu1x8 => (intro w' hSw; (try dsimp only at hSw); go_simp; try (with_reducible rfl))
      simp only [List.setIfInBounds_toArray, List.set_cons_zero, List.set_cons_succ]
      refine take_op (v := ?vu1x9) 9 (Op.indexAddr 36 (Operand.tmp 18) (Operand.tmp 20)) 0 rfl rfl rfl rfl rfl (by kernel_rfl) (by kernel_rfl) (by kernel_rfl) (fun _ _ _ h => h) ?yu1x9 (by assumption) ?ru1x9
      case yu1x9 => (intro w' hSw; (try dsimp only at hSw); go_simp; try (with_reducible rfl))
      simp only [List.setIfInBounds_toArray, List.set_cons_zero, List.set_cons_succ]
      refine take_op (v := ?vu1x10) 10 (Op.fieldAddr 39 (Operand.tmp 21) 0) 0 rfl rfl rfl rfl rfl (by kernel_rfl) (by kernel_rfl) (by kernel_rfl) (fun _ _ _ h => h) ?yu1x10 (by assumption) ?ru1x10
      case yu1x10 => (intro w' hSw; (try dsimp only at hSw); go_simp; try (with_reducible rfl))
      simp only [List.setIfInBounds_toArray, List.set_cons_zero, List.set_cons_succ]
      refine take_op (v := ?vu1x11) 11 (Op.load 3 (Operand.tmp 22)) 3 rfl rfl rfl rfl rfl (by kernel_rfl) (by kernel_rfl) (by kernel_rfl) (fun _ _ _ h => h) ?yu1x11 (by assumption) ?ru1x11
      case yu1x11 => (intro w' hSw; (try dsimp only at hSw); go_simp; try (with_reducible rfl))
      simp only [List.setIfInBounds_toArray, List.set_cons_zero, List.set_cons_succ]
      refine take_op (v := ?vu1x12) 12 (Op.binOp BinOp.add 3 (Operand.tmp 17) (Operand.tmp 23) 3) 3 rfl rfl rfl rfl rfl (by kernel_rfl) (by kernel_rfl) (by kernel_rfl) (fun _ _ _ h => h) ?yu1x12 (by assumption) ?ru1x12
      case yu1x12 => (intro w' hSw; (try dsimp only at hSw); go_simp; try (with_reducible rfl))
      simp only [List.setIfInBounds_toArray, List.set_cons_zero, List.set_cons_succ]
      refine take_movev (v := ?vu1x13) 13 (Operand.tmp 4) rfl rfl (by first | exact .inl rfl | exact .inr rfl) rfl (by kernel_rfl) (by kernel_rfl) (by kernel_rfl) (fun _ _ _ h => h) (by assumption) ?yu1x13 ?ru1x13
      case yu1x13 => (go_simp; try (with_reducible rfl))
      simp only [List.setIfInBounds_toArray, List.set_cons_zero, List.set_cons_succ]
      refine take_op (v := ?vu1x14) 14 (Op.binOp BinOp.quo 3 (Operand.tmp 25) (Operand.const (Value.int IntKind.i64 2)) 3) 3 rfl rfl rfl rfl rfl (by kernel_rfl) (by kernel_rfl) (by kernel_rfl) (fun _ _ _ h => h) ?yu1x14 (by assumption) ?ru1x14
      case yu1x14 => (intro w' hSw; (try dsimp only at hSw); go_simp; try (with_reducible rfl))
      simp only [List.setIfInBounds_toArray, List.set_cons_zero, List.set_cons_succ]
      refine take_op (v := ?vu1x15) 15 (Op.binOp BinOp.sub 3 (Operand.const (Value.int IntKind.i64 (-1))) (Operand.tmp 26) 3) 3 rfl rfl rfl rfl rfl (by kernel_rfl) (by kernel_rfl) (by kernel_rfl) (fun _ _ _ h => h) ?yu1x15 (by assumption) ?ru1x15
      case yu1x15 => (intro w' hSw; (try dsimp only at hSw); go_simp; try (with_reducible rfl))
      simp only [List.setIfInBounds_toArray, List.set_cons_zero, List.set_cons_succ]
      refine take_op (v := ?vu1x16) 16 (Op.build 39 #[(0, Operand.tmp 24), (1, Operand.tmp 27)]) 39 rfl rfl rfl rfl rfl (by kernel_rfl) (by kernel_rfl) (by kernel_rfl) (fun _ _ _ h => h) ?yu1x16 (by assumption) ?ru1x16
      case yu1x16 => (intro w' hSw; (try dsimp only at hSw); go_simp; try (with_reducible rfl))
      simp only [List.setIfInBounds_toArray, List.set_cons_zero, List.set_cons_succ]
      refine wpAnyH_ready (rs := [17]) (by kernel_rfl) (by simp) (AllReadyH.cons rfl (fun K17 hK17 => ?ku1x17) AllReadyH.nil)
      refine take_build (e := 39) (len := 1) (size := 2) (w.heap.size) (fcells [(x + y, -1 - (k : Int))]) 17 (Op.buildSlice 36 1 #[(0, Operand.tmp 28)]) 36 rfl rfl rfl (by kernel_rfl) ?eu1x17 (by rfl) (by decide) (by first | exact Nat.le_refl _ | (simp only [World.size_alloc, World.size_setCell, World.size_drew] at *; omega) | omega) ?_
      case eu1x17 => (go_simp; try (first | with_reducible rfl | (simp [rcells, rcell]; done) | (simp [fcells]; done) | (simp [tcells]; done) | rfl))
      intro gx17 w17 o17 gr17 l17 m17
      have z17 := gr17.size
      try simp only [World.size_drew] at z17
      replace HB := below_grow HB gr17
      have zHB17 := HB.size
      replace o2 := Own.grow0 o2 gr17
      refine hK17.out _ _ ?su1x17 (fun hHeld => ?ru1x17)
      case su1x17 => ((try dsimp only); exact ⟨(HB.cell hbb).trans C0.out, (HB.cell hbb).trans C1.out⟩)
      try simp only [List.setIfInBounds_toArray, List.set_cons_zero, List.set_cons_succ]
      refine wpAnyH_ready (rs := [18]) (by kernel_rfl) (by simp) (AllReadyH.cons rfl (fun K18 hK18 => ?ku1x18) AllReadyH.nil)
      refine take_app El_w 18 (Operand.tmp 12) (Operand.tmp 29) 36 rfl rfl rfl (by kernel_rfl) o2 rfl (o17.rd) rfl (fcells_one _) (by unfold maxLen; omega) (by omega) (by first | exact Nat.le_refl _ | (simp only [World.size_alloc, World.size_setCell, World.size_drew] at *; omega) | omega) ?_
      intro A18 c18 w18 o18 gr18 at18
      have z18 := gr18.size
      try simp only [World.size_drew] at z18
      replace HB := below_grown HB gr18 o2 (by first | exact Nat.le_refl _ | (simp only [World.size_alloc, World.size_setCell, World.size_drew] at *; omega) | omega)
      have zHB18 := HB.size
      refine hK18.out _ _ ?su1x18 (fun hHeld => ?ru1x18)
      case su1x18 => ((try dsimp only); exact ⟨(HB.cell hbb).trans C0.out, (HB.cell hbb).trans C1.out⟩)
      try simp only [List.setIfInBounds_toArray, List.set_cons_zero, List.set_cons_succ]
      refine take_op (v := ?vu1x19) 19 (Op.assign (Operand.tmp 30)) 36 rfl rfl rfl rfl rfl (by kernel_rfl) (by kernel_rfl) (by kernel_rfl) (fun _ _ _ h => h) ?yu1x19 (by assumption) ?ru1x19
      case yu1x19 => (intro w' hSw; (try dsimp only at hSw); go_simp; try (with_reducible rfl))
      simp only [List.setIfInBounds_toArray, List.set_cons_zero, List.set_cons_succ]
      refine wpAnyH_done (by kernel_rfl) ?_ _
      clear hHeld
      go_wp2_with fail
      go_roundw
      case rel => exact ⟨k + 1, i + 2, c18, A18, by go_num, by omega, rfl, by omega, by rw [HT.out, fcells_app]; exact o18, HB⟩
      case measure => simp [intOf]; omega
    · have hge : ¬ ((i : Int) + 1 < (n : Int)) := by omega
      have e1 : (pkgs 0 r).take k = pkgs 0 r := List.take_of_length_le (by rw [HPL.out]; omega)
      rw [e1] at o2
      obtain rfl : k = n / 2 := by omega
      go_wp2_with fail
      try rw [Exit.noGoto_ret]
      go_ret
      exact ⟨A2, c2, rfl, o2, hbw⟩
end LenW
end Go.Proofs.Ytpnccehaomikbaa
