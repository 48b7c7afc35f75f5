/- The walks of canon's reference: a word's bits, do bits begin it; are fields the same. -/
import Derived.Test.YtedoeplhjmkllaaCanR
import Derived.Test.YtedoeplhjmkllaaCanU
import Derived.Test.YtedoeplhjmkllaaReg2
import Derived.BigQuiet
namespace Go.Proofs.Ytedoeplhjmkllaa
set_option linter.unusedVariables false
set_option linter.unusedSimpArgs false
set_option linter.unnecessarySimpa false
open Go.RowKit
namespace LenW
open BitW (bc bc_app bc_one bc_len digits_any rd_bc rd_bclen)

set_option maxRecDepth 100000 in
set_option maxHeartbeats 1000000 in
theorem sameF_self (A1 A2 : Option Addr) (n1 c1 c2 : Nat) (l : List (Int × Int)) (w : World) (h1 : Rd w w.heap.size 2 A1 n1 (fcells l)) (h2 : Rd w w.heap.size 2 A2 n1 (fcells l)) (hn : n1 ≤ 9223372036854775807) :
    Calls Try.prog 17 #[.slice A1 n1 c1, .slice A2 n1 c2] w fun e w' => e = .returned (.bool true) ∧ ∃ nq, w' = w.drewN nq := by
  have hl := rd_flen h1
  have e1 : ((n1 : Int) != (n1 : Int)) = false := by simp
  have hl1 : l.length ≤ n1 := by omega
  have hl2 : n1 ≤ l.length := by omega
  clear hl
  go_enter Try.func17, Try.ntmps17
  go_wp2_with fail
  go_loopw [5] (fun i wr => ∃ (k nq : Nat), k ≤ n1 ∧ i = .int .i64 k ∧ wr = w.drewN nq) (fun i _ => n1 - (intOf i).toNat)
  case atStart => exact ⟨0, 0, by omega, rfl, rfl⟩
  case round =>
    obtain ⟨k, nq, hk, rfl, rfl⟩ := hrel
    by_cases hlt : k < n1
    · obtain ⟨b1, o1, rfl, hb1, hc1⟩ := rd_fcells h1 (by omega)
      obtain ⟨b2, o2, rfl, hb2, hc2⟩ := rd_fcells h2 (by omega)
      have hkl : k < l.length := by omega
      obtain ⟨d0, d1⟩ := hc1 k hkl
      obtain ⟨f0, f1⟩ := hc2 k hkl
      have hki : (k : Int) < (n1 : Int) := by omega
      have hk0 : (0 : Int) ≤ (k : Int) := by omega
      clear hc1 hc2 h1 h2
      obtain ⟨y, hy⟩ : ∃ y, l[k] = y := ⟨_, rfl⟩
      rw [hy] at d0 d1 f0 f1
      clear hy
      go_wp2_with fail
      go_quiet (fail)
      go_wp2
      go_roundw
      case rel => exact ⟨k + 1, _, by omega, by go_num, by first | rfl | exact World.drewN_drewN _ _ _⟩
      case measure => simp [intOf]; omega
    · go_wp2
      go_ret
      exact ⟨rfl, _, rfl⟩

def dgs (l : List Int) (s : Int) : List Nat := dg (wordV l s).1.2.toNat (wordV l s).1.1.toNat
theorem wordV_at (l : List Int) (k : Nat) (h : k < l.length) : wordV l k = if (wordF l k).2 = 0 then ((0, 0), 70) else (wordF l k, 0) := by
  unfold wordV
  rw [Int.toNat_natCast]
  by_cases h2 : (wordF l k).2 = 0
  · rw [if_pos h2, if_neg (by simp [h2])]
  · rw [if_neg h2, if_pos ⟨by omega, by omega, h2⟩]
theorem wordV_out (l : List Int) (s : Int) (h : s < 0 ∨ (l.length : Int) ≤ s) : wordV l s = ((0, 0), 70) := by
  unfold wordV
  rw [if_neg (by omega)]
theorem wordsF_at (l : List Int) (k : Nat) (h : k < l.length) : (wordsF l)[k]'(by simp [wordsF]; exact h) = wordF l k := by simp [wordsF]
set_option maxRecDepth 100000 in
set_option maxHeartbeats 2000000 in
theorem refWord_no (A : Option Addr) (n c : Nat) (l : List Int) (s : Int) (w : World) (h : Rd w w.heap.size 2 A n (fcells (wordsF l))) (hs : I64 s) (hv : ¬ (wordV l s).2 = 0) :
    Calls Try.prog 40 #[.slice A n c, .int .i64 s] w fun e w' => e = .returned (.tuple #[.slice none 0 0, .int .i64 70]) ∧ w' = w := by
  have hl : l.length = n := by have := rd_flen h; simpa [wordsF] using this
  by_cases h0 : s < 0
  · go_enter Try.func40, Try.ntmps40
    go_wp2_with fail
    go_ret2
    exact ⟨rfl, rfl⟩
  · obtain ⟨k, rfl⟩ := Int.eq_ofNat_of_zero_le (show 0 ≤ s by omega)
    by_cases hk : k < n
    · obtain ⟨b, o, rfl, hb, hc⟩ := rd_fcells h (by omega)
      obtain ⟨d0, d1⟩ := hc k (by simp [wordsF]; omega)
      rw [wordsF_at l k (by omega)] at d0 d1
      rw [wordV_at l k (by omega)] at hv
      have hy : (wordF l k).2 = 0 := by
        by_cases hy : (wordF l k).2 = 0
        · exact hy
        · rw [if_neg hy] at hv; exact absurd rfl hv
      rw [hy] at d1
      have hk0 : (0 : Int) ≤ (k : Int) := by omega
      have hkI : ¬ (k : Int) ≥ (n : Int) := by omega
      have hkI2 : (k : Int) < (n : Int) := by omega
      clear hc hv hy
      go_enter Try.func40, Try.ntmps40
      go_wp2_with fail
      go_ret2
      exact ⟨rfl, rfl⟩
    · have hkI : (k : Int) ≥ (n : Int) := by omega
      clear hv
      go_enter Try.func40, Try.ntmps40
      go_wp2_with fail
      go_ret2
      exact ⟨rfl, rfl⟩
set_option maxRecDepth 100000 in
set_option maxHeartbeats 2000000 in
theorem refWord_yes (A : Option Addr) (n c : Nat) (l : List Int) (hk : chkL l = 0) (s : Int) (w : World) (h : Rd w w.heap.size 2 A n (fcells (wordsF l))) (hs : I64 s) (hv : (wordV l s).2 = 0) :
    Calls Try.prog 40 #[.slice A n c, .int .i64 s] w fun e w' => ∃ A2 k, e = .returned (.tuple #[.slice A2 k k, .int .i64 0]) ∧ k ≤ 32 ∧ Own w' w.heap.size 3 1 A2 k k (bc (dgs l s)) ∧ Below w.heap.size w w' := by
  have hl : l.length = n := by have := rd_flen h; simpa [wordsF] using this
  have hfit := (word_fits l hk s hv)
  have h0 : ¬ s < 0 := fun e => by rw [wordV_out l s (.inl e)] at hv; exact absurd hv (by decide)
  obtain ⟨k, rfl⟩ := Int.eq_ofNat_of_zero_le (show 0 ≤ s by omega)
  have hkn : k < n := Decidable.byContradiction fun e => by rw [wordV_out l k (.inr (by omega))] at hv; exact absurd hv (by decide)
  obtain ⟨b, o, rfl, hb, hc⟩ := rd_fcells h (by omega)
  obtain ⟨d0, d1⟩ := hc k (by simp [wordsF]; omega)
  rw [wordsF_at l k (by omega)] at d0 d1
  have hva := wordV_at l k (by omega)
  have hy : ¬ (wordF l k).2 = 0 := fun e => by rw [hva, if_pos e] at hv; exact absurd hv (by decide)
  rw [if_neg hy] at hva
  unfold dgs
  rw [hva] at hfit ⊢
  obtain ⟨⟨x, y⟩, hxy⟩ : ∃ z, wordF l k = z := ⟨_, rfl⟩
  rw [hxy] at d0 d1 hy hfit ⊢
  dsimp only at d0 d1 hy hfit ⊢
  obtain ⟨hfit, h64⟩ := hfit
  have hk0 : (0 : Int) ≤ (k : Int) := by omega
  have hkI : ¬ (k : Int) ≥ (n : Int) := by omega
  have hkI2 : (k : Int) < (n : Int) := by omega
  have hyI : (y == 0) = false := by simp [hy]
  have hyd : decide (y = 0) = false := by simp [hy]
  have C := fun w => digits_any x y w h64
  have HB : Below w.heap.size w w := Below.refl _ _
  have KEEP := Lib.hid (fun (w' : World) (h : Below w.heap.size w w') => show w'.cell? ⟨b, o + k * 2, none⟩ = some (.int .i64 x) ∧ w'.cell? ⟨b, o + k * 2 + 1, none⟩ = some (.int .i64 y) from ⟨(h.cell (p := ⟨b, o + k * 2, none⟩) hb).trans d0, (h.cell (p := ⟨b, o + k * 2 + 1, none⟩) hb).trans d1⟩)
  have HF := Lib.hid hfit
  clear hc hv hxy hva hfit h64 hy
  go_enter Try.func40, Try.ntmps40
  go_wp2_with fail
  have zHB := HB.size
  refine wp_region_held_drew (S := (fun w' => w'.cell? ⟨b, o + k * 2, none⟩ = some (.int .i64 x) ∧ w'.cell? ⟨b, o + k * 2 + 1, none⟩ = some (.int .i64 y))) (by kernel_rfl) ?_ (fun hHeld => ?_)
  · replace HB := Below.drew HB; (try dsimp only); exact KEEP.out _ HB
  replace HB := Below.drew HB
  have zHB := HB.size
  refine take_move 0 (Operand.tmp 0) rfl rfl (by first | exact .inl rfl | exact .inr rfl) rfl (by kernel_rfl) (by kernel_rfl) (by kernel_rfl) (fun _ _ _ h => h) (by assumption) ?_
  simp only [List.setIfInBounds_toArray, List.set_cons_zero, List.set_cons_succ]
  refine take_move 1 (Operand.tmp 1) rfl rfl (by first | exact .inl rfl | exact .inr rfl) rfl (by kernel_rfl) (by kernel_rfl) (by kernel_rfl) (fun _ _ _ h => h) (by assumption) ?_
  simp only [List.setIfInBounds_toArray, List.set_cons_zero, List.set_cons_succ]
  refine take_op (v := ?vu1x2) 2 (Op.indexAddr 24 (Operand.tmp 25) (Operand.tmp 26)) 0 rfl rfl rfl rfl rfl (by kernel_rfl) (by kernel_rfl) (by kernel_rfl) (fun _ _ _ h => h) ?yu1x2 (by assumption) ?ru1x2
  case yu1x2 => (intro w' hSw; (try dsimp only at hSw); go_simp; try (with_reducible rfl))
  simp only [List.setIfInBounds_toArray, List.set_cons_zero, List.set_cons_succ]
  refine take_op (v := ?vu1x3) 3 (Op.fieldAddr 47 (Operand.tmp 27) 0) 0 rfl rfl rfl rfl rfl (by kernel_rfl) (by kernel_rfl) (by kernel_rfl) (fun _ _ _ h => h) ?yu1x3 (by assumption) ?ru1x3
  case yu1x3 => (intro w' hSw; (try dsimp only at hSw); go_simp; try (with_reducible rfl))
  simp only [List.setIfInBounds_toArray, List.set_cons_zero, List.set_cons_succ]
  refine take_op (v := ?vu1x4) 4 (Op.load 3 (Operand.tmp 28)) 3 rfl rfl rfl rfl rfl (by kernel_rfl) (by kernel_rfl) (by kernel_rfl) (fun _ _ _ h => h) ?yu1x4 (by assumption) ?ru1x4
  case yu1x4 => (intro w' hSw; (try dsimp only at hSw); go_simp; try (with_reducible rfl))
  simp only [List.setIfInBounds_toArray, List.set_cons_zero, List.set_cons_succ]
  refine take_move 5 (Operand.tmp 0) rfl rfl (by first | exact .inl rfl | exact .inr rfl) rfl (by kernel_rfl) (by kernel_rfl) (by kernel_rfl) (fun _ _ _ h => h) (by assumption) ?_
  simp only [List.setIfInBounds_toArray, List.set_cons_zero, List.set_cons_succ]
  refine take_move 6 (Operand.tmp 1) rfl rfl (by first | exact .inl rfl | exact .inr rfl) rfl (by kernel_rfl) (by kernel_rfl) (by kernel_rfl) (fun _ _ _ h => h) (by assumption) ?_
  simp only [List.setIfInBounds_toArray, List.set_cons_zero, List.set_cons_succ]
  refine take_op (v := ?vu1x7) 7 (Op.indexAddr 24 (Operand.tmp 30) (Operand.tmp 31)) 0 rfl rfl rfl rfl rfl (by kernel_rfl) (by kernel_rfl) (by kernel_rfl) (fun _ _ _ h => h) ?yu1x7 (by assumption) ?ru1x7
  case yu1x7 => (intro w' hSw; (try dsimp only at hSw); go_simp; try (with_reducible rfl))
  simp only [List.setIfInBounds_toArray, List.set_cons_zero, List.set_cons_succ]
  refine take_op (v := ?vu1x8) 8 (Op.fieldAddr 47 (Operand.tmp 32) 1) 0 rfl rfl rfl rfl rfl (by kernel_rfl) (by kernel_rfl) (by kernel_rfl) (fun _ _ _ h => h) ?yu1x8 (by assumption) ?ru1x8
  case yu1x8 => (intro w' hSw; (try dsimp only at hSw); go_simp; try (with_reducible rfl))
  simp only [List.setIfInBounds_toArray, List.set_cons_zero, List.set_cons_succ]
  refine take_op (v := ?vu1x9) 9 (Op.load 3 (Operand.tmp 33)) 3 rfl rfl rfl rfl rfl (by kernel_rfl) (by kernel_rfl) (by kernel_rfl) (fun _ _ _ h => h) ?yu1x9 (by assumption) ?ru1x9
  case yu1x9 => (intro w' hSw; (try dsimp only at hSw); go_simp; try (with_reducible rfl))
  simp only [List.setIfInBounds_toArray, List.set_cons_zero, List.set_cons_succ]
  refine wpAnyH_ready (rs := [10]) (by kernel_rfl) (by simp) (AllReadyH.cons rfl (fun K10 hK10 => ?ku1x10) AllReadyH.nil)
  refine take_calls 10 58 [Operand.tmp 29, Operand.tmp 34] #[3, 3] rfl rfl (by kernel_rfl) (fun args w => run_enter Try.func58 (by kernel_rfl) rfl args w) ?_
  refine (C _).mono ?_
  rintro e w10 ⟨A3, k3, xs, rfl, hk3, o3, hxs, hb10⟩
  refine ⟨_, rfl, ?_⟩
  have z10 := hb10.size
  try simp only [World.size_drew] at z10
  replace HB := HB.trans (hb10.mono HB.size)
  have zHB10 := HB.size
  refine hK10.out _ _ ?su1x10 (fun hHeld => ?ru1x10)
  case su1x10 => ((try dsimp only); exact KEEP.out _ HB)
  try simp only [List.setIfInBounds_toArray, List.set_cons_zero, List.set_cons_succ]
  refine take_move 11 (Operand.tmp 35) rfl rfl (by first | exact .inl rfl | exact .inr rfl) rfl (by kernel_rfl) (by kernel_rfl) (by kernel_rfl) (fun _ _ _ h => h) (by assumption) ?_
  simp only [List.setIfInBounds_toArray, List.set_cons_zero, List.set_cons_succ]
  refine take_op (v := ?vu1x12) 12 (Op.extract (Operand.tmp 24) 0) 22 rfl rfl rfl rfl rfl (by kernel_rfl) (by kernel_rfl) (by kernel_rfl) (fun _ _ _ h => h) ?yu1x12 (by assumption) ?ru1x12
  case yu1x12 => (intro w' hSw; (try dsimp only at hSw); go_simp; try (with_reducible rfl))
  simp only [List.setIfInBounds_toArray, List.set_cons_zero, List.set_cons_succ]
  refine take_op (v := ?vu1x13) 13 (Op.extract (Operand.tmp 24) 1) 4 rfl rfl rfl rfl rfl (by kernel_rfl) (by kernel_rfl) (by kernel_rfl) (fun _ _ _ h => h) ?yu1x13 (by assumption) ?ru1x13
  case yu1x13 => (intro w' hSw; (try dsimp only at hSw); go_simp; try (with_reducible rfl))
  simp only [List.setIfInBounds_toArray, List.set_cons_zero, List.set_cons_succ]
  refine take_op (v := ?vu1x14) 14 (Op.assign (Operand.tmp 36)) 22 rfl rfl rfl rfl rfl (by kernel_rfl) (by kernel_rfl) (by kernel_rfl) (fun _ _ _ h => h) ?yu1x14 (by assumption) ?ru1x14
  case yu1x14 => (intro w' hSw; (try dsimp only at hSw); go_simp; try (with_reducible rfl))
  simp only [List.setIfInBounds_toArray, List.set_cons_zero, List.set_cons_succ]
  refine take_op (v := ?vu1x15) 15 (Op.assign (Operand.tmp 37)) 4 rfl rfl rfl rfl rfl (by kernel_rfl) (by kernel_rfl) (by kernel_rfl) (fun _ _ _ h => h) ?yu1x15 (by assumption) ?ru1x15
  case yu1x15 => (intro w' hSw; (try dsimp only at hSw); go_simp; try (with_reducible rfl))
  simp only [List.setIfInBounds_toArray, List.set_cons_zero, List.set_cons_succ]
  refine wpAnyH_done (by kernel_rfl) ?_ _
  have hx3 := hxs HF.out
  subst hx3
  go_wp2_with fail
  go_ret2
  exact ⟨A3, k3, rfl, hk3, o3, HB⟩

/-- Do bits begin with a row, as far as they go; do they have all of it. -/
def begF : List Nat → List Nat → Bool × Bool
  | _, [] => (true, true)
  | [], _ :: _ => (true, false)
  | x :: L, y :: D => if x = y then begF L D else (false, false)
set_option maxRecDepth 100000 in
set_option maxHeartbeats 2000000 in
theorem begins_any (A A2 : Option Addr) (n c n2 c2 : Nat) (L D : List Nat) (p : Nat) (w : World) (h : Rd w w.heap.size 1 A n (bc L)) (h2 : Rd w w.heap.size 1 A2 n2 (bc D)) (hn : n ≤ 1000000) (hn2 : n2 ≤ 1000000) (hp : p ≤ n) (v : Bool × Bool) (hv : begF (L.drop p) D = v) :
    Calls Try.prog 59 #[.slice A n c, .int .i64 p, .slice A2 n2 c2] w fun e w' => e = .returned (.tuple #[.bool v.1, .bool v.2]) ∧ ∃ nq, w' = w.drewN nq := by
  have hl := rd_bclen h
  have hl2 := rd_bclen h2
  have HV := Lib.hid (show begF (L.drop (p + 0)) (D.drop 0) = v from hv)
  clear hv
  go_enter Try.func59, Try.ntmps59
  go_wp2_with fail
  go_loopw [8] (fun i wr => ∃ (k nq : Nat), i = .int .i64 k ∧ k ≤ n2 ∧ p + k ≤ n ∧ begF (L.drop (p + k)) (D.drop k) = v ∧ wr = w.drewN nq) (fun i _ => n2 - (intOf i).toNat)
  case atStart => exact ⟨0, 0, rfl, by omega, by omega, HV.out, rfl⟩
  case round =>
    obtain ⟨k, nq, rfl, hk, hpk, hb, rfl⟩ := hrel
    have HBG := Lib.hid hb
    clear hb
    by_cases hlt : k < n2
    · have hkl : k < D.length := by omega
      have hd := List.drop_eq_getElem_cons hkl
      by_cases hend : p + k = n
      · have hx : v = (true, false) := by rw [← HBG.out, hd, List.drop_of_length_le (by omega)]; rfl
        subst hx
        have he : ((p : Int) + (k : Int) == (n : Int)) = true := by simp; omega
        clear hd hend
        go_wp2_with fail
        go_ret2
        exact ⟨rfl, _, rfl⟩
      · have hpl : p + k < L.length := by omega
        have hdL := List.drop_eq_getElem_cons hpl
        obtain ⟨b1, o1, rfl, hb1, hc1⟩ := rd_bc h (by omega)
        obtain ⟨b2, o2, rfl, hb2, hc2⟩ := rd_bc h2 (by omega)
        have d0 := hc1 (p + k) hpl
        have d1 := hc2 k hkl
        obtain ⟨x, hx⟩ : ∃ x, L[p + k] = x := ⟨_, rfl⟩
        obtain ⟨y, hy⟩ : ∃ y, D[k] = y := ⟨_, rfl⟩
        rw [hx] at d0 hdL
        rw [hy] at d1 hd
        have HBX := HBG.out
        rw [hd, hdL, begF] at HBX
        have HBY := Lib.hid HBX
        have hI0 : (0 : Int) ≤ (p : Int) + (k : Int) := by omega
        have hI1 : (p : Int) + (k : Int) < (n : Int) := by omega
        have htn : ((p : Int) + (k : Int)).toNat = p + k := by omega
        have he : ((p : Int) + (k : Int) == (n : Int)) = false := by simp; omega
        have hed : decide ((p : Int) + (k : Int) = (n : Int)) = false := by simp; omega
        clear hd hdL hx hy hc1 hc2 HBX hend hpl
        by_cases hxy : x = y
        · subst hxy
          have q0 : ((x : Int) != (x : Int)) = false := by simp
          have HBZ := Lib.hid (show begF (L.drop (p + (k + 1))) (D.drop (k + 1)) = v by have := HBY.out; rw [if_pos rfl] at this; exact this)
          go_wp2_with fail
          go_quiet (fail)
          go_wp2
          go_roundw
          case rel => exact ⟨k + 1, _, by go_num, by omega, by omega, HBZ.out, by first | rfl | exact World.drewN_drewN _ _ _⟩
          case measure => simp [intOf]; omega
        · have q0 : ((x : Int) != (y : Int)) = true := by simp; omega
          have hx : v = (false, false) := by rw [← HBY.out, if_neg hxy]
          subst hx
          clear hxy
          go_wp2_with fail
          go_quiet (fail)
          go_wp2
          go_ret2
          exact ⟨rfl, _, by first | rfl | exact World.drewN_drewN _ _ _⟩
    · have hx : v = (true, true) := by rw [← HBG.out, List.drop_of_length_le (by omega : D.length ≤ k)]; cases L.drop (p + k) <;> rfl
      subst hx
      go_wp2_with fail
      go_ret2
      exact ⟨rfl, _, rfl⟩
end LenW
end Go.Proofs.Ytedoeplhjmkllaa
