/- Walks over the laws of package canon: Nobody. -/
import Derived.Test.YtedoeplhjmkllaaCanA
import Derived.Test.YtedoeplhjmkllaaReg2
namespace Go.Proofs.Ytedoeplhjmkllaa
set_option linter.unusedVariables false
set_option linter.unusedSimpArgs false
set_option linter.unnecessarySimpa false
open Go.RowKit
namespace LenW
open BitW (rdr)

/-- A pointer to no code that a call made. -/
def Nob (w : World) (p : Value) : Prop := p = .pointer none ∨ ∃ g, p = .pointer (some ⟨g, 0, none⟩) ∧ w.cell? ⟨g, 50, none⟩ = some (.bool false) ∧ g < w.heap.size
theorem Nob.below {w w' : World} {p : Value} (h : Nob w p) (hb : Below w.heap.size w w') : Nob w' p := by
  rcases h with rfl | ⟨g, rfl, h2, h3⟩
  · exact .inl rfl
  · exact .inr ⟨g, rfl, (hb.cell (p := ⟨g, 50, none⟩) h3).trans h2, Nat.lt_of_lt_of_le h3 hb.size⟩
set_option maxRecDepth 100000 in
set_option maxHeartbeats 4000000 in
theorem word_nob (p : Value) (s : Int) (w : World) (hp : Nob w p) :
    Calls Try.prog 21 #[p, .int .i64 s] w fun e w' => e = .returned (.tuple #[.agg #[.int .i64 0, .int .i64 0], .int .i64 1]) ∧ Below w.heap.size w w' := by
  rcases hp with rfl | ⟨g, rfl, h2, h3⟩
  · exact word_nil s w
  · have h2' : (w.alloc (.cells #[.int .i64 0, .int .i64 0] 47)).cell? ⟨g, 50, none⟩ = some (.bool false) := (((Below.refl w.heap.size w).alloc (Nat.le_refl _) _).cell (p := ⟨g, 50, none⟩) h3).trans h2
    go_enter Try.func21, Try.ntmps21
    go_wp2_with fail
    refine bodyPost_ret (results_row2 rfl _ _ w.heap.size 47 #[.int .i64 0, .int .i64 0] (0, 0) _ rfl (Blk.new _ _ _) Try.underlying47 rfl (by kernel_rfl)) rfl ?_
    exact ⟨rfl, (Below.refl _ w).alloc (Nat.le_refl _) _⟩
set_option maxRecDepth 100000 in
set_option maxHeartbeats 4000000 in
theorem get_nob (p r : Value) (w : World) (hp : Nob w p) :
    Calls Try.prog 22 #[p, r] w fun e w' => e = .returned (.tuple #[.int .i64 0, .int .i64 1]) ∧ w' = w := by
  rcases hp with rfl | ⟨g, rfl, h2, h3⟩
  all_goals
    go_enter Try.func22, Try.ntmps22
    go_wp2_with fail
    go_ret2
    exact ⟨rfl, rfl⟩
set_option maxRecDepth 100000 in
set_option maxHeartbeats 4000000 in
theorem put_nob (p q : Value) (s : Int) (w : World) (hp : Nob w p) :
    Calls Try.prog 24 #[p, q, .int .i64 s] w fun e w' => e = .returned (.int .i64 1) ∧ Below w.heap.size w w' := by
  have C := word_nob p s w hp
  go_enter Try.func24, Try.ntmps24
  go_wp2_with fail
  refine C.mono ?_
  rintro e w1 ⟨rfl, hb1⟩
  go_wp2_with fail
  go_ret
  exact ⟨rfl, hb1.alloc hb1.size _⟩
theorem new_b (s : List UInt8) (w : World) : Calls Try.prog 23 #[str s] w fun e w' => ∃ q, e = .returned q ∧ Below w.heap.size w w' :=
  (BitW.new_any s w).mono fun e w' ⟨h1, h2⟩ => ⟨_, h1, by rw [h2]; exact (Below.refl _ w).alloc (Nat.le_refl _) _⟩
theorem get_nobB (p r : Value) (w : World) (hp : Nob w p) : Calls Try.prog 22 #[p, r] w fun e w' => e = .returned (.tuple #[.int .i64 0, .int .i64 1]) ∧ Below w.heap.size w w' :=
  (get_nob p r w hp).mono fun e w' ⟨h1, h2⟩ => ⟨h1, by rw [h2]; exact Below.refl _ w⟩
set_option maxRecDepth 100000 in
set_option maxHeartbeats 4000000 in
theorem nobody_law (sy : Int) (s : ByteArray) (w : World) (hs : I64 sy) (hs2 : s.size ≤ maxLen) :
    Calls Try.prog 5 #[.int .i64 sy, .string s] w fun e w' => e = .returned (.bool true) ∧ Below w.heap.size w w' := by
  obtain ⟨m, rfl, hm⟩ := str_of s
  go_enter Try.func5, Try.ntmps5
  go_wp2_with fail
  have hq50 : (#[.slice none 0 0, .slice none 0 0, .int .i64 0, .int .i64 0, .int .i64 0, .int .i64 0, .int .i64 0, .int .i64 0, .int .i64 0, .int .i64 0, .int .i64 0, .int .i64 0, .int .i64 0, .int .i64 0, .int .i64 0, .int .i64 0, .int .i64 0, .int .i64 0, .int .i64 0, .int .i64 0, .int .i64 0, .int .i64 0, .int .i64 0, .int .i64 0, .int .i64 0, .int .i64 0, .int .i64 0, .int .i64 0, .int .i64 0, .int .i64 0, .int .i64 0, .int .i64 0, .int .i64 0, .int .i64 0, .int .i64 0, .int .i64 0, .int .i64 0, .int .i64 0, .int .i64 0, .int .i64 0, .int .i64 0, .int .i64 0, .int .i64 0, .int .i64 0, .int .i64 0, .int .i64 0, .int .i64 0, .int .i64 0, .int .i64 0, .int .i64 0, .bool false] : Array Value)[50]? = some (.bool false) := rfl
  generalize (#[.slice none 0 0, .slice none 0 0, .int .i64 0, .int .i64 0, .int .i64 0, .int .i64 0, .int .i64 0, .int .i64 0, .int .i64 0, .int .i64 0, .int .i64 0, .int .i64 0, .int .i64 0, .int .i64 0, .int .i64 0, .int .i64 0, .int .i64 0, .int .i64 0, .int .i64 0, .int .i64 0, .int .i64 0, .int .i64 0, .int .i64 0, .int .i64 0, .int .i64 0, .int .i64 0, .int .i64 0, .int .i64 0, .int .i64 0, .int .i64 0, .int .i64 0, .int .i64 0, .int .i64 0, .int .i64 0, .int .i64 0, .int .i64 0, .int .i64 0, .int .i64 0, .int .i64 0, .int .i64 0, .int .i64 0, .int .i64 0, .int .i64 0, .int .i64 0, .int .i64 0, .int .i64 0, .int .i64 0, .int .i64 0, .int .i64 0, .int .i64 0, .bool false] : Array Value) = cz at *
  have b1 := (Blk.new w 44 cz).alloc (.cells #[.pointer none, .pointer (some ⟨w.heap.size, 0, none⟩)] 41)
  have b2 := Blk.new (w.alloc (.cells cz 44)) 41 #[.pointer none, .pointer (some ⟨w.heap.size, 0, none⟩)]
  rw [World.size_alloc] at b2
  have k50 := b1.cell_ 50 hq50
  have hb1l := b1.lt
  have HB0 := ((Below.refl w.heap.size w).alloc (Nat.le_refl _) (.cells cz 44)).alloc (by simp) (.cells #[.pointer none, .pointer (some ⟨w.heap.size, 0, none⟩)] 41)
  generalize (w.alloc (.cells cz 44)).alloc (.cells #[.pointer none, .pointer (some ⟨w.heap.size, 0, none⟩)] 41) = W2 at *
  have c0 := b2.cell_ 0 (v := .pointer none) rfl
  have c1 := b2.cell_ 1 (v := .pointer (some ⟨w.heap.size, 0, none⟩)) rfl
  have HP : Hid (∀ k, k < 2 → ∃ p, W2.cell? ⟨w.heap.size + 1, k, none⟩ = some p ∧ Nob W2 p) := by
    intro k hk
    rcases (show k = 0 ∨ k = 1 by omega) with rfl | rfl
    · exact ⟨_, c0, .inl rfl⟩
    · exact ⟨_, c1, .inr ⟨_, rfl, k50, hb1l⟩⟩
  have hb2l := b2.lt
  clear b1 hq50 k50 c0 c1 hb1l b2
  go_loopw [7] (fun i wr => ∃ k : Nat, i = .int .i64 k ∧ k ≤ 2 ∧ Below W2.heap.size W2 wr) (fun i _ => 2 - (intOf i).toNat)
  case atStart => exact ⟨0, rfl, by omega, Below.refl _ _⟩
  case round =>
    obtain ⟨k, rfl, hk, hbw⟩ := hrel
    have hsz := hbw.size
    by_cases hlt : k < 2
    · obtain ⟨p, hp, hN⟩ := HP.out k hlt
      have hpr := (hbw.cell (p := ⟨w.heap.size + 1, k, none⟩) hb2l).trans hp
      have hNr := hN.below hbw
      have hb2r : w.heap.size + 1 < wr.heap.size := by omega
      clear hp hN
      have hkI : (k : Int) < 2 := by omega
      have hk0 : (0 : Int) ≤ (k : Int) := by omega
      go_wp2_with fail
      refine (word_nob p sy wr hNr).mono ?_
      rintro e w1 ⟨rfl, hb1⟩
      have HB1 : Below wr.heap.size wr (w1.alloc (.cells #[.int .i64 0, .int .i64 0] 47)) := hb1.alloc hb1.size _
      have KEEP := Lib.hid (fun (w' : World) (h : Below wr.heap.size wr w') => show w'.cell? ⟨w.heap.size + 1, k, none⟩ = some p ∧ Nob w' p from ⟨(h.cell (p := ⟨w.heap.size + 1, k, none⟩) hb2r).trans hpr, hNr.below h⟩)
      have hpr1 := (KEEP.out _ HB1).1
      go_wp2_with fail
      have HB := HB1
      generalize w1.alloc (.cells #[.int .i64 0, .int .i64 0] 47) = w1' at *
      clear HB1 hb1
      have HBx := HB
      clear HBx
      refine wp_region_held_drew (S := (fun w' => w'.cell? ⟨w.heap.size + 1, k, none⟩ = some p)) (by kernel_rfl) ?_ (fun hHeld => ?_)
      · replace HB := Below.drew HB; (try dsimp only); exact (KEEP.out _ HB).1
      replace HB := Below.drew HB
      have zHB := HB.size
      refine take_move 0 (Operand.tmp 6) rfl rfl (by first | exact .inl rfl | exact .inr rfl) rfl (by kernel_rfl) (by kernel_rfl) (by kernel_rfl) (fun _ _ _ h => h) (by assumption) ?_
      simp only [List.setIfInBounds_toArray, List.set_cons_zero, List.set_cons_succ]
      refine take_move 1 (Operand.tmp 7) rfl rfl (by first | exact .inl rfl | exact .inr rfl) rfl (by kernel_rfl) (by kernel_rfl) (by kernel_rfl) (fun _ _ _ h => h) (by assumption) ?_
      simp only [List.setIfInBounds_toArray, List.set_cons_zero, List.set_cons_succ]
      refine take_op (v := ?vu1x2) 2 (Op.indexAddr 45 (Operand.tmp 32) (Operand.tmp 33)) 0 rfl rfl rfl rfl rfl (by kernel_rfl) (by kernel_rfl) (by kernel_rfl) (fun _ _ _ h => h) ?yu1x2 (by assumption) ?ru1x2
      case yu1x2 => (intro w' hSw; (try dsimp only at hSw); go_simp; try (with_reducible rfl))
      simp only [List.setIfInBounds_toArray, List.set_cons_zero, List.set_cons_succ]
      refine take_op (v := ?vu1x3) 3 (Op.load 41 (Operand.tmp 34)) 41 rfl rfl rfl rfl rfl (by kernel_rfl) (by kernel_rfl) (by kernel_rfl) (fun _ _ _ h => h) ?yu1x3 (by assumption) ?ru1x3
      case yu1x3 => (intro w' hSw; (try dsimp only at hSw); go_simp; try (with_reducible rfl))
      simp only [List.setIfInBounds_toArray, List.set_cons_zero, List.set_cons_succ]
      refine take_move 4 (Operand.tmp 1) rfl rfl (by first | exact .inl rfl | exact .inr rfl) rfl (by kernel_rfl) (by kernel_rfl) (by kernel_rfl) (fun _ _ _ h => h) (by assumption) ?_
      simp only [List.setIfInBounds_toArray, List.set_cons_zero, List.set_cons_succ]
      refine wpAnyH_ready (rs := [5]) (by kernel_rfl) (by simp) (AllReadyH.cons rfl (fun K5 hK5 => ?ku1x5) AllReadyH.nil)
      refine take_calls 5 23 [Operand.tmp 36] #[9] rfl rfl (by kernel_rfl) (fun args w => run_enter Try.func23 (by kernel_rfl) rfl args w) ?_
      refine (new_b m _).mono ?_
      rintro e w5 ⟨q, rfl, hb5⟩
      refine ⟨_, rfl, ?_⟩
      have z5 := hb5.size
      try simp only [World.size_drew] at z5
      replace HB := HB.trans (hb5.mono HB.size)
      have zHB5 := HB.size
      refine hK5.out _ _ ?su1x5 (fun hHeld => ?ru1x5)
      case su1x5 => ((try dsimp only); exact (KEEP.out _ HB).1)
      try simp only [List.setIfInBounds_toArray, List.set_cons_zero, List.set_cons_succ]
      refine wpAnyH_ready (rs := [6]) (by kernel_rfl) (by simp) (AllReadyH.cons rfl (fun K6 hK6 => ?ku1x6) AllReadyH.nil)
      refine take_calls 6 22 [Operand.tmp 35, Operand.tmp 37] #[41, 52] rfl rfl (by kernel_rfl) (fun args w => run_enter Try.func22 (by kernel_rfl) rfl args w) ?_
      refine (get_nobB p q _ (KEEP.out _ HB).2).mono ?_
      rintro e w6 ⟨rfl, hb6⟩
      refine ⟨_, rfl, ?_⟩
      have z6 := hb6.size
      try simp only [World.size_drew] at z6
      replace HB := HB.trans (hb6.mono HB.size)
      have zHB6 := HB.size
      refine hK6.out _ _ ?su1x6 (fun hHeld => ?ru1x6)
      case su1x6 => ((try dsimp only); exact (KEEP.out _ HB).1)
      try simp only [List.setIfInBounds_toArray, List.set_cons_zero, List.set_cons_succ]
      refine take_move 7 (Operand.tmp 38) rfl rfl (by first | exact .inl rfl | exact .inr rfl) rfl (by kernel_rfl) (by kernel_rfl) (by kernel_rfl) (fun _ _ _ h => h) (by assumption) ?_
      simp only [List.setIfInBounds_toArray, List.set_cons_zero, List.set_cons_succ]
      refine take_op (v := ?vu1x8) 8 (Op.extract (Operand.tmp 31) 0) 3 rfl rfl rfl rfl rfl (by kernel_rfl) (by kernel_rfl) (by kernel_rfl) (fun _ _ _ h => h) ?yu1x8 (by assumption) ?ru1x8
      case yu1x8 => (intro w' hSw; (try dsimp only at hSw); go_simp; try (with_reducible rfl))
      simp only [List.setIfInBounds_toArray, List.set_cons_zero, List.set_cons_succ]
      refine take_op (v := ?vu1x9) 9 (Op.extract (Operand.tmp 31) 1) 25 rfl rfl rfl rfl rfl (by kernel_rfl) (by kernel_rfl) (by kernel_rfl) (fun _ _ _ h => h) ?yu1x9 (by assumption) ?ru1x9
      case yu1x9 => (intro w' hSw; (try dsimp only at hSw); go_simp; try (with_reducible rfl))
      simp only [List.setIfInBounds_toArray, List.set_cons_zero, List.set_cons_succ]
      refine take_op (v := ?vu1x10) 10 (Op.assign (Operand.tmp 39)) 3 rfl rfl rfl rfl rfl (by kernel_rfl) (by kernel_rfl) (by kernel_rfl) (fun _ _ _ h => h) ?yu1x10 (by assumption) ?ru1x10
      case yu1x10 => (intro w' hSw; (try dsimp only at hSw); go_simp; try (with_reducible rfl))
      simp only [List.setIfInBounds_toArray, List.set_cons_zero, List.set_cons_succ]
      refine take_op (v := ?vu1x11) 11 (Op.assign (Operand.tmp 40)) 25 rfl rfl rfl rfl rfl (by kernel_rfl) (by kernel_rfl) (by kernel_rfl) (fun _ _ _ h => h) ?yu1x11 (by assumption) ?ru1x11
      case yu1x11 => (intro w' hSw; (try dsimp only at hSw); go_simp; try (with_reducible rfl))
      simp only [List.setIfInBounds_toArray, List.set_cons_zero, List.set_cons_succ]
      refine wpAnyH_done (by kernel_rfl) ?_ _
      have hp6 := (KEEP.out _ HB).1
      have hbw6 := hbw.trans (HB.mono hsz)
      have hz6 := HB.size
      have HB6 := HB.alloc HB.size (.cells #[.slice none 0 0, .int .u64 0, .int .i64 0] 59)
      have hbw7 := hbw.trans (HB6.mono hsz)
      have C6 := fun q => put_nob p q sy _ (KEEP.out _ HB6).2
      go_wp2_with fail
      refine (C6 _).mono ?_
      rintro e w7 ⟨rfl, hb7⟩
      have hbw8 := hbw7.trans (hb7.mono hbw7.size)
      clear C6 hp6 hbw6 HB6 HB KEEP
      go_wp2_with fail
      go_roundw
      case rel => exact ⟨k + 1, by go_num, by omega, hbw8⟩
      case measure => simp [intOf]; omega
    · obtain rfl : k = 2 := by omega
      go_wp2_with fail
      refine (awake_any _).mono ?_
      rintro e w7 ⟨rfl, hb7⟩
      go_wp2_with fail
      go_ret
      exact ⟨rfl, (HB0.trans (hbw.mono HB0.size)).trans (hb7.mono (by have := HB0.size; omega))⟩
end LenW
end Go.Proofs.Ytedoeplhjmkllaa
