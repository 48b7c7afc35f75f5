/- Walks over package bits: a writer's length and text. -/
import Derived.Test.YtedoeplhjmkllaaBitV
import Derived.Test.YtedoeplhjmkllaaRecP
namespace Go.Proofs.Ytedoeplhjmkllaa
set_option linter.unusedVariables false
set_option linter.unusedSimpArgs false
set_option linter.unnecessarySimpa false
open Go.RowKit
namespace BitW

theorem nil_Put (n width : Int) (w : World) :
    Calls Try.prog 32 #[.pointer none, .int .i64 n, .int .i64 width] w fun e w' => e = .returned (.int .i64 1) ∧ w = w' := by
  go_enter Try.func32, Try.ntmps32
  go_wp2_with fail
  go_ret
  exact ⟨rfl, rfl⟩
theorem nil_Gamma (n : Int) (w : World) :
    Calls Try.prog 54 #[.pointer none, .int .i64 n] w fun e w' => e = .returned (.int .i64 1) ∧ w = w' := by
  go_enter Try.func54, Try.ntmps54
  go_wp2_with fail
  go_ret
  exact ⟨rfl, rfl⟩
theorem nil_Len (w : World) :
    Calls Try.prog 33 #[.pointer none] w fun e w' => e = .returned (.int .i64 0) ∧ w = w' := by
  go_enter Try.func33, Try.ntmps33
  go_wp2_with fail
  go_ret
  exact ⟨rfl, rfl⟩
theorem nil_Text (w : World) :
    Calls Try.prog 39 #[.pointer none] w fun e w' => e = .returned (str []) ∧ w = w' := by
  go_enter Try.func39, Try.ntmps39
  go_wp2_with fail
  go_ret
  exact ⟨rfl, rfl⟩
set_option maxHeartbeats 1000000 in
theorem len_any (base g : Nat) (ab : Option Nat) (l : List Nat) (w : World) (h : Wr w base g ab l) (hl : l.length ≤ 1000000) :
    Calls Try.prog 33 #[.pointer (some ⟨g, 0, none⟩)] w fun e w' => e = .returned (.int .i64 (l.length : Nat)) ∧ ∃ nq, w' = w.drewN nq := by
  obtain ⟨⟨A, nb, c, bs, r, k, bG, o, hab, hk, hr, rfl⟩, hgb⟩ := h
  obtain ⟨c0, c1, c2, f0, f1, f2, z⟩ := blk3 bG
  have e1 : bs.length = nb := by have := o.len; simp [byts] at this; omega
  have e2 : (bitsB bs ++ dg k r).length = 8 * nb + k := by rw [List.length_append, bitsB_len, dg_len, e1]
  rw [e2] at hl ⊢
  have w1 : IntKind.i64.wrap (8 * (nb : Int)) = 8 * (nb : Int) := IntWalk.i64_in _ (by omega)
  have w2 : IntKind.i64.wrap (8 * (nb : Int) + (k : Int)) = 8 * (nb : Int) + (k : Int) := IntWalk.i64_in _ (by omega)
  clear o e1 e2 hr bG
  go_enter Try.func33, Try.ntmps33
  go_wp2_with fail
  go_quiet (fail)
  go_wp2
  go_ret
  exact ⟨by simp, _, rfl⟩

set_option maxRecDepth 100000 in
set_option maxHeartbeats 2000000 in
theorem text_any (base g : Nat) (ab : Option Nat) (l : List Nat) (w : World) (h : Wr w base g ab l) (hl : l.length ≤ 1000000) :
    Calls Try.prog 39 #[.pointer (some ⟨g, 0, none⟩)] w fun e w' => e = .returned (str (textB l)) ∧ Below w.heap.size w w' := by
  obtain ⟨⟨A, nb, c, bs, r, k, bG, o, hab, hk, hr, rfl⟩, hgb⟩ := h
  have bG' := bG
  obtain ⟨c0, c1, c2, f0, f1, f2, z⟩ := blk3 bG'
  clear bG'
  have hcv := run_bytes_str (P := Try.prog) w (c := c) Try.underlying56 Try.underlying5 Try.underlying9 o.rd
  have hT := Lib.hid (textB_bits bs (dg k r))
  by_cases hk0 : k = 0
  · subst hk0
    go_enter Try.func39, Try.ntmps39
    go_wp2_with fail
    go_ret
    refine ⟨?_, Below.refl _ _⟩
    rw [hT.out]
    simp [dg, textB_nil]
  · have hkI : ((k : Int) == 0) = false := by rw [beq_eq_false_iff_ne]; omega
    have hsub : (8 : Int) - (k : Int) = ((8 - k : Nat) : Int) := by omega
    have hwr : IntKind.i64.wrap ((8 - k : Nat) : Int) = ((8 - k : Nat) : Int) := IntWalk.i64_in _ (by omega)
    have HF := Lib.hid (textB_few k r (by omega) hk)
    have HB := Below.refl w.heap.size w
    have e1 : bs.length = nb := by have := o.len; simp [byts] at this; omega
    have hbl : bs.length ≤ 1000000 := by rw [List.length_append, bitsB_len] at hl; omega
    have HBV : Hid ([Value.int .u8 (IntKind.u8.wrap (IntKind.u64.wrap ((r : Int) * 2 ^ (8 - k))))] = byts [UInt8.ofNat ((r * 2 ^ (8 - k)) % 256)]) := Lib.hid (by
      have e1 : (r : Int) * 2 ^ (8 - k) = ((r * 2 ^ (8 - k) : Nat) : Int) := by push_cast; rfl
      rw [e1]
      simp only [byts, List.map_cons, List.map_nil, byt]
      congr 2
      rw [UInt8.toNat_ofNat']
      generalize r * 2 ^ (8 - k) = y
      simp [IntKind.wrap, IntKind.bits, IntKind.signed])
    have hnb : ¬ 9223372036854775807 < nb + 1 := by omega
    clear hk0 hcv
    go_enter Try.func39, Try.ntmps39
    go_wp2_with fail
    refine wp_region_held_drew (S := (fun w' => w'.cell? ⟨g, 0, none⟩ = some (.slice A nb c) ∧ w'.cell? ⟨g, 1, none⟩ = some (.int .u64 (r : Nat)) ∧ w'.cell? ⟨g, 2, none⟩ = some (.int .i64 (k : Nat)) ∧ (convert 56 9 (.slice A nb c)).run Try.prog w' = .ok (str bs) w')) (by kernel_rfl) ?_ (fun hHeld => ?_)
    · replace HB := Below.drew HB; replace o := Own.drew o; replace bG := Blk.drew bG; (try dsimp only); exact ⟨bG.cell_ 0 rfl, bG.cell_ 1 rfl, bG.cell_ 2 rfl, run_bytes_str (P := Try.prog) _ (c := c) Try.underlying56 Try.underlying5 Try.underlying9 o.rd⟩
    replace HB := Below.drew HB
    replace o := Own.drew o
    replace bG := Blk.drew bG
    have zHB := HB.size
    refine take_move 0 (Operand.tmp 0) rfl rfl (by first | exact .inl rfl | exact .inr rfl) rfl (by kernel_rfl) (by kernel_rfl) (by kernel_rfl) (fun _ _ _ h => h) (by assumption) ?_
    simp only [List.setIfInBounds_toArray, List.set_cons_zero, List.set_cons_succ]
    refine take_op (v := ?vu1x1) 1 (Op.nilCheck (Operand.tmp 15)) 0 rfl rfl rfl rfl rfl (by kernel_rfl) (by kernel_rfl) (by kernel_rfl) (fun _ _ _ h => h) ?yu1x1 (by assumption) ?ru1x1
    case yu1x1 => (intro w' hSw; (try dsimp only at hSw); go_simp; try (with_reducible rfl))
    simp only [List.setIfInBounds_toArray, List.set_cons_zero, List.set_cons_succ]
    refine take_op (v := ?vu1x2) 2 (Op.fieldAddr 59 (Operand.tmp 16) 0) 0 rfl rfl rfl rfl rfl (by kernel_rfl) (by kernel_rfl) (by kernel_rfl) (fun _ _ _ h => h) ?yu1x2 (by assumption) ?ru1x2
    case yu1x2 => (intro w' hSw; (try dsimp only at hSw); go_simp; try (with_reducible rfl))
    simp only [List.setIfInBounds_toArray, List.set_cons_zero, List.set_cons_succ]
    refine take_op (v := ?vu1x3) 3 (Op.load 56 (Operand.tmp 17)) 56 rfl rfl rfl rfl rfl (by kernel_rfl) (by kernel_rfl) (by kernel_rfl) (fun _ _ _ h => h) ?yu1x3 (by assumption) ?ru1x3
    case yu1x3 => (intro w' hSw; (try dsimp only at hSw); go_simp; try (with_reducible rfl))
    simp only [List.setIfInBounds_toArray, List.set_cons_zero, List.set_cons_succ]
    refine take_op (v := ?vu1x4) 4 (Op.convert 56 9 (Operand.tmp 18)) 9 rfl rfl rfl rfl rfl (by kernel_rfl) (by kernel_rfl) (by kernel_rfl) (fun _ _ _ h => h) ?yu1x4 (by assumption) ?ru1x4
    case yu1x4 => (intro w' hSw; (try dsimp only at hSw); go_simp; try (with_reducible rfl))
    simp only [List.setIfInBounds_toArray, List.set_cons_zero, List.set_cons_succ]
    refine take_move 5 (Operand.tmp 0) rfl rfl (by first | exact .inl rfl | exact .inr rfl) rfl (by kernel_rfl) (by kernel_rfl) (by kernel_rfl) (fun _ _ _ h => h) (by assumption) ?_
    simp only [List.setIfInBounds_toArray, List.set_cons_zero, List.set_cons_succ]
    refine take_op (v := ?vu1x6) 6 (Op.nilCheck (Operand.tmp 20)) 0 rfl rfl rfl rfl rfl (by kernel_rfl) (by kernel_rfl) (by kernel_rfl) (fun _ _ _ h => h) ?yu1x6 (by assumption) ?ru1x6
    case yu1x6 => (intro w' hSw; (try dsimp only at hSw); go_simp; try (with_reducible rfl))
    simp only [List.setIfInBounds_toArray, List.set_cons_zero, List.set_cons_succ]
    refine take_op (v := ?vu1x7) 7 (Op.fieldAddr 59 (Operand.tmp 21) 1) 0 rfl rfl rfl rfl rfl (by kernel_rfl) (by kernel_rfl) (by kernel_rfl) (fun _ _ _ h => h) ?yu1x7 (by assumption) ?ru1x7
    case yu1x7 => (intro w' hSw; (try dsimp only at hSw); go_simp; try (with_reducible rfl))
    simp only [List.setIfInBounds_toArray, List.set_cons_zero, List.set_cons_succ]
    refine take_op (v := ?vu1x8) 8 (Op.load 57 (Operand.tmp 22)) 57 rfl rfl rfl rfl rfl (by kernel_rfl) (by kernel_rfl) (by kernel_rfl) (fun _ _ _ h => h) ?yu1x8 (by assumption) ?ru1x8
    case yu1x8 => (intro w' hSw; (try dsimp only at hSw); go_simp; try (with_reducible rfl))
    simp only [List.setIfInBounds_toArray, List.set_cons_zero, List.set_cons_succ]
    refine take_move 9 (Operand.tmp 0) rfl rfl (by first | exact .inl rfl | exact .inr rfl) rfl (by kernel_rfl) (by kernel_rfl) (by kernel_rfl) (fun _ _ _ h => h) (by assumption) ?_
    simp only [List.setIfInBounds_toArray, List.set_cons_zero, List.set_cons_succ]
    refine take_op (v := ?vu1x10) 10 (Op.nilCheck (Operand.tmp 24)) 0 rfl rfl rfl rfl rfl (by kernel_rfl) (by kernel_rfl) (by kernel_rfl) (fun _ _ _ h => h) ?yu1x10 (by assumption) ?ru1x10
    case yu1x10 => (intro w' hSw; (try dsimp only at hSw); go_simp; try (with_reducible rfl))
    simp only [List.setIfInBounds_toArray, List.set_cons_zero, List.set_cons_succ]
    refine take_op (v := ?vu1x11) 11 (Op.fieldAddr 59 (Operand.tmp 25) 2) 0 rfl rfl rfl rfl rfl (by kernel_rfl) (by kernel_rfl) (by kernel_rfl) (fun _ _ _ h => h) ?yu1x11 (by assumption) ?ru1x11
    case yu1x11 => (intro w' hSw; (try dsimp only at hSw); go_simp; try (with_reducible rfl))
    simp only [List.setIfInBounds_toArray, List.set_cons_zero, List.set_cons_succ]
    refine take_op (v := ?vu1x12) 12 (Op.load 3 (Operand.tmp 26)) 3 rfl rfl rfl rfl rfl (by kernel_rfl) (by kernel_rfl) (by kernel_rfl) (fun _ _ _ h => h) ?yu1x12 (by assumption) ?ru1x12
    case yu1x12 => (intro w' hSw; (try dsimp only at hSw); go_simp; try (with_reducible rfl))
    simp only [List.setIfInBounds_toArray, List.set_cons_zero, List.set_cons_succ]
    refine take_op (v := ?vu1x13) 13 (Op.binOp BinOp.sub 3 (Operand.const (Value.int IntKind.i64 8)) (Operand.tmp 27) 3) 3 rfl rfl rfl rfl rfl (by kernel_rfl) (by kernel_rfl) (by kernel_rfl) (fun _ _ _ h => h) ?yu1x13 (by assumption) ?ru1x13
    case yu1x13 => (intro w' hSw; (try dsimp only at hSw); go_simp; try (with_reducible rfl))
    simp only [List.setIfInBounds_toArray, List.set_cons_zero, List.set_cons_succ]
    refine take_op (v := ?vu1x14) 14 (Op.binOp BinOp.shl 57 (Operand.tmp 23) (Operand.tmp 28) 3) 57 rfl rfl rfl rfl rfl (by kernel_rfl) (by kernel_rfl) (by kernel_rfl) (fun _ _ _ h => h) ?yu1x14 (by assumption) ?ru1x14
    case yu1x14 => (intro w' hSw; (try dsimp only at hSw); go_simp; try (with_reducible rfl))
    simp only [List.setIfInBounds_toArray, List.set_cons_zero, List.set_cons_succ]
    refine take_op (v := ?vu1x15) 15 (Op.convert 57 5 (Operand.tmp 29)) 5 rfl rfl rfl rfl rfl (by kernel_rfl) (by kernel_rfl) (by kernel_rfl) (fun _ _ _ h => h) ?yu1x15 (by assumption) ?ru1x15
    case yu1x15 => (intro w' hSw; (try dsimp only at hSw); go_simp; try (with_reducible rfl))
    simp only [List.setIfInBounds_toArray, List.set_cons_zero, List.set_cons_succ]
    refine wpAnyH_ready (rs := [16]) (by kernel_rfl) (by simp) (AllReadyH.cons rfl (fun K16 hK16 => ?ku1x16) AllReadyH.nil)
    refine take_build (e := 5) (len := 1) (size := 1) (w.heap.size) ([Value.int .u8 (IntKind.u8.wrap (IntKind.u64.wrap ((r : Int) * 2 ^ (8 - k))))]) 16 (Op.buildSlice 56 1 #[(0, Operand.tmp 30)]) 56 rfl rfl rfl (by kernel_rfl) ?eu1x16 (by rfl) (by decide) (by first | exact Nat.le_refl _ | (simp only [World.size_alloc, World.size_setCell, World.size_drew] at *; omega) | omega) ?_
    case eu1x16 => (go_simp; try (first | with_reducible rfl | (simp [rcells, rcell]; done) | rfl))
    intro gx16 w16 o16 gr16 l16 m16
    have z16 := gr16.size
    try simp only [World.size_drew] at z16
    replace HB := below_grow HB gr16
    have zHB16 := HB.size
    replace o := Own.grow0 o gr16
    replace bG := Blk.grow0 bG gr16
    refine hK16.out _ _ ?su1x16 (fun hHeld => ?ru1x16)
    case su1x16 => ((try dsimp only); exact ⟨bG.cell_ 0 rfl, bG.cell_ 1 rfl, bG.cell_ 2 rfl, run_bytes_str (P := Try.prog) _ (c := c) Try.underlying56 Try.underlying5 Try.underlying9 o.rd⟩)
    try simp only [List.setIfInBounds_toArray, List.set_cons_zero, List.set_cons_succ]
    rw [HBV.out] at o16; have hcv := run_bytes_str (P := Try.prog) _ (c := 1) Try.underlying56 Try.underlying5 Try.underlying9 o16.rd
    refine' take_run 17 (Op.convert 56 9 (Operand.tmp 31)) 9 (by kernel_rfl) rfl rfl rfl rfl (by kernel_rfl) ?eu1x17 ?su1x17 (fun hHeld => ?ru1x17)
    case eu1x17 => (go_simp; try (first | with_reducible rfl | exact ⟨rfl, rfl⟩))
    case su1x17 => ((try dsimp only); (first | assumption | (exact ⟨bG.cell_ 0 rfl, bG.cell_ 1 rfl, bG.cell_ 2 rfl, run_bytes_str (P := Try.prog) _ (c := c) Try.underlying56 Try.underlying5 Try.underlying9 o.rd⟩)))
    simp only [List.setIfInBounds_toArray, List.set_cons_zero, List.set_cons_succ]
    refine take_op (v := ?vu1x18) 18 (Op.binOp BinOp.add 9 (Operand.tmp 19) (Operand.tmp 32) 9) 9 rfl rfl rfl rfl rfl (by kernel_rfl) (by kernel_rfl) (by kernel_rfl) (fun _ _ _ h => h) ?yu1x18 (by assumption) ?ru1x18
    case yu1x18 => (intro w' hSw; (try dsimp only at hSw); go_simp; try (with_reducible rfl))
    simp only [List.setIfInBounds_toArray, List.set_cons_zero, List.set_cons_succ]
    refine take_op (v := ?vu1x19) 19 (Op.assign (Operand.tmp 33)) 9 rfl rfl rfl rfl rfl (by kernel_rfl) (by kernel_rfl) (by kernel_rfl) (fun _ _ _ h => h) ?yu1x19 (by assumption) ?ru1x19
    case yu1x19 => (intro w' hSw; (try dsimp only at hSw); go_simp; try (with_reducible rfl))
    simp only [List.setIfInBounds_toArray, List.set_cons_zero, List.set_cons_succ]
    refine wpAnyH_done (by kernel_rfl) ?_ _
    go_wp2_with fail
    go_ret
    refine ⟨?_, HB⟩
    rw [hT.out, HF.out]
    simp [ba_cat]
end BitW
end Go.Proofs.Ytedoeplhjmkllaa
