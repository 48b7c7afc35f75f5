/- The law of package front on runs: its walk. -/
import Derived.Test.YtehlgpfkpagaeaaFrontG
namespace Go.Proofs.Ytehlgpfkpagaeaa
set_option linter.unusedVariables false
set_option linter.unusedSimpArgs false
set_option linter.unnecessarySimpa false
open Go.RowKit Go.ChangeShapes Go.WideShapes
namespace FrontW

theorem Own_drew {w : World} {base size n c : Nat} {e : TypeId} {A : Option Addr} {xs : List Value} (h : Own w base e size A n c xs) (hb : base ≤ w.heap.size) : Own w.drew base e size A n c xs := h.below ((Below.refl _ _).drew)

set_option maxRecDepth 100000 in
set_option maxHeartbeats 8000000 in
theorem runs_law (s : List UInt8) (w : World) (hs : s.length ≤ maxLen) :
    Calls Try.prog 9 #[str s] w fun e w' => e = .returned (.bool true) ∧ Below w.heap.size w w' := by
  unfold maxLen at hs
  by_cases h1 : (500 : Int) < (s.length : Int)
  · go_enter Try.func9, Try.ntmps9
    go_wp2_with fail
    refine (awake_any _).mono ?_
    rintro e w1 ⟨rfl, hb1⟩
    go_wp2
    go_ret
    exact ⟨rfl, hb1⟩
  · obtain ⟨L, hL, hLl, hLk⟩ : ∃ L : List Int, (runR s).2 = L ∧ L.length = s.length ∧ ∀ i (hi : i < s.length) (h2 : i < L.length), L[i] = (((runR (s.take i)).1.idxOf s[i] : Nat) : Int) :=
      ⟨_, rfl, runR_len s, fun i hi h2 => by have := rank_at s i hi; rw [List.getElem?_eq_getElem h2] at this; exact Option.some_inj.1 this⟩
    have HL := Lib.hid hL
    have HLL := Lib.hid hLl
    have HLK := Lib.hid hLk
    have HRZ := Lib.hid (rank_zero s)
    clear hL hLl hLk
    go_enter Try.func9, Try.ntmps9
    go_wp2_with fail
    refine (ranks_any s _ (by omega)).mono ?_
    rintro e w1 ⟨A1, c1, rfl, hown, hb1⟩
    rw [HL.out] at hown
    go_wp2_with fail
    go_loopw [4] (fun i wr => ∃ k : Nat, k ≤ s.length ∧ i = .int .i64 k ∧ Own wr w.heap.size 3 1 A1 s.length c1 (ints L) ∧ Below w.heap.size w wr) (fun i _ => s.length - (intOf i).toNat)
    case atStart => exact ⟨0, by omega, rfl, hown, hb1⟩
    case round =>
      obtain ⟨k, hk, rfl, ho, hbw⟩ := hrel
      by_cases hlt : k < s.length
      · have hki : (k : Int) < (s.length : Int) := by omega
        have hk0 : (0 : Int) ≤ (k : Int) := by omega
        obtain ⟨b, hb, hb'⟩ : ∃ b, (⟨s.toArray⟩ : ByteArray)[k]'(by show k < s.toArray.size; simpa using hlt) = b ∧ s[k] = b := ⟨_, rfl, rfl⟩
        have hq256 := (runR_full (s.take k)).idx s[k]
        have hG := HLK.out k hlt (by rw [HLL.out]; exact hlt)
        have hZ := HRZ.out k hlt
        have hbt := between_any s k hlt
        rw [hb'] at hq256 hG hZ
        simp only [hb'] at hbt
        generalize (runR (s.take k)).1.idxOf b = q at *
        generalize hn : (if b ∈ s.take k then ((q : Nat) : Int) else -1) = n at *
        have hnn : n = (q : Int) ∨ n = -1 := by subst hn; split <;> simp
        have HG := Lib.hid hG
        have HZ := Lib.hid hZ
        have HBT := Lib.hid hbt
        have HB' := Lib.hid hb'
        clear hn hG hZ hbt hb'
        go_wp2_with fail
        refine (HBT.out _ (by omega)).mono ?_
        rintro e w2 ⟨rfl, hb2⟩
        have ho2 := ho.below hb2
        have hbw2 := hbw.trans (hb2.mono hbw.size)
        clear ho hbw hb2
        have hq255 : ¬ (255 : Int) < (q : Int) := by omega
        have hq255d : decide ((255 : Int) < (q : Int)) = false := decide_eq_false hq255
        have hq255n : ¬ 255 < q := by omega
        rcases Nat.eq_zero_or_pos k with hk00 | hk00
        · have hl0 : (0 : Int) < (s.length : Int) := by omega
          have hb0' : (⟨s.toArray⟩ : ByteArray)[0]'(by show 0 < s.toArray.size; simp; omega) = b := by rw [← hb]; congr 1; exact hk00.symm
          have hkI : (k : Int) = 0 := by omega
          have hl0n : 0 < s.length := by omega
          by_cases hbz : b = 0
          · have hq0 : q = 0 := HZ.out.2 (.inr ⟨hk00, hbz⟩)
            have hbn : b.toNat = 0 := by rw [hbz]; rfl
            have HK := Lib.hid hk00
            clear hk00 hbz
            have hqz : (q : Int) = 0 := by omega
            have hq0n := hq0
            clear hq0
            have HQ0 := Lib.hid hq0n
            clear hq0n
            go_wp2_with fail
            refine wp_region_held_drew (S := (fun w' => Own w' w.heap.size 3 1 A1 s.length c1 (ints L) ∧ Below w.heap.size w w')) (by kernel_rfl) ?_ (fun hHeld => ?_)
            · (try dsimp only); (first | exact ⟨Own_drew ho2 hbw2.size, hbw2.drew⟩ | exact ⟨ho2, hbw2⟩)
            refine take_move 0 (Operand.tmp 4) rfl rfl (by first | exact .inl rfl | exact .inr rfl) rfl (by kernel_rfl) (by kernel_rfl) (by kernel_rfl) (fun _ _ _ h => h) (by assumption) ?_
            simp only [List.setIfInBounds_toArray, List.set_cons_zero, List.set_cons_succ]
            refine take_op (v := ?vu1x1) 1 (Op.binOp BinOp.gtr 3 (Operand.tmp 27) (Operand.const (Value.int IntKind.i64 0)) 3) 4 rfl rfl rfl rfl rfl (by kernel_rfl) (by kernel_rfl) (by kernel_rfl) (fun _ _ _ h => h) ?yu1x1 (by assumption) ?ru1x1
            case yu1x1 => (intro w' hSw; (try dsimp only at hSw); go_simp; try (with_reducible rfl))
            simp only [List.setIfInBounds_toArray, List.set_cons_zero, List.set_cons_succ]
            refine take_move 2 (Operand.tmp 28) rfl rfl (by first | exact .inl rfl | exact .inr rfl) rfl (by kernel_rfl) (by kernel_rfl) (by kernel_rfl) (fun _ _ _ h => h) (by assumption) ?_
            simp only [List.setIfInBounds_toArray, List.set_cons_zero, List.set_cons_succ]
            refine take_skip 3 rfl rfl rfl (by kernel_rfl) (by kernel_rfl) (by kernel_rfl) (fun _ _ _ h => h) (by assumption) ?_
            simp only [List.setIfInBounds_toArray, List.set_cons_zero, List.set_cons_succ]
            refine take_skip 4 rfl rfl rfl (by kernel_rfl) (by kernel_rfl) (by kernel_rfl) (fun _ _ _ h => h) (by assumption) ?_
            simp only [List.setIfInBounds_toArray, List.set_cons_zero, List.set_cons_succ]
            refine take_skip 5 rfl rfl rfl (by kernel_rfl) (by kernel_rfl) (by kernel_rfl) (fun _ _ _ h => h) (by assumption) ?_
            simp only [List.setIfInBounds_toArray, List.set_cons_zero, List.set_cons_succ]
            refine take_skip 6 rfl rfl rfl (by kernel_rfl) (by kernel_rfl) (by kernel_rfl) (fun _ _ _ h => h) (by assumption) ?_
            simp only [List.setIfInBounds_toArray, List.set_cons_zero, List.set_cons_succ]
            refine take_skip 7 rfl rfl rfl (by kernel_rfl) (by kernel_rfl) (by kernel_rfl) (fun _ _ _ h => h) (by assumption) ?_
            simp only [List.setIfInBounds_toArray, List.set_cons_zero, List.set_cons_succ]
            refine take_skip 8 rfl rfl rfl (by kernel_rfl) (by kernel_rfl) (by kernel_rfl) (fun _ _ _ h => h) (by assumption) ?_
            simp only [List.setIfInBounds_toArray, List.set_cons_zero, List.set_cons_succ]
            refine take_skip 9 rfl rfl rfl (by kernel_rfl) (by kernel_rfl) (by kernel_rfl) (fun _ _ _ h => h) (by assumption) ?_
            simp only [List.setIfInBounds_toArray, List.set_cons_zero, List.set_cons_succ]
            refine take_skip 10 rfl rfl rfl (by kernel_rfl) (by kernel_rfl) (by kernel_rfl) (fun _ _ _ h => h) (by assumption) ?_
            simp only [List.setIfInBounds_toArray, List.set_cons_zero, List.set_cons_succ]
            refine take_op (v := ?vu1x11) 11 (Op.pick (Operand.tmp 29) (Operand.tmp 37) (Operand.const (Value.bool false))) 4 rfl rfl rfl rfl rfl (by kernel_rfl) (by kernel_rfl) (by kernel_rfl) (fun _ _ _ h => h) ?yu1x11 (by assumption) ?ru1x11
            case yu1x11 => (intro w' hSw; (try dsimp only at hSw); go_simp; try (with_reducible rfl))
            simp only [List.setIfInBounds_toArray, List.set_cons_zero, List.set_cons_succ]
            refine take_move 12 (Operand.tmp 38) rfl rfl (by first | exact .inl rfl | exact .inr rfl) rfl (by kernel_rfl) (by kernel_rfl) (by kernel_rfl) (fun _ _ _ h => h) (by assumption) ?_
            simp only [List.setIfInBounds_toArray, List.set_cons_zero, List.set_cons_succ]
            refine take_move 13 (Operand.tmp 4) rfl rfl (by first | exact .inl rfl | exact .inr rfl) rfl (by kernel_rfl) (by kernel_rfl) (by kernel_rfl) (fun _ _ _ h => h) (by assumption) ?_
            simp only [List.setIfInBounds_toArray, List.set_cons_zero, List.set_cons_succ]
            refine take_op (v := ?vu1x14) 14 (Op.binOp BinOp.eql 3 (Operand.tmp 40) (Operand.const (Value.int IntKind.i64 0)) 3) 4 rfl rfl rfl rfl rfl (by kernel_rfl) (by kernel_rfl) (by kernel_rfl) (fun _ _ _ h => h) ?yu1x14 (by assumption) ?ru1x14
            case yu1x14 => (intro w' hSw; (try dsimp only at hSw); go_simp; try (with_reducible rfl))
            simp only [List.setIfInBounds_toArray, List.set_cons_zero, List.set_cons_succ]
            refine take_move 15 (Operand.tmp 41) rfl rfl (by first | exact .inl rfl | exact .inr rfl) rfl (by kernel_rfl) (by kernel_rfl) (by kernel_rfl) (fun _ _ _ h => h) (by assumption) ?_
            simp only [List.setIfInBounds_toArray, List.set_cons_zero, List.set_cons_succ]
            refine take_move 16 (Operand.tmp 0) rfl rfl (by first | exact .inl rfl | exact .inr rfl) rfl (by kernel_rfl) (by kernel_rfl) (by kernel_rfl) (fun _ _ _ h => h) (by assumption) ?_
            simp only [List.setIfInBounds_toArray, List.set_cons_zero, List.set_cons_succ]
            refine take_op (v := ?vu1x17) 17 (Op.index 9 (Operand.tmp 43) (Operand.const (Value.int IntKind.i64 0))) 5 rfl rfl rfl rfl rfl (by kernel_rfl) (by kernel_rfl) (by kernel_rfl) (fun _ _ _ h => h) ?yu1x17 (by assumption) ?ru1x17
            case yu1x17 => (intro w' hSw; (try dsimp only at hSw); go_simp; try (with_reducible rfl))
            simp only [List.setIfInBounds_toArray, List.set_cons_zero, List.set_cons_succ]
            refine take_op (v := ?vu1x18) 18 (Op.binOp BinOp.eql 5 (Operand.tmp 44) (Operand.const (Value.int IntKind.u8 0)) 5) 4 rfl rfl rfl rfl rfl (by kernel_rfl) (by kernel_rfl) (by kernel_rfl) (fun _ _ _ h => h) ?yu1x18 (by assumption) ?ru1x18
            case yu1x18 => (intro w' hSw; (try dsimp only at hSw); go_simp; try (with_reducible rfl))
            simp only [List.setIfInBounds_toArray, List.set_cons_zero, List.set_cons_succ]
            refine take_op (v := ?vu1x19) 19 (Op.pick (Operand.tmp 42) (Operand.tmp 45) (Operand.const (Value.bool false))) 4 rfl rfl rfl rfl rfl (by kernel_rfl) (by kernel_rfl) (by kernel_rfl) (fun _ _ _ h => h) ?yu1x19 (by assumption) ?ru1x19
            case yu1x19 => (intro w' hSw; (try dsimp only at hSw); go_simp; try (with_reducible rfl))
            simp only [List.setIfInBounds_toArray, List.set_cons_zero, List.set_cons_succ]
            refine take_op (v := ?vu1x20) 20 (Op.pick (Operand.tmp 39) (Operand.const (Value.bool true)) (Operand.tmp 46)) 4 rfl rfl rfl rfl rfl (by kernel_rfl) (by kernel_rfl) (by kernel_rfl) (fun _ _ _ h => h) ?yu1x20 (by assumption) ?ru1x20
            case yu1x20 => (intro w' hSw; (try dsimp only at hSw); go_simp; try (with_reducible rfl))
            simp only [List.setIfInBounds_toArray, List.set_cons_zero, List.set_cons_succ]
            refine take_op (v := ?vu1x21) 21 (Op.assign (Operand.tmp 47)) 4 rfl rfl rfl rfl rfl (by kernel_rfl) (by kernel_rfl) (by kernel_rfl) (fun _ _ _ h => h) ?yu1x21 (by assumption) ?ru1x21
            case yu1x21 => (intro w' hSw; (try dsimp only at hSw); go_simp; try (with_reducible rfl))
            simp only [List.setIfInBounds_toArray, List.set_cons_zero, List.set_cons_succ]
            refine wpAnyH_done (by kernel_rfl) ?_ _
            obtain ⟨ho3, hbw3⟩ := hHeld
            obtain ⟨bb, o, hA, hbl, hcell⟩ := rd_ints ho3.rd (by omega)
            subst hA
            have d0 := hcell k (by rw [HLL.out]; exact hlt)
            rw [HG.out, hqz] at d0
            rw [hqz] at hnn
            rw [HK.out, Nat.add_zero] at d0
            clear hcell hbl
            rcases hnn with hnn | hnn
            · subst hnn
              go_wp2
              go_roundw
              case rel => exact ⟨1, by omega, by first | rfl | go_num, ho3, hbw3⟩
              case measure => first | (simp [intOf]; done) | (simp [intOf]; omega)
            · subst hnn
              go_wp2
              go_roundw
              case rel => exact ⟨1, by omega, by first | rfl | go_num, ho3, hbw3⟩
              case measure => first | (simp [intOf]; done) | (simp [intOf]; omega)
          · have hq0 : ¬ q = 0 := fun e => by
              rcases HZ.out.1 e with ⟨l, h, _⟩ | ⟨_, h⟩
              · omega
              · exact hbz h
            have hbn : ¬ b.toNat = 0 := fun e => hbz (UInt8.toNat_inj.1 e)
            have hbI : ((b.toNat : Int) == 0) = false := by rw [beq_eq_false_iff_ne]; omega
            have hqI : ((q : Int) == 0) = false := by rw [beq_eq_false_iff_ne]; omega
            have hqI2 : ¬ (q : Int) = 0 := by omega
            have HK := Lib.hid hk00
            clear hk00 hbz
            go_wp2_with fail
            refine wp_region_held_drew (S := (fun w' => Own w' w.heap.size 3 1 A1 s.length c1 (ints L) ∧ Below w.heap.size w w')) (by kernel_rfl) ?_ (fun hHeld => ?_)
            · (try dsimp only); (first | exact ⟨Own_drew ho2 hbw2.size, hbw2.drew⟩ | exact ⟨ho2, hbw2⟩)
            refine take_move 0 (Operand.tmp 4) rfl rfl (by first | exact .inl rfl | exact .inr rfl) rfl (by kernel_rfl) (by kernel_rfl) (by kernel_rfl) (fun _ _ _ h => h) (by assumption) ?_
            simp only [List.setIfInBounds_toArray, List.set_cons_zero, List.set_cons_succ]
            refine take_op (v := ?vu2x1) 1 (Op.binOp BinOp.gtr 3 (Operand.tmp 27) (Operand.const (Value.int IntKind.i64 0)) 3) 4 rfl rfl rfl rfl rfl (by kernel_rfl) (by kernel_rfl) (by kernel_rfl) (fun _ _ _ h => h) ?yu2x1 (by assumption) ?ru2x1
            case yu2x1 => (intro w' hSw; (try dsimp only at hSw); go_simp; try (with_reducible rfl))
            simp only [List.setIfInBounds_toArray, List.set_cons_zero, List.set_cons_succ]
            refine take_move 2 (Operand.tmp 28) rfl rfl (by first | exact .inl rfl | exact .inr rfl) rfl (by kernel_rfl) (by kernel_rfl) (by kernel_rfl) (fun _ _ _ h => h) (by assumption) ?_
            simp only [List.setIfInBounds_toArray, List.set_cons_zero, List.set_cons_succ]
            refine take_skip 3 rfl rfl rfl (by kernel_rfl) (by kernel_rfl) (by kernel_rfl) (fun _ _ _ h => h) (by assumption) ?_
            simp only [List.setIfInBounds_toArray, List.set_cons_zero, List.set_cons_succ]
            refine take_skip 4 rfl rfl rfl (by kernel_rfl) (by kernel_rfl) (by kernel_rfl) (fun _ _ _ h => h) (by assumption) ?_
            simp only [List.setIfInBounds_toArray, List.set_cons_zero, List.set_cons_succ]
            refine take_skip 5 rfl rfl rfl (by kernel_rfl) (by kernel_rfl) (by kernel_rfl) (fun _ _ _ h => h) (by assumption) ?_
            simp only [List.setIfInBounds_toArray, List.set_cons_zero, List.set_cons_succ]
            refine take_skip 6 rfl rfl rfl (by kernel_rfl) (by kernel_rfl) (by kernel_rfl) (fun _ _ _ h => h) (by assumption) ?_
            simp only [List.setIfInBounds_toArray, List.set_cons_zero, List.set_cons_succ]
            refine take_skip 7 rfl rfl rfl (by kernel_rfl) (by kernel_rfl) (by kernel_rfl) (fun _ _ _ h => h) (by assumption) ?_
            simp only [List.setIfInBounds_toArray, List.set_cons_zero, List.set_cons_succ]
            refine take_skip 8 rfl rfl rfl (by kernel_rfl) (by kernel_rfl) (by kernel_rfl) (fun _ _ _ h => h) (by assumption) ?_
            simp only [List.setIfInBounds_toArray, List.set_cons_zero, List.set_cons_succ]
            refine take_skip 9 rfl rfl rfl (by kernel_rfl) (by kernel_rfl) (by kernel_rfl) (fun _ _ _ h => h) (by assumption) ?_
            simp only [List.setIfInBounds_toArray, List.set_cons_zero, List.set_cons_succ]
            refine take_skip 10 rfl rfl rfl (by kernel_rfl) (by kernel_rfl) (by kernel_rfl) (fun _ _ _ h => h) (by assumption) ?_
            simp only [List.setIfInBounds_toArray, List.set_cons_zero, List.set_cons_succ]
            refine take_op (v := ?vu2x11) 11 (Op.pick (Operand.tmp 29) (Operand.tmp 37) (Operand.const (Value.bool false))) 4 rfl rfl rfl rfl rfl (by kernel_rfl) (by kernel_rfl) (by kernel_rfl) (fun _ _ _ h => h) ?yu2x11 (by assumption) ?ru2x11
            case yu2x11 => (intro w' hSw; (try dsimp only at hSw); go_simp; try (with_reducible rfl))
            simp only [List.setIfInBounds_toArray, List.set_cons_zero, List.set_cons_succ]
            refine take_move 12 (Operand.tmp 38) rfl rfl (by first | exact .inl rfl | exact .inr rfl) rfl (by kernel_rfl) (by kernel_rfl) (by kernel_rfl) (fun _ _ _ h => h) (by assumption) ?_
            simp only [List.setIfInBounds_toArray, List.set_cons_zero, List.set_cons_succ]
            refine take_move 13 (Operand.tmp 4) rfl rfl (by first | exact .inl rfl | exact .inr rfl) rfl (by kernel_rfl) (by kernel_rfl) (by kernel_rfl) (fun _ _ _ h => h) (by assumption) ?_
            simp only [List.setIfInBounds_toArray, List.set_cons_zero, List.set_cons_succ]
            refine take_op (v := ?vu2x14) 14 (Op.binOp BinOp.eql 3 (Operand.tmp 40) (Operand.const (Value.int IntKind.i64 0)) 3) 4 rfl rfl rfl rfl rfl (by kernel_rfl) (by kernel_rfl) (by kernel_rfl) (fun _ _ _ h => h) ?yu2x14 (by assumption) ?ru2x14
            case yu2x14 => (intro w' hSw; (try dsimp only at hSw); go_simp; try (with_reducible rfl))
            simp only [List.setIfInBounds_toArray, List.set_cons_zero, List.set_cons_succ]
            refine take_move 15 (Operand.tmp 41) rfl rfl (by first | exact .inl rfl | exact .inr rfl) rfl (by kernel_rfl) (by kernel_rfl) (by kernel_rfl) (fun _ _ _ h => h) (by assumption) ?_
            simp only [List.setIfInBounds_toArray, List.set_cons_zero, List.set_cons_succ]
            refine take_move 16 (Operand.tmp 0) rfl rfl (by first | exact .inl rfl | exact .inr rfl) rfl (by kernel_rfl) (by kernel_rfl) (by kernel_rfl) (fun _ _ _ h => h) (by assumption) ?_
            simp only [List.setIfInBounds_toArray, List.set_cons_zero, List.set_cons_succ]
            refine take_op (v := ?vu2x17) 17 (Op.index 9 (Operand.tmp 43) (Operand.const (Value.int IntKind.i64 0))) 5 rfl rfl rfl rfl rfl (by kernel_rfl) (by kernel_rfl) (by kernel_rfl) (fun _ _ _ h => h) ?yu2x17 (by assumption) ?ru2x17
            case yu2x17 => (intro w' hSw; (try dsimp only at hSw); go_simp; try (with_reducible rfl))
            simp only [List.setIfInBounds_toArray, List.set_cons_zero, List.set_cons_succ]
            refine take_op (v := ?vu2x18) 18 (Op.binOp BinOp.eql 5 (Operand.tmp 44) (Operand.const (Value.int IntKind.u8 0)) 5) 4 rfl rfl rfl rfl rfl (by kernel_rfl) (by kernel_rfl) (by kernel_rfl) (fun _ _ _ h => h) ?yu2x18 (by assumption) ?ru2x18
            case yu2x18 => (intro w' hSw; (try dsimp only at hSw); go_simp; try (with_reducible rfl))
            simp only [List.setIfInBounds_toArray, List.set_cons_zero, List.set_cons_succ]
            refine take_op (v := ?vu2x19) 19 (Op.pick (Operand.tmp 42) (Operand.tmp 45) (Operand.const (Value.bool false))) 4 rfl rfl rfl rfl rfl (by kernel_rfl) (by kernel_rfl) (by kernel_rfl) (fun _ _ _ h => h) ?yu2x19 (by assumption) ?ru2x19
            case yu2x19 => (intro w' hSw; (try dsimp only at hSw); go_simp; try (with_reducible rfl))
            simp only [List.setIfInBounds_toArray, List.set_cons_zero, List.set_cons_succ]
            refine take_op (v := ?vu2x20) 20 (Op.pick (Operand.tmp 39) (Operand.const (Value.bool true)) (Operand.tmp 46)) 4 rfl rfl rfl rfl rfl (by kernel_rfl) (by kernel_rfl) (by kernel_rfl) (fun _ _ _ h => h) ?yu2x20 (by assumption) ?ru2x20
            case yu2x20 => (intro w' hSw; (try dsimp only at hSw); go_simp; try (with_reducible rfl))
            simp only [List.setIfInBounds_toArray, List.set_cons_zero, List.set_cons_succ]
            refine take_op (v := ?vu2x21) 21 (Op.assign (Operand.tmp 47)) 4 rfl rfl rfl rfl rfl (by kernel_rfl) (by kernel_rfl) (by kernel_rfl) (fun _ _ _ h => h) ?yu2x21 (by assumption) ?ru2x21
            case yu2x21 => (intro w' hSw; (try dsimp only at hSw); go_simp; try (with_reducible rfl))
            simp only [List.setIfInBounds_toArray, List.set_cons_zero, List.set_cons_succ]
            refine wpAnyH_done (by kernel_rfl) ?_ _
            obtain ⟨ho3, hbw3⟩ := hHeld
            obtain ⟨bb, o, hA, hbl, hcell⟩ := rd_ints ho3.rd (by omega)
            subst hA
            have d0 := hcell k (by rw [HLL.out]; exact hlt)
            rw [HG.out] at d0
            rw [HK.out, Nat.add_zero] at d0
            clear hcell hbl
            rcases hnn with hnn | hnn
            · subst hnn
              go_wp2
              go_roundw
              case rel => exact ⟨1, by omega, by first | rfl | go_num, ho3, hbw3⟩
              case measure => first | (simp [intOf]; done) | (simp [intOf]; omega)
            · subst hnn
              go_wp2
              go_roundw
              case rel => exact ⟨1, by omega, by first | rfl | go_num, ho3, hbw3⟩
              case measure => first | (simp [intOf]; done) | (simp [intOf]; omega)
        · obtain ⟨l, hkk⟩ : ∃ l, l + 1 = k := ⟨k - 1, by omega⟩
          have hls : l < s.length := by omega
          have hw1 : IntKind.i64.wrap ((k : Int) - 1) = (l : Int) := by rw [show (k : Int) - 1 = (l : Int) by omega]; exact IntWalk.i64_in _ (by omega)
          have hl0 : (0 : Int) ≤ (l : Int) := by omega
          have hli : (l : Int) < (s.length : Int) := by omega
          have hkp : (0 : Int) < (k : Int) := by omega
          have hkI : ((k : Int) == 0) = false := by rw [beq_eq_false_iff_ne]; omega
          have hkn : ¬ k = 0 := by omega
          obtain ⟨c, hc, hc'⟩ : ∃ c, (⟨s.toArray⟩ : ByteArray)[l]'(by show l < s.toArray.size; simpa using hls) = c ∧ s[l] = c := ⟨_, rfl, rfl⟩
          have hzz : q = 0 ↔ c = b := by
            rw [HZ.out]
            constructor
            · rintro (⟨l', h, h2⟩ | ⟨h, _⟩)
              · obtain rfl : l' = l := by omega
                rw [← hc']; exact h2
              · omega
            · intro h
              exact .inl ⟨l, hkk.symm, hc'.trans h⟩
          have HKK := Lib.hid hkk
          clear hkk hc'
          by_cases hcb : c = b
          · have hq0 : q = 0 := hzz.2 hcb
            clear hzz
            have hqz : (q : Int) = 0 := by omega
            clear hq0
            subst hcb
            go_wp2_with fail
            refine wp_region_held_drew (S := (fun w' => Own w' w.heap.size 3 1 A1 s.length c1 (ints L) ∧ Below w.heap.size w w')) (by kernel_rfl) ?_ (fun hHeld => ?_)
            · (try dsimp only); (first | exact ⟨Own_drew ho2 hbw2.size, hbw2.drew⟩ | exact ⟨ho2, hbw2⟩)
            refine take_move 0 (Operand.tmp 4) rfl rfl (by first | exact .inl rfl | exact .inr rfl) rfl (by kernel_rfl) (by kernel_rfl) (by kernel_rfl) (fun _ _ _ h => h) (by assumption) ?_
            simp only [List.setIfInBounds_toArray, List.set_cons_zero, List.set_cons_succ]
            refine take_op (v := ?vu3x1) 1 (Op.binOp BinOp.gtr 3 (Operand.tmp 27) (Operand.const (Value.int IntKind.i64 0)) 3) 4 rfl rfl rfl rfl rfl (by kernel_rfl) (by kernel_rfl) (by kernel_rfl) (fun _ _ _ h => h) ?yu3x1 (by assumption) ?ru3x1
            case yu3x1 => (intro w' hSw; (try dsimp only at hSw); go_simp; try (with_reducible rfl))
            simp only [List.setIfInBounds_toArray, List.set_cons_zero, List.set_cons_succ]
            refine take_move 2 (Operand.tmp 28) rfl rfl (by first | exact .inl rfl | exact .inr rfl) rfl (by kernel_rfl) (by kernel_rfl) (by kernel_rfl) (fun _ _ _ h => h) (by assumption) ?_
            simp only [List.setIfInBounds_toArray, List.set_cons_zero, List.set_cons_succ]
            refine take_move 3 (Operand.tmp 0) rfl rfl (by first | exact .inl rfl | exact .inr rfl) rfl (by kernel_rfl) (by kernel_rfl) (by kernel_rfl) (fun _ _ _ h => h) (by assumption) ?_
            simp only [List.setIfInBounds_toArray, List.set_cons_zero, List.set_cons_succ]
            refine take_move 4 (Operand.tmp 4) rfl rfl (by first | exact .inl rfl | exact .inr rfl) rfl (by kernel_rfl) (by kernel_rfl) (by kernel_rfl) (fun _ _ _ h => h) (by assumption) ?_
            simp only [List.setIfInBounds_toArray, List.set_cons_zero, List.set_cons_succ]
            refine take_op (v := ?vu3x5) 5 (Op.binOp BinOp.sub 3 (Operand.tmp 31) (Operand.const (Value.int IntKind.i64 1)) 3) 3 rfl rfl rfl rfl rfl (by kernel_rfl) (by kernel_rfl) (by kernel_rfl) (fun _ _ _ h => h) ?yu3x5 (by assumption) ?ru3x5
            case yu3x5 => (intro w' hSw; (try dsimp only at hSw); go_simp; try (with_reducible rfl))
            simp only [List.setIfInBounds_toArray, List.set_cons_zero, List.set_cons_succ]
            refine take_op (v := ?vu3x6) 6 (Op.index 9 (Operand.tmp 30) (Operand.tmp 32)) 5 rfl rfl rfl rfl rfl (by kernel_rfl) (by kernel_rfl) (by kernel_rfl) (fun _ _ _ h => h) ?yu3x6 (by assumption) ?ru3x6
            case yu3x6 => (intro w' hSw; (try dsimp only at hSw); go_simp; try (with_reducible rfl))
            simp only [List.setIfInBounds_toArray, List.set_cons_zero, List.set_cons_succ]
            refine take_move 7 (Operand.tmp 0) rfl rfl (by first | exact .inl rfl | exact .inr rfl) rfl (by kernel_rfl) (by kernel_rfl) (by kernel_rfl) (fun _ _ _ h => h) (by assumption) ?_
            simp only [List.setIfInBounds_toArray, List.set_cons_zero, List.set_cons_succ]
            refine take_move 8 (Operand.tmp 4) rfl rfl (by first | exact .inl rfl | exact .inr rfl) rfl (by kernel_rfl) (by kernel_rfl) (by kernel_rfl) (fun _ _ _ h => h) (by assumption) ?_
            simp only [List.setIfInBounds_toArray, List.set_cons_zero, List.set_cons_succ]
            refine take_op (v := ?vu3x9) 9 (Op.index 9 (Operand.tmp 34) (Operand.tmp 35)) 5 rfl rfl rfl rfl rfl (by kernel_rfl) (by kernel_rfl) (by kernel_rfl) (fun _ _ _ h => h) ?yu3x9 (by assumption) ?ru3x9
            case yu3x9 => (intro w' hSw; (try dsimp only at hSw); go_simp; try (with_reducible rfl))
            simp only [List.setIfInBounds_toArray, List.set_cons_zero, List.set_cons_succ]
            refine take_op (v := ?vu3x10) 10 (Op.binOp BinOp.eql 5 (Operand.tmp 33) (Operand.tmp 36) 5) 4 rfl rfl rfl rfl rfl (by kernel_rfl) (by kernel_rfl) (by kernel_rfl) (fun _ _ _ h => h) ?yu3x10 (by assumption) ?ru3x10
            case yu3x10 => (intro w' hSw; (try dsimp only at hSw); go_simp; try (with_reducible rfl))
            simp only [List.setIfInBounds_toArray, List.set_cons_zero, List.set_cons_succ]
            refine take_op (v := ?vu3x11) 11 (Op.pick (Operand.tmp 29) (Operand.tmp 37) (Operand.const (Value.bool false))) 4 rfl rfl rfl rfl rfl (by kernel_rfl) (by kernel_rfl) (by kernel_rfl) (fun _ _ _ h => h) ?yu3x11 (by assumption) ?ru3x11
            case yu3x11 => (intro w' hSw; (try dsimp only at hSw); go_simp; try (with_reducible rfl))
            simp only [List.setIfInBounds_toArray, List.set_cons_zero, List.set_cons_succ]
            refine take_move 12 (Operand.tmp 38) rfl rfl (by first | exact .inl rfl | exact .inr rfl) rfl (by kernel_rfl) (by kernel_rfl) (by kernel_rfl) (fun _ _ _ h => h) (by assumption) ?_
            simp only [List.setIfInBounds_toArray, List.set_cons_zero, List.set_cons_succ]
            refine take_skip 13 rfl rfl rfl (by kernel_rfl) (by kernel_rfl) (by kernel_rfl) (fun _ _ _ h => h) (by assumption) ?_
            simp only [List.setIfInBounds_toArray, List.set_cons_zero, List.set_cons_succ]
            refine take_skip 14 rfl rfl rfl (by kernel_rfl) (by kernel_rfl) (by kernel_rfl) (fun _ _ _ h => h) (by assumption) ?_
            simp only [List.setIfInBounds_toArray, List.set_cons_zero, List.set_cons_succ]
            refine take_skip 15 rfl rfl rfl (by kernel_rfl) (by kernel_rfl) (by kernel_rfl) (fun _ _ _ h => h) (by assumption) ?_
            simp only [List.setIfInBounds_toArray, List.set_cons_zero, List.set_cons_succ]
            refine take_skip 16 rfl rfl rfl (by kernel_rfl) (by kernel_rfl) (by kernel_rfl) (fun _ _ _ h => h) (by assumption) ?_
            simp only [List.setIfInBounds_toArray, List.set_cons_zero, List.set_cons_succ]
            refine take_skip 17 rfl rfl rfl (by kernel_rfl) (by kernel_rfl) (by kernel_rfl) (fun _ _ _ h => h) (by assumption) ?_
            simp only [List.setIfInBounds_toArray, List.set_cons_zero, List.set_cons_succ]
            refine take_skip 18 rfl rfl rfl (by kernel_rfl) (by kernel_rfl) (by kernel_rfl) (fun _ _ _ h => h) (by assumption) ?_
            simp only [List.setIfInBounds_toArray, List.set_cons_zero, List.set_cons_succ]
            refine take_skip 19 rfl rfl rfl (by kernel_rfl) (by kernel_rfl) (by kernel_rfl) (fun _ _ _ h => h) (by assumption) ?_
            simp only [List.setIfInBounds_toArray, List.set_cons_zero, List.set_cons_succ]
            refine take_op (v := ?vu3x20) 20 (Op.pick (Operand.tmp 39) (Operand.const (Value.bool true)) (Operand.tmp 46)) 4 rfl rfl rfl rfl rfl (by kernel_rfl) (by kernel_rfl) (by kernel_rfl) (fun _ _ _ h => h) ?yu3x20 (by assumption) ?ru3x20
            case yu3x20 => (intro w' hSw; (try dsimp only at hSw); go_simp; try (with_reducible rfl))
            simp only [List.setIfInBounds_toArray, List.set_cons_zero, List.set_cons_succ]
            refine take_op (v := ?vu3x21) 21 (Op.assign (Operand.tmp 47)) 4 rfl rfl rfl rfl rfl (by kernel_rfl) (by kernel_rfl) (by kernel_rfl) (fun _ _ _ h => h) ?yu3x21 (by assumption) ?ru3x21
            case yu3x21 => (intro w' hSw; (try dsimp only at hSw); go_simp; try (with_reducible rfl))
            simp only [List.setIfInBounds_toArray, List.set_cons_zero, List.set_cons_succ]
            refine wpAnyH_done (by kernel_rfl) ?_ _
            obtain ⟨ho3, hbw3⟩ := hHeld
            obtain ⟨bb, o, hA, hbl, hcell⟩ := rd_ints ho3.rd (by omega)
            subst hA
            have d0 := hcell k (by rw [HLL.out]; exact hlt)
            rw [HG.out, hqz] at d0
            rw [hqz] at hnn
            clear hcell hbl
            rcases hnn with hnn | hnn
            · subst hnn
              go_wp2
              go_roundw
              case rel => exact ⟨k + 1, by omega, by go_num, ho3, hbw3⟩
              case measure => first | (simp [intOf]; done) | (simp [intOf]; omega)
            · subst hnn
              go_wp2
              go_roundw
              case rel => exact ⟨k + 1, by omega, by go_num, ho3, hbw3⟩
              case measure => first | (simp [intOf]; done) | (simp [intOf]; omega)
          · have hq0 : ¬ q = 0 := fun e => hcb (hzz.1 e)
            have hcn : ¬ c.toNat = b.toNat := fun e => hcb (UInt8.toNat_inj.1 e)
            have hcI : ((c.toNat : Int) == (b.toNat : Int)) = false := by rw [beq_eq_false_iff_ne]; omega
            have hcN : (c.toNat == b.toNat) = false := by rw [beq_eq_false_iff_ne]; exact hcn
            have hqI : ((q : Int) == 0) = false := by rw [beq_eq_false_iff_ne]; omega
            have hqI2 : ¬ (q : Int) = 0 := by omega
            clear hzz hcb
            go_wp2_with fail
            refine wp_region_held_drew (S := (fun w' => Own w' w.heap.size 3 1 A1 s.length c1 (ints L) ∧ Below w.heap.size w w')) (by kernel_rfl) ?_ (fun hHeld => ?_)
            · (try dsimp only); (first | exact ⟨Own_drew ho2 hbw2.size, hbw2.drew⟩ | exact ⟨ho2, hbw2⟩)
            refine take_move 0 (Operand.tmp 4) rfl rfl (by first | exact .inl rfl | exact .inr rfl) rfl (by kernel_rfl) (by kernel_rfl) (by kernel_rfl) (fun _ _ _ h => h) (by assumption) ?_
            simp only [List.setIfInBounds_toArray, List.set_cons_zero, List.set_cons_succ]
            refine take_op (v := ?vu4x1) 1 (Op.binOp BinOp.gtr 3 (Operand.tmp 27) (Operand.const (Value.int IntKind.i64 0)) 3) 4 rfl rfl rfl rfl rfl (by kernel_rfl) (by kernel_rfl) (by kernel_rfl) (fun _ _ _ h => h) ?yu4x1 (by assumption) ?ru4x1
            case yu4x1 => (intro w' hSw; (try dsimp only at hSw); go_simp; try (with_reducible rfl))
            simp only [List.setIfInBounds_toArray, List.set_cons_zero, List.set_cons_succ]
            refine take_move 2 (Operand.tmp 28) rfl rfl (by first | exact .inl rfl | exact .inr rfl) rfl (by kernel_rfl) (by kernel_rfl) (by kernel_rfl) (fun _ _ _ h => h) (by assumption) ?_
            simp only [List.setIfInBounds_toArray, List.set_cons_zero, List.set_cons_succ]
            refine take_move 3 (Operand.tmp 0) rfl rfl (by first | exact .inl rfl | exact .inr rfl) rfl (by kernel_rfl) (by kernel_rfl) (by kernel_rfl) (fun _ _ _ h => h) (by assumption) ?_
            simp only [List.setIfInBounds_toArray, List.set_cons_zero, List.set_cons_succ]
            refine take_move 4 (Operand.tmp 4) rfl rfl (by first | exact .inl rfl | exact .inr rfl) rfl (by kernel_rfl) (by kernel_rfl) (by kernel_rfl) (fun _ _ _ h => h) (by assumption) ?_
            simp only [List.setIfInBounds_toArray, List.set_cons_zero, List.set_cons_succ]
            refine take_op (v := ?vu4x5) 5 (Op.binOp BinOp.sub 3 (Operand.tmp 31) (Operand.const (Value.int IntKind.i64 1)) 3) 3 rfl rfl rfl rfl rfl (by kernel_rfl) (by kernel_rfl) (by kernel_rfl) (fun _ _ _ h => h) ?yu4x5 (by assumption) ?ru4x5
            case yu4x5 => (intro w' hSw; (try dsimp only at hSw); go_simp; try (with_reducible rfl))
            simp only [List.setIfInBounds_toArray, List.set_cons_zero, List.set_cons_succ]
            refine take_op (v := ?vu4x6) 6 (Op.index 9 (Operand.tmp 30) (Operand.tmp 32)) 5 rfl rfl rfl rfl rfl (by kernel_rfl) (by kernel_rfl) (by kernel_rfl) (fun _ _ _ h => h) ?yu4x6 (by assumption) ?ru4x6
            case yu4x6 => (intro w' hSw; (try dsimp only at hSw); go_simp; try (with_reducible rfl))
            simp only [List.setIfInBounds_toArray, List.set_cons_zero, List.set_cons_succ]
            refine take_move 7 (Operand.tmp 0) rfl rfl (by first | exact .inl rfl | exact .inr rfl) rfl (by kernel_rfl) (by kernel_rfl) (by kernel_rfl) (fun _ _ _ h => h) (by assumption) ?_
            simp only [List.setIfInBounds_toArray, List.set_cons_zero, List.set_cons_succ]
            refine take_move 8 (Operand.tmp 4) rfl rfl (by first | exact .inl rfl | exact .inr rfl) rfl (by kernel_rfl) (by kernel_rfl) (by kernel_rfl) (fun _ _ _ h => h) (by assumption) ?_
            simp only [List.setIfInBounds_toArray, List.set_cons_zero, List.set_cons_succ]
            refine take_op (v := ?vu4x9) 9 (Op.index 9 (Operand.tmp 34) (Operand.tmp 35)) 5 rfl rfl rfl rfl rfl (by kernel_rfl) (by kernel_rfl) (by kernel_rfl) (fun _ _ _ h => h) ?yu4x9 (by assumption) ?ru4x9
            case yu4x9 => (intro w' hSw; (try dsimp only at hSw); go_simp; try (with_reducible rfl))
            simp only [List.setIfInBounds_toArray, List.set_cons_zero, List.set_cons_succ]
            refine take_op (v := ?vu4x10) 10 (Op.binOp BinOp.eql 5 (Operand.tmp 33) (Operand.tmp 36) 5) 4 rfl rfl rfl rfl rfl (by kernel_rfl) (by kernel_rfl) (by kernel_rfl) (fun _ _ _ h => h) ?yu4x10 (by assumption) ?ru4x10
            case yu4x10 => (intro w' hSw; (try dsimp only at hSw); go_simp; try (with_reducible rfl))
            simp only [List.setIfInBounds_toArray, List.set_cons_zero, List.set_cons_succ]
            refine take_op (v := ?vu4x11) 11 (Op.pick (Operand.tmp 29) (Operand.tmp 37) (Operand.const (Value.bool false))) 4 rfl rfl rfl rfl rfl (by kernel_rfl) (by kernel_rfl) (by kernel_rfl) (fun _ _ _ h => h) ?yu4x11 (by assumption) ?ru4x11
            case yu4x11 => (intro w' hSw; (try dsimp only at hSw); go_simp; try (with_reducible rfl))
            simp only [List.setIfInBounds_toArray, List.set_cons_zero, List.set_cons_succ]
            refine take_move 12 (Operand.tmp 38) rfl rfl (by first | exact .inl rfl | exact .inr rfl) rfl (by kernel_rfl) (by kernel_rfl) (by kernel_rfl) (fun _ _ _ h => h) (by assumption) ?_
            simp only [List.setIfInBounds_toArray, List.set_cons_zero, List.set_cons_succ]
            refine take_move 13 (Operand.tmp 4) rfl rfl (by first | exact .inl rfl | exact .inr rfl) rfl (by kernel_rfl) (by kernel_rfl) (by kernel_rfl) (fun _ _ _ h => h) (by assumption) ?_
            simp only [List.setIfInBounds_toArray, List.set_cons_zero, List.set_cons_succ]
            refine take_op (v := ?vu4x14) 14 (Op.binOp BinOp.eql 3 (Operand.tmp 40) (Operand.const (Value.int IntKind.i64 0)) 3) 4 rfl rfl rfl rfl rfl (by kernel_rfl) (by kernel_rfl) (by kernel_rfl) (fun _ _ _ h => h) ?yu4x14 (by assumption) ?ru4x14
            case yu4x14 => (intro w' hSw; (try dsimp only at hSw); go_simp; try (with_reducible rfl))
            simp only [List.setIfInBounds_toArray, List.set_cons_zero, List.set_cons_succ]
            refine take_move 15 (Operand.tmp 41) rfl rfl (by first | exact .inl rfl | exact .inr rfl) rfl (by kernel_rfl) (by kernel_rfl) (by kernel_rfl) (fun _ _ _ h => h) (by assumption) ?_
            simp only [List.setIfInBounds_toArray, List.set_cons_zero, List.set_cons_succ]
            refine take_skip 16 rfl rfl rfl (by kernel_rfl) (by kernel_rfl) (by kernel_rfl) (fun _ _ _ h => h) (by assumption) ?_
            simp only [List.setIfInBounds_toArray, List.set_cons_zero, List.set_cons_succ]
            refine take_skip 17 rfl rfl rfl (by kernel_rfl) (by kernel_rfl) (by kernel_rfl) (fun _ _ _ h => h) (by assumption) ?_
            simp only [List.setIfInBounds_toArray, List.set_cons_zero, List.set_cons_succ]
            refine take_skip 18 rfl rfl rfl (by kernel_rfl) (by kernel_rfl) (by kernel_rfl) (fun _ _ _ h => h) (by assumption) ?_
            simp only [List.setIfInBounds_toArray, List.set_cons_zero, List.set_cons_succ]
            refine take_op (v := ?vu4x19) 19 (Op.pick (Operand.tmp 42) (Operand.tmp 45) (Operand.const (Value.bool false))) 4 rfl rfl rfl rfl rfl (by kernel_rfl) (by kernel_rfl) (by kernel_rfl) (fun _ _ _ h => h) ?yu4x19 (by assumption) ?ru4x19
            case yu4x19 => (intro w' hSw; (try dsimp only at hSw); go_simp; try (with_reducible rfl))
            simp only [List.setIfInBounds_toArray, List.set_cons_zero, List.set_cons_succ]
            refine take_op (v := ?vu4x20) 20 (Op.pick (Operand.tmp 39) (Operand.const (Value.bool true)) (Operand.tmp 46)) 4 rfl rfl rfl rfl rfl (by kernel_rfl) (by kernel_rfl) (by kernel_rfl) (fun _ _ _ h => h) ?yu4x20 (by assumption) ?ru4x20
            case yu4x20 => (intro w' hSw; (try dsimp only at hSw); go_simp; try (with_reducible rfl))
            simp only [List.setIfInBounds_toArray, List.set_cons_zero, List.set_cons_succ]
            refine take_op (v := ?vu4x21) 21 (Op.assign (Operand.tmp 47)) 4 rfl rfl rfl rfl rfl (by kernel_rfl) (by kernel_rfl) (by kernel_rfl) (fun _ _ _ h => h) ?yu4x21 (by assumption) ?ru4x21
            case yu4x21 => (intro w' hSw; (try dsimp only at hSw); go_simp; try (with_reducible rfl))
            simp only [List.setIfInBounds_toArray, List.set_cons_zero, List.set_cons_succ]
            refine wpAnyH_done (by kernel_rfl) ?_ _
            obtain ⟨ho3, hbw3⟩ := hHeld
            obtain ⟨bb, o, hA, hbl, hcell⟩ := rd_ints ho3.rd (by omega)
            subst hA
            have d0 := hcell k (by rw [HLL.out]; exact hlt)
            rw [HG.out] at d0
            clear hcell hbl
            rcases hnn with hnn | hnn
            · subst hnn
              go_wp2
              go_roundw
              case rel => exact ⟨k + 1, by omega, by go_num, ho3, hbw3⟩
              case measure => first | (simp [intOf]; done) | (simp [intOf]; omega)
            · subst hnn
              go_wp2
              go_roundw
              case rel => exact ⟨k + 1, by omega, by go_num, ho3, hbw3⟩
              case measure => first | (simp [intOf]; done) | (simp [intOf]; omega)
      · go_wp2_with fail
        refine (awake_any _).mono ?_
        rintro e w9 ⟨rfl, hb9⟩
        go_wp2
        go_ret
        exact ⟨rfl, hbw.trans (hb9.mono hbw.size)⟩
theorem runs_lawB (s : ByteArray) (w : World) (hs : s.size ≤ maxLen) :
    Calls Try.prog 9 #[.string s] w fun e w' => e = .returned (.bool true) ∧ Below w.heap.size w w' := by
  obtain ⟨m, rfl, hm⟩ := str_of s
  exact runs_law m w (by omega)
end FrontW
end Go.Proofs.Ytehlgpfkpagaeaa
