/- The law of package buff on parts: its walk. -/
import Derived.Test.YtehlgpfkpagaeaaBufL
import Derived.Test.YtehlgpfkpagaeaaBufQ
namespace Go.Proofs.Ytehlgpfkpagaeaa
set_option linter.unusedVariables false
set_option linter.unusedSimpArgs false
set_option linter.unnecessarySimpa false
open Go.RowKit Go.ChangeShapes Go.WideShapes
namespace RecW

set_option maxRecDepth 100000 in
set_option maxHeartbeats 8000000 in
theorem chunks_law (A : Option Addr) (n c : Nat) (l : List Rc) (t : Int) (w : World) (h : Rd w w.heap.size 3 A n (rcells l)) (hnc : n ≤ c) (hc : c ≤ maxLen) (hl : ∀ x ∈ l, RcOk x) :
    Calls Try.prog 12 #[.slice A n c, .int .i64 t] w fun e w' => e = .returned (.bool true) ∧ Below w.heap.size w w' := by
  unfold maxLen at hc
  have hls : ∀ r ∈ l, r.2.2.length ≤ 9223372036854775807 := fun r hr => (hl r hr).2.2
  have HLS := Lib.hid hls
  clear hls hl
  by_cases hf : fewB l = true
  · have HF := Lib.hid hf
    have hn : n ≤ 200 := by
      have := HF.out
      simp only [fewB, Bool.and_eq_true, decide_eq_true_eq] at this
      rw [rd_rlen h] at this
      exact this.1
    clear hf
    have HB := Below.refl w.heap.size w
    go_enter Try.func12, Try.ntmps12
    go_wp2_with fail
    refine (few_any A n c l true HF.out _ ((h.below HB).more HB.size) (by omega) HLS.out).mono ?_
    rintro e w1 ⟨rfl, hb1⟩
    have z1 := hb1.size; replace HB := HB.trans (hb1.mono HB.size); have zz1 := HB.size
    clear hb1
    go_wp2_with fail
    obtain ⟨q, hq⟩ : ∃ q, chunksV t l = q := ⟨_, rfl⟩
    have C := chunks_any A n c l t _ ((h.below HB).more HB.size) (by omega) hnc hc
    rw [hq] at C
    have HQ := Lib.hid hq
    clear hq
    refine C.mono ?_
    clear C
    rintro e w2 ⟨A2, n2, c2, rfl, hn2, hc2, r2, hb2⟩
    have z2 := hb2.size; replace HB := HB.trans (hb2.mono HB.size); have zz2 := HB.size
    clear hb2
    by_cases h0 : q.2 = 0
    · have hq1 : (q.2 != 0) = false := by simp [h0]
      obtain ⟨y1, y2, ht1, ht2⟩ := chunksV_yes (show (chunksV t l).2 = 0 by rw [HQ.out]; exact h0)
      rw [HQ.out] at y1
      have GOOD := Lib.hid (fun i h => chunksN_good ht1 ht2 y2 i h)
      have FLAT := Lib.hid (chunksN_flat t l)
      rw [y1] at r2
      generalize chunksN t l = cs at *
      have hlen := r2.len
      have hl1 : cs.length ≤ n2 := by omega
      have hl2 : n2 ≤ cs.length := by omega
      have hfl : ∀ k, (cs.take k).flatten.length ≤ 200 := fun k => by
        have h1 := flat_take_len cs k
        rw [FLAT.out, rd_rlen h] at h1
        omega
      have HFL := Lib.hid hfl
      unfold maxLen at hc2
      clear y1 y2 h0 hlen hfl
      go_wp2_with fail
      go_loopw [7, 8] (fun all i wr => ∃ (k : Nat) (A3 : Option Addr) (n3 c3 : Nat), k ≤ n2 ∧ i = .int .i64 k ∧ all = .slice A3 n3 c3 ∧ Own wr w2.heap.size 50 3 A3 n3 c3 (rcells (cs.take k).flatten) ∧ Below w2.heap.size w2 wr) (fun _ i _ => n2 - (intOf i).toNat)
      case atStart => exact ⟨0, none, 0, 0, by omega, rfl, rfl, Own.nil _ _ _ _, Below.refl _ _⟩
      case round =>
        obtain ⟨k, A3, n3, c3, hk, rfl, rfl, o3, hbw⟩ := hrel
        have hzw := hbw.size
        have hn3 : n3 ≤ 200 := by have h1 := o3.len; rw [rcells_len] at h1; have := HFL.out k; omega
        by_cases hlt : k < n2
        · have hkl : k < cs.length := by omega
          obtain ⟨b, o, hA2, hb, hcc⟩ := r2.at_ (by omega)
          obtain ⟨X, m, cm, d0, hm1, hm2, rx⟩ := hcc k hkl
          subst hA2
          have hxl := rd_rlen rx
          obtain ⟨g1, g2, g3, g4⟩ := GOOD.out k hkl
          have hsn : (cs.take (k + 1)).flatten = (cs.take k).flatten ++ cs[k] := by rw [List.take_succ_eq_append_getElem hkl, List.flatten_append, List.flatten_cons, List.flatten_nil, List.append_nil]
          have hm3 : n3 + m ≤ 200 := by
            have h1 := HFL.out (k + 1)
            rw [hsn, List.length_append, hxl] at h1
            have h2 := o3.len
            rw [rcells_len] at h2
            omega
          obtain ⟨m', rfl⟩ : ∃ m', m = m' + 1 := ⟨m - 1, by omega⟩
          rw [hxl] at g3
          rw [show m' + 1 - 1 = m' from rfl] at g3
          have HSN := Lib.hid hsn
          have HG2 := Lib.hid g2
          have D0 := Lib.hid d0
          have keepS : ∀ w', Below w2.heap.size w2 w' → w'.cell? ⟨b, o + k, none⟩ = some (.slice X (m' + 1) cm) := fun w' hb' => (hb'.cell (p := ⟨b, o + k, none⟩) hb).trans D0.out
          have KEEP := Lib.hid keepS
          obtain ⟨ie, _, hie, _, hsz, _⟩ := El_rec.inf
          have hsl := run_slice_upto (P := Try.prog) Try.underlying48 hie (by rw [hsz]; exact rx) cm m' (by omega) hm1
          have rh := rx.take m' (by omega)
          rw [← rcells_take] at rh
          have hw1 : IntKind.i64.wrap (m' : Int) = (m' : Int) := IntWalk.i64_in _ (by omega)
          have hm0 : (0 : Int) ≤ (m' : Int) := by omega
          have hmc : (m' : Int) ≤ (cm : Int) := by omega
          have hw2 : IntKind.i64.wrap ((n2 : Int) - 1) = (n2 : Int) - 1 := IntWalk.i64_in _ (by omega)
          have hk0 : (0 : Int) ≤ (k : Int) := by omega
          have hkn : (k : Int) < (n2 : Int) := by omega
          have hge : ¬ t ≤ (rawN (cs[k].take m') : Int) := by omega
          have hgd : decide (t ≤ (rawN (cs[k].take m') : Int)) = false := decide_eq_false hge
          have G4 := Lib.hid g4
          clear hcc hxl g1 g2 g3 g4 d0 keepS hsn hge
          by_cases hlast : k + 1 = n2
          · have hlD : decide ((k : Int) < (n2 : Int) - 1) = false := by simp; omega
            have hlI : ¬ (k : Int) < (n2 : Int) - 1 := by omega
            clear hlast
            have HW := hbw
            go_wp2_with fail
            refine wp_region_held_drew (S := (fun w' => w'.cell? ⟨b, o + k, none⟩ = some (.slice X (m' + 1) cm))) (by kernel_rfl) ?_ (fun hHeld => ?_)
            · replace HW := Below.drew HW; replace o3 := Own.drew o3; (try dsimp only); exact KEEP.out _ HW
            replace HW := Below.drew HW
            replace o3 := Own.drew o3
            have zHW := HW.size
            refine take_move 0 (Operand.tmp 5) rfl rfl (by first | exact .inl rfl | exact .inr rfl) rfl (by kernel_rfl) (by kernel_rfl) (by kernel_rfl) (fun _ _ _ h => h) (by assumption) ?_
            simp only [List.setIfInBounds_toArray, List.set_cons_zero, List.set_cons_succ]
            refine take_move 1 (Operand.tmp 8) rfl rfl (by first | exact .inl rfl | exact .inr rfl) rfl (by kernel_rfl) (by kernel_rfl) (by kernel_rfl) (fun _ _ _ h => h) (by assumption) ?_
            simp only [List.setIfInBounds_toArray, List.set_cons_zero, List.set_cons_succ]
            refine take_op (v := ?vu1x2) 2 (Op.indexAddr 56 (Operand.tmp 33) (Operand.tmp 34)) 0 rfl rfl rfl rfl rfl (by kernel_rfl) (by kernel_rfl) (by kernel_rfl) (fun _ _ _ h => h) ?yu1x2 (by assumption) ?ru1x2
            case yu1x2 => (intro w' hSw; (try dsimp only at hSw); go_simp; try (with_reducible rfl))
            simp only [List.setIfInBounds_toArray, List.set_cons_zero, List.set_cons_succ]
            refine take_op (v := ?vu1x3) 3 (Op.load 48 (Operand.tmp 35)) 48 rfl rfl rfl rfl rfl (by kernel_rfl) (by kernel_rfl) (by kernel_rfl) (fun _ _ _ h => h) ?yu1x3 (by assumption) ?ru1x3
            case yu1x3 => (intro w' hSw; (try dsimp only at hSw); go_simp; try (with_reducible rfl))
            simp only [List.setIfInBounds_toArray, List.set_cons_zero, List.set_cons_succ]
            refine take_op (v := ?vu1x4) 4 (Op.call { callee := Callee.builtin Builtin.len, args := #[Operand.tmp 36], argTypes := #[48] }) 3 rfl rfl rfl rfl rfl (by kernel_rfl) (by kernel_rfl) (by kernel_rfl) (fun _ _ _ h => h) ?yu1x4 (by assumption) ?ru1x4
            case yu1x4 => (intro w' hSw; (try dsimp only at hSw); go_simp; try (with_reducible rfl))
            simp only [List.setIfInBounds_toArray, List.set_cons_zero, List.set_cons_succ]
            refine take_op (v := ?vu1x5) 5 (Op.binOp BinOp.eql 3 (Operand.tmp 37) (Operand.const (Value.int IntKind.i64 0)) 3) 4 rfl rfl rfl rfl rfl (by kernel_rfl) (by kernel_rfl) (by kernel_rfl) (fun _ _ _ h => h) ?yu1x5 (by assumption) ?ru1x5
            case yu1x5 => (intro w' hSw; (try dsimp only at hSw); go_simp; try (with_reducible rfl))
            simp only [List.setIfInBounds_toArray, List.set_cons_zero, List.set_cons_succ]
            refine take_move 6 (Operand.tmp 38) rfl rfl (by first | exact .inl rfl | exact .inr rfl) rfl (by kernel_rfl) (by kernel_rfl) (by kernel_rfl) (fun _ _ _ h => h) (by assumption) ?_
            simp only [List.setIfInBounds_toArray, List.set_cons_zero, List.set_cons_succ]
            refine take_move 7 (Operand.tmp 5) rfl rfl (by first | exact .inl rfl | exact .inr rfl) rfl (by kernel_rfl) (by kernel_rfl) (by kernel_rfl) (fun _ _ _ h => h) (by assumption) ?_
            simp only [List.setIfInBounds_toArray, List.set_cons_zero, List.set_cons_succ]
            refine take_move 8 (Operand.tmp 8) rfl rfl (by first | exact .inl rfl | exact .inr rfl) rfl (by kernel_rfl) (by kernel_rfl) (by kernel_rfl) (fun _ _ _ h => h) (by assumption) ?_
            simp only [List.setIfInBounds_toArray, List.set_cons_zero, List.set_cons_succ]
            refine take_op (v := ?vu1x9) 9 (Op.indexAddr 56 (Operand.tmp 40) (Operand.tmp 41)) 0 rfl rfl rfl rfl rfl (by kernel_rfl) (by kernel_rfl) (by kernel_rfl) (fun _ _ _ h => h) ?yu1x9 (by assumption) ?ru1x9
            case yu1x9 => (intro w' hSw; (try dsimp only at hSw); go_simp; try (with_reducible rfl))
            simp only [List.setIfInBounds_toArray, List.set_cons_zero, List.set_cons_succ]
            refine take_op (v := ?vu1x10) 10 (Op.load 48 (Operand.tmp 42)) 48 rfl rfl rfl rfl rfl (by kernel_rfl) (by kernel_rfl) (by kernel_rfl) (fun _ _ _ h => h) ?yu1x10 (by assumption) ?ru1x10
            case yu1x10 => (intro w' hSw; (try dsimp only at hSw); go_simp; try (with_reducible rfl))
            simp only [List.setIfInBounds_toArray, List.set_cons_zero, List.set_cons_succ]
            refine wpAnyH_ready (rs := [11]) (by kernel_rfl) (by simp) (AllReadyH.cons rfl (fun K11 hK11 => ?ku1x11) AllReadyH.nil)
            refine take_calls 11 54 [Operand.tmp 43] #[48] rfl rfl (by kernel_rfl) (fun args w => run_enter Try.func54 (by kernel_rfl) rfl args w) ?_
            refine (asV (row_any X (m' + 1) cm cs[k] _ ((rx.below HW).more HW.size) (by omega)) (congrArg (Value.int .i64) HG2.out)).mono ?_
            rintro e w11 ⟨rfl, hb11⟩
            refine ⟨_, rfl, ?_⟩
            have z11 := hb11.size
            try simp only [World.size_drew] at z11
            replace HW := HW.trans (hb11.mono HW.size)
            have zHW11 := HW.size
            replace o3 := Own.below o3 hb11
            refine hK11.out _ _ ?su1x11 (fun hHeld => ?ru1x11)
            case su1x11 => ((try dsimp only); exact KEEP.out _ HW)
            try simp only [List.setIfInBounds_toArray, List.set_cons_zero, List.set_cons_succ]
            refine take_op (v := ?vu1x12) 12 (Op.binOp BinOp.neq 36 (Operand.tmp 44) (Operand.const (Value.int IntKind.i64 0)) 36) 4 rfl rfl rfl rfl rfl (by kernel_rfl) (by kernel_rfl) (by kernel_rfl) (fun _ _ _ h => h) ?yu1x12 (by assumption) ?ru1x12
            case yu1x12 => (intro w' hSw; (try dsimp only at hSw); go_simp; try (with_reducible rfl))
            simp only [List.setIfInBounds_toArray, List.set_cons_zero, List.set_cons_succ]
            refine take_op (v := ?vu1x13) 13 (Op.pick (Operand.tmp 39) (Operand.const (Value.bool true)) (Operand.tmp 45)) 4 rfl rfl rfl rfl rfl (by kernel_rfl) (by kernel_rfl) (by kernel_rfl) (fun _ _ _ h => h) ?yu1x13 (by assumption) ?ru1x13
            case yu1x13 => (intro w' hSw; (try dsimp only at hSw); go_simp; try (with_reducible rfl))
            simp only [List.setIfInBounds_toArray, List.set_cons_zero, List.set_cons_succ]
            refine take_move 14 (Operand.tmp 46) rfl rfl (by first | exact .inl rfl | exact .inr rfl) rfl (by kernel_rfl) (by kernel_rfl) (by kernel_rfl) (fun _ _ _ h => h) (by assumption) ?_
            simp only [List.setIfInBounds_toArray, List.set_cons_zero, List.set_cons_succ]
            refine take_move 15 (Operand.tmp 5) rfl rfl (by first | exact .inl rfl | exact .inr rfl) rfl (by kernel_rfl) (by kernel_rfl) (by kernel_rfl) (fun _ _ _ h => h) (by assumption) ?_
            simp only [List.setIfInBounds_toArray, List.set_cons_zero, List.set_cons_succ]
            refine take_move 16 (Operand.tmp 8) rfl rfl (by first | exact .inl rfl | exact .inr rfl) rfl (by kernel_rfl) (by kernel_rfl) (by kernel_rfl) (fun _ _ _ h => h) (by assumption) ?_
            simp only [List.setIfInBounds_toArray, List.set_cons_zero, List.set_cons_succ]
            refine take_op (v := ?vu1x17) 17 (Op.indexAddr 56 (Operand.tmp 48) (Operand.tmp 49)) 0 rfl rfl rfl rfl rfl (by kernel_rfl) (by kernel_rfl) (by kernel_rfl) (fun _ _ _ h => h) ?yu1x17 (by assumption) ?ru1x17
            case yu1x17 => (intro w' hSw; (try dsimp only at hSw); go_simp; try (with_reducible rfl))
            simp only [List.setIfInBounds_toArray, List.set_cons_zero, List.set_cons_succ]
            refine take_op (v := ?vu1x18) 18 (Op.load 48 (Operand.tmp 50)) 48 rfl rfl rfl rfl rfl (by kernel_rfl) (by kernel_rfl) (by kernel_rfl) (fun _ _ _ h => h) ?yu1x18 (by assumption) ?ru1x18
            case yu1x18 => (intro w' hSw; (try dsimp only at hSw); go_simp; try (with_reducible rfl))
            simp only [List.setIfInBounds_toArray, List.set_cons_zero, List.set_cons_succ]
            refine take_move 19 (Operand.tmp 5) rfl rfl (by first | exact .inl rfl | exact .inr rfl) rfl (by kernel_rfl) (by kernel_rfl) (by kernel_rfl) (fun _ _ _ h => h) (by assumption) ?_
            simp only [List.setIfInBounds_toArray, List.set_cons_zero, List.set_cons_succ]
            refine take_move 20 (Operand.tmp 8) rfl rfl (by first | exact .inl rfl | exact .inr rfl) rfl (by kernel_rfl) (by kernel_rfl) (by kernel_rfl) (fun _ _ _ h => h) (by assumption) ?_
            simp only [List.setIfInBounds_toArray, List.set_cons_zero, List.set_cons_succ]
            refine take_op (v := ?vu1x21) 21 (Op.indexAddr 56 (Operand.tmp 52) (Operand.tmp 53)) 0 rfl rfl rfl rfl rfl (by kernel_rfl) (by kernel_rfl) (by kernel_rfl) (fun _ _ _ h => h) ?yu1x21 (by assumption) ?ru1x21
            case yu1x21 => (intro w' hSw; (try dsimp only at hSw); go_simp; try (with_reducible rfl))
            simp only [List.setIfInBounds_toArray, List.set_cons_zero, List.set_cons_succ]
            refine take_op (v := ?vu1x22) 22 (Op.load 48 (Operand.tmp 54)) 48 rfl rfl rfl rfl rfl (by kernel_rfl) (by kernel_rfl) (by kernel_rfl) (fun _ _ _ h => h) ?yu1x22 (by assumption) ?ru1x22
            case yu1x22 => (intro w' hSw; (try dsimp only at hSw); go_simp; try (with_reducible rfl))
            simp only [List.setIfInBounds_toArray, List.set_cons_zero, List.set_cons_succ]
            refine take_op (v := ?vu1x23) 23 (Op.call { callee := Callee.builtin Builtin.len, args := #[Operand.tmp 55], argTypes := #[48] }) 3 rfl rfl rfl rfl rfl (by kernel_rfl) (by kernel_rfl) (by kernel_rfl) (fun _ _ _ h => h) ?yu1x23 (by assumption) ?ru1x23
            case yu1x23 => (intro w' hSw; (try dsimp only at hSw); go_simp; try (with_reducible rfl))
            simp only [List.setIfInBounds_toArray, List.set_cons_zero, List.set_cons_succ]
            refine take_op (v := ?vu1x24) 24 (Op.binOp BinOp.sub 3 (Operand.tmp 56) (Operand.const (Value.int IntKind.i64 1)) 3) 3 rfl rfl rfl rfl rfl (by kernel_rfl) (by kernel_rfl) (by kernel_rfl) (fun _ _ _ h => h) ?yu1x24 (by assumption) ?ru1x24
            case yu1x24 => (intro w' hSw; (try dsimp only at hSw); go_simp; try (with_reducible rfl))
            simp only [List.setIfInBounds_toArray, List.set_cons_zero, List.set_cons_succ]
            refine take_op (v := ?vu1x25) 25 (Op.slice 48 (Operand.tmp 51) none (some (Operand.tmp 57)) none) 48 rfl rfl rfl rfl rfl (by kernel_rfl) (by kernel_rfl) (by kernel_rfl) (fun _ _ _ h => h) ?yu1x25 (by assumption) ?ru1x25
            case yu1x25 => (intro w' hSw; (try dsimp only at hSw); go_simp; try (with_reducible rfl))
            simp only [List.setIfInBounds_toArray, List.set_cons_zero, List.set_cons_succ]
            refine take_move 27 (Operand.tmp 1) rfl rfl (by first | exact .inl rfl | exact .inr rfl) rfl (by kernel_rfl) (by kernel_rfl) (by kernel_rfl) (fun _ _ _ h => h) (by assumption) ?_
            simp only [List.setIfInBounds_toArray, List.set_cons_zero, List.set_cons_succ]
            refine wpAnyH_ready (rs := [26]) (by kernel_rfl) (by simp) (AllReadyH.cons rfl (fun K26 hK26 => ?ku1x26) AllReadyH.nil)
            refine take_calls 26 48 [Operand.tmp 58] #[48] rfl rfl (by kernel_rfl) (fun args w => run_enter Try.func48 (by kernel_rfl) rfl args w) ?_
            refine (raw_any X m' cm (cs[k].take m') _ ((rh.below HW).more HW.size) (by omega)).mono ?_
            rintro e w26 ⟨rfl, hb26⟩
            refine ⟨_, rfl, ?_⟩
            have z26 := hb26.size
            try simp only [World.size_drew] at z26
            replace HW := HW.trans (hb26.mono HW.size)
            have zHW26 := HW.size
            replace o3 := Own.below o3 hb26
            refine hK26.out _ _ ?su1x26 (fun hHeld => ?ru1x26)
            case su1x26 => ((try dsimp only); exact KEEP.out _ HW)
            try simp only [List.setIfInBounds_toArray, List.set_cons_zero, List.set_cons_succ]
            refine take_op (v := ?vu1x28) 28 (Op.binOp BinOp.geq 3 (Operand.tmp 59) (Operand.tmp 60) 3) 4 rfl rfl rfl rfl rfl (by kernel_rfl) (by kernel_rfl) (by kernel_rfl) (fun _ _ _ h => h) ?yu1x28 (by assumption) ?ru1x28
            case yu1x28 => (intro w' hSw; (try dsimp only at hSw); go_simp; try (with_reducible rfl))
            simp only [List.setIfInBounds_toArray, List.set_cons_zero, List.set_cons_succ]
            refine take_op (v := ?vu1x29) 29 (Op.pick (Operand.tmp 47) (Operand.const (Value.bool true)) (Operand.tmp 61)) 4 rfl rfl rfl rfl rfl (by kernel_rfl) (by kernel_rfl) (by kernel_rfl) (fun _ _ _ h => h) ?yu1x29 (by assumption) ?ru1x29
            case yu1x29 => (intro w' hSw; (try dsimp only at hSw); go_simp; try (with_reducible rfl))
            simp only [List.setIfInBounds_toArray, List.set_cons_zero, List.set_cons_succ]
            refine take_move 30 (Operand.tmp 62) rfl rfl (by first | exact .inl rfl | exact .inr rfl) rfl (by kernel_rfl) (by kernel_rfl) (by kernel_rfl) (fun _ _ _ h => h) (by assumption) ?_
            simp only [List.setIfInBounds_toArray, List.set_cons_zero, List.set_cons_succ]
            refine take_move 31 (Operand.tmp 8) rfl rfl (by first | exact .inl rfl | exact .inr rfl) rfl (by kernel_rfl) (by kernel_rfl) (by kernel_rfl) (fun _ _ _ h => h) (by assumption) ?_
            simp only [List.setIfInBounds_toArray, List.set_cons_zero, List.set_cons_succ]
            refine take_move 32 (Operand.tmp 5) rfl rfl (by first | exact .inl rfl | exact .inr rfl) rfl (by kernel_rfl) (by kernel_rfl) (by kernel_rfl) (fun _ _ _ h => h) (by assumption) ?_
            simp only [List.setIfInBounds_toArray, List.set_cons_zero, List.set_cons_succ]
            refine take_op (v := ?vu1x33) 33 (Op.call { callee := Callee.builtin Builtin.len, args := #[Operand.tmp 65], argTypes := #[56] }) 3 rfl rfl rfl rfl rfl (by kernel_rfl) (by kernel_rfl) (by kernel_rfl) (fun _ _ _ h => h) ?yu1x33 (by assumption) ?ru1x33
            case yu1x33 => (intro w' hSw; (try dsimp only at hSw); go_simp; try (with_reducible rfl))
            simp only [List.setIfInBounds_toArray, List.set_cons_zero, List.set_cons_succ]
            refine take_op (v := ?vu1x34) 34 (Op.binOp BinOp.sub 3 (Operand.tmp 66) (Operand.const (Value.int IntKind.i64 1)) 3) 3 rfl rfl rfl rfl rfl (by kernel_rfl) (by kernel_rfl) (by kernel_rfl) (fun _ _ _ h => h) ?yu1x34 (by assumption) ?ru1x34
            case yu1x34 => (intro w' hSw; (try dsimp only at hSw); go_simp; try (with_reducible rfl))
            simp only [List.setIfInBounds_toArray, List.set_cons_zero, List.set_cons_succ]
            refine take_op (v := ?vu1x35) 35 (Op.binOp BinOp.lss 3 (Operand.tmp 64) (Operand.tmp 67) 3) 4 rfl rfl rfl rfl rfl (by kernel_rfl) (by kernel_rfl) (by kernel_rfl) (fun _ _ _ h => h) ?yu1x35 (by assumption) ?ru1x35
            case yu1x35 => (intro w' hSw; (try dsimp only at hSw); go_simp; try (with_reducible rfl))
            simp only [List.setIfInBounds_toArray, List.set_cons_zero, List.set_cons_succ]
            refine take_move 36 (Operand.tmp 68) rfl rfl (by first | exact .inl rfl | exact .inr rfl) rfl (by kernel_rfl) (by kernel_rfl) (by kernel_rfl) (fun _ _ _ h => h) (by assumption) ?_
            simp only [List.setIfInBounds_toArray, List.set_cons_zero, List.set_cons_succ]
            refine take_skip 37 rfl rfl rfl (by kernel_rfl) (by kernel_rfl) (by kernel_rfl) (fun _ _ _ h => h) (by assumption) ?_
            simp only [List.setIfInBounds_toArray, List.set_cons_zero, List.set_cons_succ]
            refine take_skip 38 rfl rfl rfl (by kernel_rfl) (by kernel_rfl) (by kernel_rfl) (fun _ _ _ h => h) (by assumption) ?_
            simp only [List.setIfInBounds_toArray, List.set_cons_zero, List.set_cons_succ]
            refine take_skip 39 rfl rfl rfl (by kernel_rfl) (by kernel_rfl) (by kernel_rfl) (fun _ _ _ h => h) (by assumption) ?_
            simp only [List.setIfInBounds_toArray, List.set_cons_zero, List.set_cons_succ]
            refine take_skip 40 rfl rfl rfl (by kernel_rfl) (by kernel_rfl) (by kernel_rfl) (fun _ _ _ h => h) (by assumption) ?_
            simp only [List.setIfInBounds_toArray, List.set_cons_zero, List.set_cons_succ]
            refine take_skip 41 rfl rfl rfl (by kernel_rfl) (by kernel_rfl) (by kernel_rfl) (fun _ _ _ h => h) (by assumption) ?_
            simp only [List.setIfInBounds_toArray, List.set_cons_zero, List.set_cons_succ]
            refine take_skip 42 rfl rfl rfl (by kernel_rfl) (by kernel_rfl) (by kernel_rfl) (fun _ _ _ h => h) (by assumption) ?_
            simp only [List.setIfInBounds_toArray, List.set_cons_zero, List.set_cons_succ]
            refine take_skip 43 rfl rfl rfl (by kernel_rfl) (by kernel_rfl) (by kernel_rfl) (fun _ _ _ h => h) (by assumption) ?_
            simp only [List.setIfInBounds_toArray, List.set_cons_zero, List.set_cons_succ]
            refine take_op (v := ?vu1x44) 44 (Op.pick (Operand.tmp 69) (Operand.tmp 76) (Operand.const (Value.bool false))) 4 rfl rfl rfl rfl rfl (by kernel_rfl) (by kernel_rfl) (by kernel_rfl) (fun _ _ _ h => h) ?yu1x44 (by assumption) ?ru1x44
            case yu1x44 => (intro w' hSw; (try dsimp only at hSw); go_simp; try (with_reducible rfl))
            simp only [List.setIfInBounds_toArray, List.set_cons_zero, List.set_cons_succ]
            refine take_op (v := ?vu1x45) 45 (Op.pick (Operand.tmp 63) (Operand.const (Value.bool true)) (Operand.tmp 77)) 4 rfl rfl rfl rfl rfl (by kernel_rfl) (by kernel_rfl) (by kernel_rfl) (fun _ _ _ h => h) ?yu1x45 (by assumption) ?ru1x45
            case yu1x45 => (intro w' hSw; (try dsimp only at hSw); go_simp; try (with_reducible rfl))
            simp only [List.setIfInBounds_toArray, List.set_cons_zero, List.set_cons_succ]
            refine wpAnyH_done (by kernel_rfl) ?_ _
            clear hw1 hw2 hsl hgd
            have rx4 := (rx.below HW).more HW.size
            have zHW := HW.size
            go_wp2_with (at_builtin; with_reducible refine wp_append El_rec rfl (s := .tmp 79) (x := .tmp 83) rfl rfl o3 rfl rx4 (rcells_one _) (by unfold maxLen; omega) (by omega) (by omega) ?_; intro A4 c4 w4 o4 hg4 hat4)
            have HW4 := below_grown HW hg4 o3 (Nat.le_refl _)
            go_roundw
            case rel => exact ⟨k + 1, A4, n3 + (m' + 1), c4, by omega, by go_num, rfl, by rw [HSN.out, rcells_append]; exact o4, HW4⟩
            case measure => simp [intOf]; omega
          · have hlD : decide ((k : Int) < (n2 : Int) - 1) = true := by simp; omega
            have hlI : (k : Int) < (n2 : Int) - 1 := by omega
            have hg4 : ¬ (rawN cs[k] : Int) < t := G4.out (by simp; omega)
            have hg4d : decide ((rawN cs[k] : Int) < t) = false := decide_eq_false hg4
            clear hlast
            have HW := hbw
            go_wp2_with fail
            refine wp_region_held_drew (S := (fun w' => w'.cell? ⟨b, o + k, none⟩ = some (.slice X (m' + 1) cm))) (by kernel_rfl) ?_ (fun hHeld => ?_)
            · replace HW := Below.drew HW; replace o3 := Own.drew o3; (try dsimp only); exact KEEP.out _ HW
            replace HW := Below.drew HW
            replace o3 := Own.drew o3
            have zHW := HW.size
            refine take_move 0 (Operand.tmp 5) rfl rfl (by first | exact .inl rfl | exact .inr rfl) rfl (by kernel_rfl) (by kernel_rfl) (by kernel_rfl) (fun _ _ _ h => h) (by assumption) ?_
            simp only [List.setIfInBounds_toArray, List.set_cons_zero, List.set_cons_succ]
            refine take_move 1 (Operand.tmp 8) rfl rfl (by first | exact .inl rfl | exact .inr rfl) rfl (by kernel_rfl) (by kernel_rfl) (by kernel_rfl) (fun _ _ _ h => h) (by assumption) ?_
            simp only [List.setIfInBounds_toArray, List.set_cons_zero, List.set_cons_succ]
            refine take_op (v := ?vu2x2) 2 (Op.indexAddr 56 (Operand.tmp 33) (Operand.tmp 34)) 0 rfl rfl rfl rfl rfl (by kernel_rfl) (by kernel_rfl) (by kernel_rfl) (fun _ _ _ h => h) ?yu2x2 (by assumption) ?ru2x2
            case yu2x2 => (intro w' hSw; (try dsimp only at hSw); go_simp; try (with_reducible rfl))
            simp only [List.setIfInBounds_toArray, List.set_cons_zero, List.set_cons_succ]
            refine take_op (v := ?vu2x3) 3 (Op.load 48 (Operand.tmp 35)) 48 rfl rfl rfl rfl rfl (by kernel_rfl) (by kernel_rfl) (by kernel_rfl) (fun _ _ _ h => h) ?yu2x3 (by assumption) ?ru2x3
            case yu2x3 => (intro w' hSw; (try dsimp only at hSw); go_simp; try (with_reducible rfl))
            simp only [List.setIfInBounds_toArray, List.set_cons_zero, List.set_cons_succ]
            refine take_op (v := ?vu2x4) 4 (Op.call { callee := Callee.builtin Builtin.len, args := #[Operand.tmp 36], argTypes := #[48] }) 3 rfl rfl rfl rfl rfl (by kernel_rfl) (by kernel_rfl) (by kernel_rfl) (fun _ _ _ h => h) ?yu2x4 (by assumption) ?ru2x4
            case yu2x4 => (intro w' hSw; (try dsimp only at hSw); go_simp; try (with_reducible rfl))
            simp only [List.setIfInBounds_toArray, List.set_cons_zero, List.set_cons_succ]
            refine take_op (v := ?vu2x5) 5 (Op.binOp BinOp.eql 3 (Operand.tmp 37) (Operand.const (Value.int IntKind.i64 0)) 3) 4 rfl rfl rfl rfl rfl (by kernel_rfl) (by kernel_rfl) (by kernel_rfl) (fun _ _ _ h => h) ?yu2x5 (by assumption) ?ru2x5
            case yu2x5 => (intro w' hSw; (try dsimp only at hSw); go_simp; try (with_reducible rfl))
            simp only [List.setIfInBounds_toArray, List.set_cons_zero, List.set_cons_succ]
            refine take_move 6 (Operand.tmp 38) rfl rfl (by first | exact .inl rfl | exact .inr rfl) rfl (by kernel_rfl) (by kernel_rfl) (by kernel_rfl) (fun _ _ _ h => h) (by assumption) ?_
            simp only [List.setIfInBounds_toArray, List.set_cons_zero, List.set_cons_succ]
            refine take_move 7 (Operand.tmp 5) rfl rfl (by first | exact .inl rfl | exact .inr rfl) rfl (by kernel_rfl) (by kernel_rfl) (by kernel_rfl) (fun _ _ _ h => h) (by assumption) ?_
            simp only [List.setIfInBounds_toArray, List.set_cons_zero, List.set_cons_succ]
            refine take_move 8 (Operand.tmp 8) rfl rfl (by first | exact .inl rfl | exact .inr rfl) rfl (by kernel_rfl) (by kernel_rfl) (by kernel_rfl) (fun _ _ _ h => h) (by assumption) ?_
            simp only [List.setIfInBounds_toArray, List.set_cons_zero, List.set_cons_succ]
            refine take_op (v := ?vu2x9) 9 (Op.indexAddr 56 (Operand.tmp 40) (Operand.tmp 41)) 0 rfl rfl rfl rfl rfl (by kernel_rfl) (by kernel_rfl) (by kernel_rfl) (fun _ _ _ h => h) ?yu2x9 (by assumption) ?ru2x9
            case yu2x9 => (intro w' hSw; (try dsimp only at hSw); go_simp; try (with_reducible rfl))
            simp only [List.setIfInBounds_toArray, List.set_cons_zero, List.set_cons_succ]
            refine take_op (v := ?vu2x10) 10 (Op.load 48 (Operand.tmp 42)) 48 rfl rfl rfl rfl rfl (by kernel_rfl) (by kernel_rfl) (by kernel_rfl) (fun _ _ _ h => h) ?yu2x10 (by assumption) ?ru2x10
            case yu2x10 => (intro w' hSw; (try dsimp only at hSw); go_simp; try (with_reducible rfl))
            simp only [List.setIfInBounds_toArray, List.set_cons_zero, List.set_cons_succ]
            refine wpAnyH_ready (rs := [11]) (by kernel_rfl) (by simp) (AllReadyH.cons rfl (fun K11 hK11 => ?ku2x11) AllReadyH.nil)
            refine take_calls 11 54 [Operand.tmp 43] #[48] rfl rfl (by kernel_rfl) (fun args w => run_enter Try.func54 (by kernel_rfl) rfl args w) ?_
            refine (asV (row_any X (m' + 1) cm cs[k] _ ((rx.below HW).more HW.size) (by omega)) (congrArg (Value.int .i64) HG2.out)).mono ?_
            rintro e w11 ⟨rfl, hb11⟩
            refine ⟨_, rfl, ?_⟩
            have z11 := hb11.size
            try simp only [World.size_drew] at z11
            replace HW := HW.trans (hb11.mono HW.size)
            have zHW11 := HW.size
            replace o3 := Own.below o3 hb11
            refine hK11.out _ _ ?su2x11 (fun hHeld => ?ru2x11)
            case su2x11 => ((try dsimp only); exact KEEP.out _ HW)
            try simp only [List.setIfInBounds_toArray, List.set_cons_zero, List.set_cons_succ]
            refine take_op (v := ?vu2x12) 12 (Op.binOp BinOp.neq 36 (Operand.tmp 44) (Operand.const (Value.int IntKind.i64 0)) 36) 4 rfl rfl rfl rfl rfl (by kernel_rfl) (by kernel_rfl) (by kernel_rfl) (fun _ _ _ h => h) ?yu2x12 (by assumption) ?ru2x12
            case yu2x12 => (intro w' hSw; (try dsimp only at hSw); go_simp; try (with_reducible rfl))
            simp only [List.setIfInBounds_toArray, List.set_cons_zero, List.set_cons_succ]
            refine take_op (v := ?vu2x13) 13 (Op.pick (Operand.tmp 39) (Operand.const (Value.bool true)) (Operand.tmp 45)) 4 rfl rfl rfl rfl rfl (by kernel_rfl) (by kernel_rfl) (by kernel_rfl) (fun _ _ _ h => h) ?yu2x13 (by assumption) ?ru2x13
            case yu2x13 => (intro w' hSw; (try dsimp only at hSw); go_simp; try (with_reducible rfl))
            simp only [List.setIfInBounds_toArray, List.set_cons_zero, List.set_cons_succ]
            refine take_move 14 (Operand.tmp 46) rfl rfl (by first | exact .inl rfl | exact .inr rfl) rfl (by kernel_rfl) (by kernel_rfl) (by kernel_rfl) (fun _ _ _ h => h) (by assumption) ?_
            simp only [List.setIfInBounds_toArray, List.set_cons_zero, List.set_cons_succ]
            refine take_move 15 (Operand.tmp 5) rfl rfl (by first | exact .inl rfl | exact .inr rfl) rfl (by kernel_rfl) (by kernel_rfl) (by kernel_rfl) (fun _ _ _ h => h) (by assumption) ?_
            simp only [List.setIfInBounds_toArray, List.set_cons_zero, List.set_cons_succ]
            refine take_move 16 (Operand.tmp 8) rfl rfl (by first | exact .inl rfl | exact .inr rfl) rfl (by kernel_rfl) (by kernel_rfl) (by kernel_rfl) (fun _ _ _ h => h) (by assumption) ?_
            simp only [List.setIfInBounds_toArray, List.set_cons_zero, List.set_cons_succ]
            refine take_op (v := ?vu2x17) 17 (Op.indexAddr 56 (Operand.tmp 48) (Operand.tmp 49)) 0 rfl rfl rfl rfl rfl (by kernel_rfl) (by kernel_rfl) (by kernel_rfl) (fun _ _ _ h => h) ?yu2x17 (by assumption) ?ru2x17
            case yu2x17 => (intro w' hSw; (try dsimp only at hSw); go_simp; try (with_reducible rfl))
            simp only [List.setIfInBounds_toArray, List.set_cons_zero, List.set_cons_succ]
            refine take_op (v := ?vu2x18) 18 (Op.load 48 (Operand.tmp 50)) 48 rfl rfl rfl rfl rfl (by kernel_rfl) (by kernel_rfl) (by kernel_rfl) (fun _ _ _ h => h) ?yu2x18 (by assumption) ?ru2x18
            case yu2x18 => (intro w' hSw; (try dsimp only at hSw); go_simp; try (with_reducible rfl))
            simp only [List.setIfInBounds_toArray, List.set_cons_zero, List.set_cons_succ]
            refine take_move 19 (Operand.tmp 5) rfl rfl (by first | exact .inl rfl | exact .inr rfl) rfl (by kernel_rfl) (by kernel_rfl) (by kernel_rfl) (fun _ _ _ h => h) (by assumption) ?_
            simp only [List.setIfInBounds_toArray, List.set_cons_zero, List.set_cons_succ]
            refine take_move 20 (Operand.tmp 8) rfl rfl (by first | exact .inl rfl | exact .inr rfl) rfl (by kernel_rfl) (by kernel_rfl) (by kernel_rfl) (fun _ _ _ h => h) (by assumption) ?_
            simp only [List.setIfInBounds_toArray, List.set_cons_zero, List.set_cons_succ]
            refine take_op (v := ?vu2x21) 21 (Op.indexAddr 56 (Operand.tmp 52) (Operand.tmp 53)) 0 rfl rfl rfl rfl rfl (by kernel_rfl) (by kernel_rfl) (by kernel_rfl) (fun _ _ _ h => h) ?yu2x21 (by assumption) ?ru2x21
            case yu2x21 => (intro w' hSw; (try dsimp only at hSw); go_simp; try (with_reducible rfl))
            simp only [List.setIfInBounds_toArray, List.set_cons_zero, List.set_cons_succ]
            refine take_op (v := ?vu2x22) 22 (Op.load 48 (Operand.tmp 54)) 48 rfl rfl rfl rfl rfl (by kernel_rfl) (by kernel_rfl) (by kernel_rfl) (fun _ _ _ h => h) ?yu2x22 (by assumption) ?ru2x22
            case yu2x22 => (intro w' hSw; (try dsimp only at hSw); go_simp; try (with_reducible rfl))
            simp only [List.setIfInBounds_toArray, List.set_cons_zero, List.set_cons_succ]
            refine take_op (v := ?vu2x23) 23 (Op.call { callee := Callee.builtin Builtin.len, args := #[Operand.tmp 55], argTypes := #[48] }) 3 rfl rfl rfl rfl rfl (by kernel_rfl) (by kernel_rfl) (by kernel_rfl) (fun _ _ _ h => h) ?yu2x23 (by assumption) ?ru2x23
            case yu2x23 => (intro w' hSw; (try dsimp only at hSw); go_simp; try (with_reducible rfl))
            simp only [List.setIfInBounds_toArray, List.set_cons_zero, List.set_cons_succ]
            refine take_op (v := ?vu2x24) 24 (Op.binOp BinOp.sub 3 (Operand.tmp 56) (Operand.const (Value.int IntKind.i64 1)) 3) 3 rfl rfl rfl rfl rfl (by kernel_rfl) (by kernel_rfl) (by kernel_rfl) (fun _ _ _ h => h) ?yu2x24 (by assumption) ?ru2x24
            case yu2x24 => (intro w' hSw; (try dsimp only at hSw); go_simp; try (with_reducible rfl))
            simp only [List.setIfInBounds_toArray, List.set_cons_zero, List.set_cons_succ]
            refine take_op (v := ?vu2x25) 25 (Op.slice 48 (Operand.tmp 51) none (some (Operand.tmp 57)) none) 48 rfl rfl rfl rfl rfl (by kernel_rfl) (by kernel_rfl) (by kernel_rfl) (fun _ _ _ h => h) ?yu2x25 (by assumption) ?ru2x25
            case yu2x25 => (intro w' hSw; (try dsimp only at hSw); go_simp; try (with_reducible rfl))
            simp only [List.setIfInBounds_toArray, List.set_cons_zero, List.set_cons_succ]
            refine take_move 27 (Operand.tmp 1) rfl rfl (by first | exact .inl rfl | exact .inr rfl) rfl (by kernel_rfl) (by kernel_rfl) (by kernel_rfl) (fun _ _ _ h => h) (by assumption) ?_
            simp only [List.setIfInBounds_toArray, List.set_cons_zero, List.set_cons_succ]
            refine wpAnyH_ready (rs := [26]) (by kernel_rfl) (by simp) (AllReadyH.cons rfl (fun K26 hK26 => ?ku2x26) AllReadyH.nil)
            refine take_calls 26 48 [Operand.tmp 58] #[48] rfl rfl (by kernel_rfl) (fun args w => run_enter Try.func48 (by kernel_rfl) rfl args w) ?_
            refine (raw_any X m' cm (cs[k].take m') _ ((rh.below HW).more HW.size) (by omega)).mono ?_
            rintro e w26 ⟨rfl, hb26⟩
            refine ⟨_, rfl, ?_⟩
            have z26 := hb26.size
            try simp only [World.size_drew] at z26
            replace HW := HW.trans (hb26.mono HW.size)
            have zHW26 := HW.size
            replace o3 := Own.below o3 hb26
            refine hK26.out _ _ ?su2x26 (fun hHeld => ?ru2x26)
            case su2x26 => ((try dsimp only); exact KEEP.out _ HW)
            try simp only [List.setIfInBounds_toArray, List.set_cons_zero, List.set_cons_succ]
            refine take_op (v := ?vu2x28) 28 (Op.binOp BinOp.geq 3 (Operand.tmp 59) (Operand.tmp 60) 3) 4 rfl rfl rfl rfl rfl (by kernel_rfl) (by kernel_rfl) (by kernel_rfl) (fun _ _ _ h => h) ?yu2x28 (by assumption) ?ru2x28
            case yu2x28 => (intro w' hSw; (try dsimp only at hSw); go_simp; try (with_reducible rfl))
            simp only [List.setIfInBounds_toArray, List.set_cons_zero, List.set_cons_succ]
            refine take_op (v := ?vu2x29) 29 (Op.pick (Operand.tmp 47) (Operand.const (Value.bool true)) (Operand.tmp 61)) 4 rfl rfl rfl rfl rfl (by kernel_rfl) (by kernel_rfl) (by kernel_rfl) (fun _ _ _ h => h) ?yu2x29 (by assumption) ?ru2x29
            case yu2x29 => (intro w' hSw; (try dsimp only at hSw); go_simp; try (with_reducible rfl))
            simp only [List.setIfInBounds_toArray, List.set_cons_zero, List.set_cons_succ]
            refine take_move 30 (Operand.tmp 62) rfl rfl (by first | exact .inl rfl | exact .inr rfl) rfl (by kernel_rfl) (by kernel_rfl) (by kernel_rfl) (fun _ _ _ h => h) (by assumption) ?_
            simp only [List.setIfInBounds_toArray, List.set_cons_zero, List.set_cons_succ]
            refine take_move 31 (Operand.tmp 8) rfl rfl (by first | exact .inl rfl | exact .inr rfl) rfl (by kernel_rfl) (by kernel_rfl) (by kernel_rfl) (fun _ _ _ h => h) (by assumption) ?_
            simp only [List.setIfInBounds_toArray, List.set_cons_zero, List.set_cons_succ]
            refine take_move 32 (Operand.tmp 5) rfl rfl (by first | exact .inl rfl | exact .inr rfl) rfl (by kernel_rfl) (by kernel_rfl) (by kernel_rfl) (fun _ _ _ h => h) (by assumption) ?_
            simp only [List.setIfInBounds_toArray, List.set_cons_zero, List.set_cons_succ]
            refine take_op (v := ?vu2x33) 33 (Op.call { callee := Callee.builtin Builtin.len, args := #[Operand.tmp 65], argTypes := #[56] }) 3 rfl rfl rfl rfl rfl (by kernel_rfl) (by kernel_rfl) (by kernel_rfl) (fun _ _ _ h => h) ?yu2x33 (by assumption) ?ru2x33
            case yu2x33 => (intro w' hSw; (try dsimp only at hSw); go_simp; try (with_reducible rfl))
            simp only [List.setIfInBounds_toArray, List.set_cons_zero, List.set_cons_succ]
            refine take_op (v := ?vu2x34) 34 (Op.binOp BinOp.sub 3 (Operand.tmp 66) (Operand.const (Value.int IntKind.i64 1)) 3) 3 rfl rfl rfl rfl rfl (by kernel_rfl) (by kernel_rfl) (by kernel_rfl) (fun _ _ _ h => h) ?yu2x34 (by assumption) ?ru2x34
            case yu2x34 => (intro w' hSw; (try dsimp only at hSw); go_simp; try (with_reducible rfl))
            simp only [List.setIfInBounds_toArray, List.set_cons_zero, List.set_cons_succ]
            refine take_op (v := ?vu2x35) 35 (Op.binOp BinOp.lss 3 (Operand.tmp 64) (Operand.tmp 67) 3) 4 rfl rfl rfl rfl rfl (by kernel_rfl) (by kernel_rfl) (by kernel_rfl) (fun _ _ _ h => h) ?yu2x35 (by assumption) ?ru2x35
            case yu2x35 => (intro w' hSw; (try dsimp only at hSw); go_simp; try (with_reducible rfl))
            simp only [List.setIfInBounds_toArray, List.set_cons_zero, List.set_cons_succ]
            refine take_move 36 (Operand.tmp 68) rfl rfl (by first | exact .inl rfl | exact .inr rfl) rfl (by kernel_rfl) (by kernel_rfl) (by kernel_rfl) (fun _ _ _ h => h) (by assumption) ?_
            simp only [List.setIfInBounds_toArray, List.set_cons_zero, List.set_cons_succ]
            refine take_move 37 (Operand.tmp 5) rfl rfl (by first | exact .inl rfl | exact .inr rfl) rfl (by kernel_rfl) (by kernel_rfl) (by kernel_rfl) (fun _ _ _ h => h) (by assumption) ?_
            simp only [List.setIfInBounds_toArray, List.set_cons_zero, List.set_cons_succ]
            refine take_move 38 (Operand.tmp 8) rfl rfl (by first | exact .inl rfl | exact .inr rfl) rfl (by kernel_rfl) (by kernel_rfl) (by kernel_rfl) (fun _ _ _ h => h) (by assumption) ?_
            simp only [List.setIfInBounds_toArray, List.set_cons_zero, List.set_cons_succ]
            refine take_op (v := ?vu2x39) 39 (Op.indexAddr 56 (Operand.tmp 70) (Operand.tmp 71)) 0 rfl rfl rfl rfl rfl (by kernel_rfl) (by kernel_rfl) (by kernel_rfl) (fun _ _ _ h => h) ?yu2x39 (by assumption) ?ru2x39
            case yu2x39 => (intro w' hSw; (try dsimp only at hSw); go_simp; try (with_reducible rfl))
            simp only [List.setIfInBounds_toArray, List.set_cons_zero, List.set_cons_succ]
            refine take_op (v := ?vu2x40) 40 (Op.load 48 (Operand.tmp 72)) 48 rfl rfl rfl rfl rfl (by kernel_rfl) (by kernel_rfl) (by kernel_rfl) (fun _ _ _ h => h) ?yu2x40 (by assumption) ?ru2x40
            case yu2x40 => (intro w' hSw; (try dsimp only at hSw); go_simp; try (with_reducible rfl))
            simp only [List.setIfInBounds_toArray, List.set_cons_zero, List.set_cons_succ]
            refine take_move 42 (Operand.tmp 1) rfl rfl (by first | exact .inl rfl | exact .inr rfl) rfl (by kernel_rfl) (by kernel_rfl) (by kernel_rfl) (fun _ _ _ h => h) (by assumption) ?_
            simp only [List.setIfInBounds_toArray, List.set_cons_zero, List.set_cons_succ]
            refine wpAnyH_ready (rs := [41]) (by kernel_rfl) (by simp) (AllReadyH.cons rfl (fun K41 hK41 => ?ku2x41) AllReadyH.nil)
            refine take_calls 41 48 [Operand.tmp 73] #[48] rfl rfl (by kernel_rfl) (fun args w => run_enter Try.func48 (by kernel_rfl) rfl args w) ?_
            refine (raw_any X (m' + 1) cm cs[k] _ ((rx.below HW).more HW.size) (by omega)).mono ?_
            rintro e w41 ⟨rfl, hb41⟩
            refine ⟨_, rfl, ?_⟩
            have z41 := hb41.size
            try simp only [World.size_drew] at z41
            replace HW := HW.trans (hb41.mono HW.size)
            have zHW41 := HW.size
            replace o3 := Own.below o3 hb41
            refine hK41.out _ _ ?su2x41 (fun hHeld => ?ru2x41)
            case su2x41 => ((try dsimp only); exact KEEP.out _ HW)
            try simp only [List.setIfInBounds_toArray, List.set_cons_zero, List.set_cons_succ]
            refine take_op (v := ?vu2x43) 43 (Op.binOp BinOp.lss 3 (Operand.tmp 74) (Operand.tmp 75) 3) 4 rfl rfl rfl rfl rfl (by kernel_rfl) (by kernel_rfl) (by kernel_rfl) (fun _ _ _ h => h) ?yu2x43 (by assumption) ?ru2x43
            case yu2x43 => (intro w' hSw; (try dsimp only at hSw); go_simp; try (with_reducible rfl))
            simp only [List.setIfInBounds_toArray, List.set_cons_zero, List.set_cons_succ]
            refine take_op (v := ?vu2x44) 44 (Op.pick (Operand.tmp 69) (Operand.tmp 76) (Operand.const (Value.bool false))) 4 rfl rfl rfl rfl rfl (by kernel_rfl) (by kernel_rfl) (by kernel_rfl) (fun _ _ _ h => h) ?yu2x44 (by assumption) ?ru2x44
            case yu2x44 => (intro w' hSw; (try dsimp only at hSw); go_simp; try (with_reducible rfl))
            simp only [List.setIfInBounds_toArray, List.set_cons_zero, List.set_cons_succ]
            refine take_op (v := ?vu2x45) 45 (Op.pick (Operand.tmp 63) (Operand.const (Value.bool true)) (Operand.tmp 77)) 4 rfl rfl rfl rfl rfl (by kernel_rfl) (by kernel_rfl) (by kernel_rfl) (fun _ _ _ h => h) ?yu2x45 (by assumption) ?ru2x45
            case yu2x45 => (intro w' hSw; (try dsimp only at hSw); go_simp; try (with_reducible rfl))
            simp only [List.setIfInBounds_toArray, List.set_cons_zero, List.set_cons_succ]
            refine wpAnyH_done (by kernel_rfl) ?_ _
            clear hw1 hw2 hsl hgd
            have rx4 := (rx.below HW).more HW.size
            have zHW := HW.size
            go_wp2_with (at_builtin; with_reducible refine wp_append El_rec rfl (s := .tmp 79) (x := .tmp 83) rfl rfl o3 rfl rx4 (rcells_one _) (by unfold maxLen; omega) (by omega) (by omega) ?_; intro A4 c4 w4 o4 hgg hat4)
            have HW4 := below_grown HW hgg o3 (Nat.le_refl _)
            go_roundw
            case rel => exact ⟨k + 1, A4, n3 + (m' + 1), c4, by omega, by go_num, rfl, by rw [HSN.out, rcells_append]; exact o4, HW4⟩
            case measure => simp [intOf]; omega
        · have HZ := Lib.hid (show (cs.take k).flatten = l by rw [List.take_of_length_le (by omega)]; exact FLAT.out)
          have hbw' : Below w.heap.size w wr := HB.trans (hbw.mono HB.size)
          go_wp2_with fail
          have C9 := sameR_any A3 A n3 c3 n c l l wr (by have := o3.rd; rw [HZ.out] at this; exact this) ((h.below hbw').more hbw'.size) (by omega) (by omega)
          rw [decide_eq_true (rfl : l = l)] at C9
          refine C9.mono ?_
          clear C9
          rintro e w9 ⟨rfl, hb9⟩
          have hbw9 := hbw'.trans (hb9.mono hbw'.size)
          go_wp2_with fail
          refine (awake_any _).mono ?_
          rintro e w15 ⟨rfl, hb15⟩
          go_wp2_with fail
          go_ret
          exact ⟨rfl, hbw9.trans (hb15.mono hbw9.size)⟩
    · have hq1 : (q.2 != 0) = true := by simp [h0]
      have hz : n2 = 0 := by
        have := chunksV_no (show (chunksV t l).2 ≠ 0 by rw [HQ.out]; exact h0)
        rw [HQ.out] at this
        have h2 := r2.len
        rw [this] at h2
        exact h2.symm
      subst hz
      clear h0
      go_wp2_with fail
      refine (awake_any _).mono ?_
      rintro e w15 ⟨rfl, hb15⟩
      have z15 := hb15.size; replace HB := HB.trans (hb15.mono HB.size); have zz15 := HB.size
      go_wp2_with fail
      go_ret
      exact ⟨rfl, HB⟩
  · have HF := Lib.hid (show fewB l = false by simpa using hf)
    have HB := Below.refl w.heap.size w
    clear hf
    go_enter Try.func12, Try.ntmps12
    go_wp2_with fail
    refine (few_any A n c l false HF.out _ ((h.below HB).more HB.size) (by have := rd_rlen h; omega) HLS.out).mono ?_
    rintro e w1 ⟨rfl, hb1⟩
    have z1 := hb1.size; replace HB := HB.trans (hb1.mono HB.size); have zz1 := HB.size
    go_wp2_with fail
    refine (awake_any _).mono ?_
    rintro e w15 ⟨rfl, hb15⟩
    have z15 := hb15.size; replace HB := HB.trans (hb15.mono HB.size); have zz15 := HB.size
    go_wp2_with fail
    go_ret
    exact ⟨rfl, HB⟩
end RecW
end Go.Proofs.Ytehlgpfkpagaeaa
