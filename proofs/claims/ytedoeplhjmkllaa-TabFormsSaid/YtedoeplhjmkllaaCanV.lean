/- The walks of package canon: New. -/
import Derived.Test.YtedoeplhjmkllaaCanN
namespace Go.Proofs.Ytedoeplhjmkllaa
set_option linter.unusedVariables false
set_option linter.unusedSimpArgs false
set_option linter.unnecessarySimpa false
open Go.RowKit
namespace LenW

/-- The code of lengths l stands at block g; its blocks lie from B on. -/
def CodeAt (w : World) (B g : Nat) (l : List Int) : Prop := ∃ gW gS, B ≤ g ∧ B ≤ gW ∧ B ≤ gS ∧
  Blk w g 44 (codeC (.slice (some ⟨gW, 0, none⟩) l.length l.length) (.slice (some ⟨gS, 0, none⟩) (usedL l) (usedL l)) (tab (cntL l)) (tab (fstL l)) (tab (plcL l)) true) ∧
  Blk w gW 47 (fcells (wordsF l)).toArray ∧ Blk w gS 3 (ints (sortF l)).toArray
set_option maxRecDepth 100000 in
set_option maxHeartbeats 4000000 in
theorem new_no (A : Option Addr) (n c : Nat) (l : List Int) (w : World) (h : Rd w w.heap.size 1 A n (ints l)) (hn : n ≤ 1000000) (v : Int) (hk : chkL l = v) (hv : ¬ v = 0) :
    Calls Try.prog 38 #[.slice A n c] w fun e w' => e = .returned (.tuple #[.pointer none, .int .i64 v]) ∧ w' = w := by
  have CK := check_any A n c l w h hn v hk
  have hvI : (v != 0) = true := by simp [hv]
  go_enter Try.func38, Try.ntmps38
  go_wp2_with fail
  refine CK.mono ?_
  rintro e w1 ⟨rfl, rfl⟩
  go_wp2_with fail
  go_ret2
  exact ⟨rfl, rfl⟩
set_option maxRecDepth 100000 in
set_option maxHeartbeats 4000000 in
theorem new_any (A : Option Addr) (n c : Nat) (l : List Int) (w : World) (h : Rd w w.heap.size 1 A n (ints l)) (hn : n ≤ 1000000) (hk : chkL l = 0) :
    Calls Try.prog 38 #[.slice A n c] w fun e w' => ∃ g, e = .returned (.tuple #[.pointer (some ⟨g, 0, none⟩), .int .i64 0]) ∧ CodeAt w' w.heap.size g l ∧ Below w.heap.size w w' := by
  have CK := check_any A n c l w h hn 0 hk
  obtain ⟨h257, hok, hsum⟩ := chk0 hk
  have hl : l.length = n := rd_len h
  have hn3 : n ≤ 257 := by omega
  have hmk := run_made (P := Try.prog) 24 47 (.agg #[.int .i64 0, .int .i64 0]) 2 16 Try.underlying24 (by kernel_rfl) n (by omega) (by omega) w
  rw [show (Value.agg #[.int .i64 0, .int .i64 0]).cells = #[.int .i64 0, .int .i64 0] from rfl, made_fields] at hmk
  go_enter Try.func38, Try.ntmps38
  go_wp2_with fail
  refine CK.mono ?_
  rintro e w1 ⟨rfl, rfl⟩
  go_wp2_with fail
  have bF := (Blk.new w1 47 (fcells (List.replicate n (0, 0))).toArray).alloc (.cells (codeC (.slice (some ⟨w1.heap.size, 0, none⟩) n n) (.slice none 0 0) (tab fun _ => 0) (tab fun _ => 0) (tab fun _ => 0) true) 44)
  have bC := Blk.new (w1.alloc (.cells (fcells (List.replicate n (0, 0))).toArray 47)) 44 (codeC (.slice (some ⟨w1.heap.size, 0, none⟩) n n) (.slice none 0 0) (tab fun _ => 0) (tab fun _ => 0) (tab fun _ => 0) true)
  rw [World.size_alloc] at bC
  have HB : Below w1.heap.size w1 ((w1.alloc (.cells (fcells (List.replicate n (0, 0))).toArray 47)).alloc (.cells (codeC (.slice (some ⟨w1.heap.size, 0, none⟩) n n) (.slice none 0 0) (tab fun _ => 0) (tab fun _ => 0) (tab fun _ => 0) true) 44)) := ((Below.refl _ w1).alloc (Nat.le_refl _) _).alloc (by simp) _
  go_loopw [21] (fun i wr => ∃ k : Nat, i = .int .i64 k ∧ k ≤ n ∧ Blk wr (w1.heap.size + 1) 44 (codeC (.slice (some ⟨w1.heap.size, 0, none⟩) n n) (.slice none 0 0) (tab (cntL (l.take k))) (tab fun _ => 0) (tab fun _ => 0) true) ∧ Blk wr w1.heap.size 47 (fcells (List.replicate n (0, 0))).toArray ∧ Below w1.heap.size w1 wr) (fun i _ => n - (intOf i).toNat)
  case atStart => exact ⟨0, rfl, by omega, by rw [List.take_zero]; exact bC, bF, HB⟩
  case round =>
    obtain ⟨k, rfl, hkn, bC2, bF2, HB2⟩ := hrel
    clear bC bF HB
    have hgl := bC2.lt
    have hki0 : (0 : Int) ≤ (k : Int) := by omega
    by_cases hlt : k < n
    · have hkl : k < l.length := by omega
      obtain ⟨b, o, rfl, hb, hc⟩ := rd_ints (h.below HB2) (by omega)
      have d0 : wr.cell? ⟨b, o + k, none⟩ = some (.int .i64 l[k]) := hc k hkl
      have hx15 := okL_at l k hkl hok
      have hsn := cntL_snoc l k
      have hcl := cntL_le (l.take k)
      have hki : (k : Int) < (n : Int) := by omega
      clear hc
      generalize hx : l[k] = x at *
      by_cases hp : 0 < x
      · obtain ⟨y, rfl⟩ := Int.eq_ofNat_of_zero_le (show 0 ≤ x by omega)
        have hy : y < 16 := by omega
        have hyI : (y : Int) < 16 := by omega
        have hy0 : (0 : Int) ≤ (y : Int) := by omega
        have hset : (tab (cntL (l.take k))).set y ((cntL (l.take k) y : Int) + 1) = tab (cntL (l.take (k + 1))) :=
          tab_set _ _ y _ (by rw [hsn y hkl, if_pos ⟨by omega, by omega⟩]; push_cast; omega) (fun j _ hj => by rw [hsn j hkl, if_neg (by omega)]; omega)
        have hct : cntL (l.take k) y ≤ 257 := by have := hcl y; rw [List.length_take] at this; omega
        have hw3 : IntKind.i64.wrap ((cntL (l.take k) y : Int) + 1) = (cntL (l.take k) y : Int) + 1 := w64k (by omega) (by omega)
        have CS := Lib.hid ((congrArg (fun z => (codeC (.slice (some ⟨w1.heap.size, 0, none⟩) n n) (.slice none 0 0) (tab (cntL (l.take k))) (tab fun _ => 0) (tab fun _ => 0) true).setIfInBounds (2 + y) (.int .i64 z)) hw3).trans ((code_cset (W := .slice (some ⟨w1.heap.size, 0, none⟩) n n) (S := .slice none 0 0) (fs := tab fun _ => 0) (ps := tab fun _ => 0) (m := true) (tab_len (cntL (l.take k))) y hy ((cntL (l.take k) y : Int) + 1)).trans (by rw [hset])))
        have HW3 := Lib.hid hw3
        clear hw3
        have CC := Lib.hid ((code_c (W := .slice (some ⟨w1.heap.size, 0, none⟩) n n) (S := .slice none 0 0) (fs := tab fun _ => 0) (ps := tab fun _ => 0) (m := true) (tab_len (cntL (l.take k))) y hy).trans (by rw [tab_at _ y hy]))
        generalize cntL (l.take k) y = ct at *
        clear hset hsn hcl hx
        go_wp2_with fail
        have HB := HB2
        have bC := bC2
        have bF := bF2
        refine wp_region_held_drew (S := (fun w' => w'.cell? ⟨w1.heap.size + 1, 0, none⟩ = some (.slice (some ⟨w1.heap.size, 0, none⟩) n n))) (by kernel_rfl) ?_ (fun hHeld => ?_)
        · replace HB := Below.drew HB; replace bC := Blk.drew bC; replace bF := Blk.drew bF; (try dsimp only); exact bC.cell_ 0 rfl
        replace HB := Below.drew HB
        replace bC := Blk.drew bC
        replace bF := Blk.drew bF
        have zHB := HB.size
        refine take_move 0 (Operand.tmp 5) rfl rfl (by first | exact .inl rfl | exact .inr rfl) rfl (by kernel_rfl) (by kernel_rfl) (by kernel_rfl) (fun _ _ _ h => h) (by assumption) ?_
        simp only [List.setIfInBounds_toArray, List.set_cons_zero, List.set_cons_succ]
        refine take_move 1 (Operand.tmp 7) rfl rfl (by first | exact .inl rfl | exact .inr rfl) rfl (by kernel_rfl) (by kernel_rfl) (by kernel_rfl) (fun _ _ _ h => h) (by assumption) ?_
        simp only [List.setIfInBounds_toArray, List.set_cons_zero, List.set_cons_succ]
        refine take_op (v := ?vu1x2) 2 (Op.nilCheck (Operand.tmp 27)) 0 rfl rfl rfl rfl rfl (by kernel_rfl) (by kernel_rfl) (by kernel_rfl) (fun _ _ _ h => h) ?yu1x2 (by assumption) ?ru1x2
        case yu1x2 => (intro w' hSw; (try dsimp only at hSw); go_simp; try (with_reducible rfl))
        simp only [List.setIfInBounds_toArray, List.set_cons_zero, List.set_cons_succ]
        refine take_op (v := ?vu1x3) 3 (Op.fieldAddr 44 (Operand.tmp 29) 2) 0 rfl rfl rfl rfl rfl (by kernel_rfl) (by kernel_rfl) (by kernel_rfl) (fun _ _ _ h => h) ?yu1x3 (by assumption) ?ru1x3
        case yu1x3 => (intro w' hSw; (try dsimp only at hSw); go_simp; try (with_reducible rfl))
        simp only [List.setIfInBounds_toArray, List.set_cons_zero, List.set_cons_succ]
        refine take_op (v := ?vu1x4) 4 (Op.indexAddr 42 (Operand.tmp 30) (Operand.tmp 28)) 0 rfl rfl rfl rfl rfl (by kernel_rfl) (by kernel_rfl) (by kernel_rfl) (fun _ _ _ h => h) ?yu1x4 (by assumption) ?ru1x4
        case yu1x4 => (intro w' hSw; (try dsimp only at hSw); go_simp; try (with_reducible rfl))
        simp only [List.setIfInBounds_toArray, List.set_cons_zero, List.set_cons_succ]
        refine take_op (v := ?vu1x7) 7 (Op.nilCheck (Operand.tmp 27)) 0 rfl rfl rfl rfl rfl (by kernel_rfl) (by kernel_rfl) (by kernel_rfl) (fun _ _ _ h => h) ?yu1x7 (by assumption) ?ru1x7
        case yu1x7 => (intro w' hSw; (try dsimp only at hSw); go_simp; try (with_reducible rfl))
        simp only [List.setIfInBounds_toArray, List.set_cons_zero, List.set_cons_succ]
        refine take_op (v := ?vu1x8) 8 (Op.fieldAddr 44 (Operand.tmp 34) 2) 0 rfl rfl rfl rfl rfl (by kernel_rfl) (by kernel_rfl) (by kernel_rfl) (fun _ _ _ h => h) ?yu1x8 (by assumption) ?ru1x8
        case yu1x8 => (intro w' hSw; (try dsimp only at hSw); go_simp; try (with_reducible rfl))
        simp only [List.setIfInBounds_toArray, List.set_cons_zero, List.set_cons_succ]
        refine wpAnyH_ready (rs := [5]) (by kernel_rfl) (by simp) (AllReadyH.cons rfl (fun K5 hK5 => ?ku1x5) AllReadyH.nil)
        refine take_any 5 (Op.load 3 (Operand.tmp 31)) 3 rfl rfl rfl (by kernel_rfl) (v := .int .i64 ct) (by have cL := bC.cell_ (2 + y) CC.out; go_simp; try (with_reducible rfl)) ?_
        refine hK5.out _ _ ?su1x5 (fun hHeld => ?ru1x5)
        case su1x5 => ((try dsimp only); exact bC.cell_ 0 rfl)
        try simp only [List.setIfInBounds_toArray, List.set_cons_zero, List.set_cons_succ]
        refine take_op (v := ?vu1x6) 6 (Op.binOp BinOp.add 3 (Operand.tmp 32) (Operand.const (Value.int IntKind.i64 1)) 3) 3 rfl rfl rfl rfl rfl (by kernel_rfl) (by kernel_rfl) (by kernel_rfl) (fun _ _ _ h => h) ?yu1x6 (by assumption) ?ru1x6
        case yu1x6 => (intro w' hSw; (try dsimp only at hSw); go_simp; try (with_reducible rfl))
        simp only [List.setIfInBounds_toArray, List.set_cons_zero, List.set_cons_succ]
        refine take_op (v := ?vu1x9) 9 (Op.indexAddr 42 (Operand.tmp 35) (Operand.tmp 28)) 0 rfl rfl rfl rfl rfl (by kernel_rfl) (by kernel_rfl) (by kernel_rfl) (fun _ _ _ h => h) ?yu1x9 (by assumption) ?ru1x9
        case yu1x9 => (intro w' hSw; (try dsimp only at hSw); go_simp; try (with_reducible rfl))
        simp only [List.setIfInBounds_toArray, List.set_cons_zero, List.set_cons_succ]
        refine wpAnyH_ready (rs := [10]) (by kernel_rfl) (by simp) (AllReadyH.cons rfl (fun K10 hK10 => ?ku1x10) AllReadyH.nil)
        refine take_store 10 (Op.store 3 (Operand.tmp 36) (Operand.tmp 33)) 0 rfl rfl rfl (by kernel_rfl) (w' := wr.drew.setCell ⟨w1.heap.size + 1, 2 + y, none⟩ (.int .i64 (IntKind.i64.wrap ((ct : Int) + 1)))) (by have cL := bC.cell_ (2 + y) CC.out; have fL := bC.frozen (2 + y); go_simp; try (with_reducible rfl)) ?_
        refine hK10.out _ _ ((blk_eq (bC.set (2 + y) (.int .i64 (IntKind.i64.wrap ((ct : Int) + 1)))) CS.out).cell_ 0 rfl) (fun hHeld => ?_)
        refine wpAnyH_done (by kernel_rfl) ?_ _
        have bCN := blk_eq (bC.set (2 + y) (.int .i64 (IntKind.i64.wrap ((ct : Int) + 1)))) CS.out
        have bFN := bF.far (p := ⟨w1.heap.size + 1, 2 + y, none⟩) (by dsimp only; omega) (.int .i64 (IntKind.i64.wrap ((ct : Int) + 1)))
        have HBN := HB.setCell (p := ⟨w1.heap.size + 1, 2 + y, none⟩) (by dsimp only; omega) (.int .i64 (IntKind.i64.wrap ((ct : Int) + 1)))
        go_wp2_with fail
        go_roundw
        case rel =>
          rw [HW3.out] at bCN bFN HBN
          exact ⟨k + 1, by go_num, by omega, bCN, bFN, HBN⟩
        case measure => simp [intOf]; omega
      · have hset : tab (cntL (l.take (k + 1))) = tab (cntL (l.take k)) := tab_ext _ _ fun j _ => by rw [hsn j hkl, if_neg (by omega)]; omega
        rw [← hset] at bC2
        clear hset hsn hcl hx
        go_wp2_with fail
        go_roundw
        case rel => exact ⟨k + 1, by go_num, by omega, bC2, bF2, HB2⟩
        case measure => simp [intOf]; omega
    · have hz : l.take k = l := List.take_of_length_le (by omega)
      rw [hz] at bC2
      clear hz
      have hf1 : tab (upTo (fstL l) 1) = tab (fun _ => 0) := tab_ext _ _ fun j _ => by
        unfold upTo
        split
        · rw [show j = 0 from by omega]; rfl
        · rfl
      have hp1 : tab (upTo (plcL l) 1) = tab (fun _ => 0) := tab_ext _ _ fun j _ => by
        unfold upTo
        split
        · rw [show j = 0 from by omega]; exact plcL_zero l
        · rfl
      have bC3 : Blk wr (w1.heap.size + 1) 44 (codeC (.slice (some ⟨w1.heap.size, 0, none⟩) n n) (.slice none 0 0) (tab (cntL l)) (tab (upTo (fstL l) 1)) (tab (upTo (plcL l) 1)) true) := by rw [hf1, hp1]; exact bC2
      clear hf1 hp1 bC2
      go_wp2_with fail
      go_loopw [8] (fun i ws => ∃ k : Nat, i = .int .i64 k ∧ 1 ≤ k ∧ k ≤ 16 ∧ Blk ws (w1.heap.size + 1) 44 (codeC (.slice (some ⟨w1.heap.size, 0, none⟩) n n) (.slice none 0 0) (tab (cntL l)) (tab (upTo (fstL l) k)) (tab (upTo (plcL l) k)) true) ∧ Blk ws w1.heap.size 47 (fcells (List.replicate n (0, 0))).toArray ∧ Below w1.heap.size w1 ws) (fun i _ => 16 - (intOf i).toNat)
      case atStart => exact ⟨1, rfl, by omega, by omega, bC3, bF2, HB2⟩
      case round =>
        obtain ⟨k, rfl, hk1, hk16, bC4, bF4, HB4⟩ := hrel
        clear bC3 bF2 HB2
        have hgs := bC4.lt
        by_cases hle : k ≤ 15
        · obtain ⟨j, rfl⟩ : ∃ j, k = j + 1 := ⟨k - 1, by omega⟩
          have hj : j < 16 := by omega
          have hj1 : j + 1 < 16 := by omega
          have hkI : ((j + 1 : Nat) : Int) ≤ 15 := by omega
          have hfb : fstL l j ≤ 20000000 := by
            have h1 := fstL_le l j
            have h2 : 2 * l.length * 2 ^ j ≤ 514 * 32768 := Nat.mul_le_mul (by omega) (Nat.pow_le_pow_right (n := 2) (by omega) (show j ≤ 15 by omega))
            omega
          have hcb : cntL l j ≤ 257 := by have := cntL_le l j; omega
          have hpb : plcL l j ≤ 257 := by have := plcL_le l j; have := usedL_le l; omega
          have hfs : (tab (upTo (fstL l) (j + 1))).set (j + 1) ((2 * (fstL l j + cntL l j) : Nat) : Int) = tab (upTo (fstL l) (j + 1 + 1)) :=
            tab_set _ _ (j + 1) _ (by unfold upTo; rw [if_pos (by omega)]; rfl) (fun i _ hi => by unfold upTo; split <;> split <;> first | rfl | omega)
          have hps : (tab (upTo (plcL l) (j + 1))).set (j + 1) ((plcL l j + cntL l j : Nat) : Int) = tab (upTo (plcL l) (j + 1 + 1)) :=
            tab_set _ _ (j + 1) _ (by unfold upTo; rw [if_pos (by omega), plcL_succ]) (fun i _ hi => by unfold upTo; split <;> split <;> first | rfl | omega)
          have CF := Lib.hid (fun ps => (code_f (W := .slice (some ⟨w1.heap.size, 0, none⟩) n n) (S := .slice none 0 0) (ps := ps) (m := true) (tab_len (cntL l)) (tab_len (upTo (fstL l) (j + 1))) j hj).trans (by rw [tab_at _ j hj, upTo, if_pos (by omega)]))
          have CFN := Lib.hid (fun ps => (code_f (W := (.slice (some ⟨w1.heap.size, 0, none⟩) n n)) (S := .slice none 0 0) (ps := ps) (m := true) (tab_len (cntL l)) (tab_len (upTo (fstL l) (j + 1 + 1))) j hj).trans (by rw [tab_at _ j hj, upTo, if_pos (by omega)]))
          have CPN := Lib.hid (fun fs (hfl : fs.length = 16) => (code_p (W := (.slice (some ⟨w1.heap.size, 0, none⟩) n n)) (S := .slice none 0 0) (fs := fs) (m := true) (tab_len (cntL l)) hfl (tab_len (upTo (plcL l) (j + 1 + 1))) j hj).trans (by rw [tab_at _ j hj, upTo, if_pos (by omega)]))
          have CC := Lib.hid (fun fs ps => (code_c (W := .slice (some ⟨w1.heap.size, 0, none⟩) n n) (S := .slice none 0 0) (fs := fs) (ps := ps) (m := true) (tab_len (cntL l)) j hj).trans (by rw [tab_at _ j hj]))
          have CP := Lib.hid (fun fs (hfl : fs.length = 16) => (code_p (W := .slice (some ⟨w1.heap.size, 0, none⟩) n n) (S := .slice none 0 0) (fs := fs) (m := true) (tab_len (cntL l)) hfl (tab_len (upTo (plcL l) (j + 1))) j hj).trans (by rw [tab_at _ j hj, upTo, if_pos (by omega)]))
          have hw2 : IntKind.i64.wrap (((fstL l j : Int) + (cntL l j : Int)) * 2) = ((2 * (fstL l j + cntL l j) : Nat) : Int) := (w64k (by omega) (by omega)).trans (by push_cast; omega)
          have hw4 : (plcL l j : Int) + (cntL l j : Int) = ((plcL l j + cntL l j : Nat) : Int) := by push_cast; omega
          have CF1 := Lib.hid (fun ps => code_f (W := (.slice (some ⟨w1.heap.size, 0, none⟩) n n)) (S := .slice none 0 0) (ps := ps) (m := true) (tab_len (cntL l)) (tab_len (upTo (fstL l) (j + 1))) (j + 1) hj1)
          have CP1 := Lib.hid (fun fs (hfl : fs.length = 16) => code_p (W := (.slice (some ⟨w1.heap.size, 0, none⟩) n n)) (S := .slice none 0 0) (fs := fs) (m := true) (tab_len (cntL l)) hfl (tab_len (upTo (plcL l) (j + 1))) (j + 1) hj1)
          have CS1 := Lib.hid (fun ps => (congrArg (fun z => (codeC (.slice (some ⟨w1.heap.size, 0, none⟩) n n) (.slice none 0 0) (tab (cntL l)) (tab (upTo (fstL l) (j + 1))) ps true).setIfInBounds (18 + (j + 1)) (.int .i64 z)) hw2).trans ((code_fset (W := (.slice (some ⟨w1.heap.size, 0, none⟩) n n)) (S := .slice none 0 0) (ps := ps) (m := true) (tab_len (cntL l)) (tab_len (upTo (fstL l) (j + 1))) (j + 1) hj1 _).trans (by rw [hfs])))
          have CS2 := Lib.hid (fun fs (hfl : fs.length = 16) => (congrArg (fun z => (codeC (.slice (some ⟨w1.heap.size, 0, none⟩) n n) (.slice none 0 0) (tab (cntL l)) fs (tab (upTo (plcL l) (j + 1))) true).setIfInBounds (34 + (j + 1)) (.int .i64 z)) hw4).trans ((code_pset (W := (.slice (some ⟨w1.heap.size, 0, none⟩) n n)) (S := .slice none 0 0) (fs := fs) (m := true) (tab_len (cntL l)) hfl (tab_len (upTo (plcL l) (j + 1))) (j + 1) hj1 _).trans (by rw [hps])))
          clear hw2 hw4 hfs hps
          have hwj : IntKind.i64.wrap (j : Int) = (j : Int) := w64k (by omega) (by omega)
          have hwj1 : IntKind.i64.wrap ((j : Int) + 1) = (j : Int) + 1 := w64k (by omega) (by omega)
          have hwf : IntKind.i64.wrap ((fstL l j : Int) + (cntL l j : Int)) = (fstL l j : Int) + (cntL l j : Int) := w64k (by omega) (by omega)
          have HWP := Lib.hid (show IntKind.i64.wrap ((plcL l j : Int) + (cntL l j : Int)) = (plcL l j : Int) + (cntL l j : Int) from w64k (by omega) (by omega))
          have hjI : (j : Int) < 16 := by omega
          have hjI1 : (j : Int) + 1 < 16 := by omega
          have hj0 : (0 : Int) ≤ (j : Int) := by omega
          have hj10 : (0 : Int) ≤ (j : Int) + 1 := by omega
          have htn : ((j : Int) + 1).toNat = j + 1 := by omega
          have HB := HB4
          have bC := bC4
          have bF := bF4
          go_wp2_with fail
          refine wp_region_held_drew (S := (fun w' => w'.cell? ⟨w1.heap.size + 1, 18 + j, none⟩ = some (.int .i64 (fstL l j)) ∧ w'.cell? ⟨w1.heap.size + 1, 2 + j, none⟩ = some (.int .i64 (cntL l j)))) (by kernel_rfl) ?_ (fun hHeld => ?_)
          · replace HB := Below.drew HB; replace bC := Blk.drew bC; replace bF := Blk.drew bF; (try dsimp only); exact ⟨bC.cell_ (18 + j) (CF.out _), bC.cell_ (2 + j) (CC.out _ _)⟩
          replace HB := Below.drew HB
          replace bC := Blk.drew bC
          replace bF := Blk.drew bF
          have zHB := HB.size
          refine take_move 0 (Operand.tmp 5) rfl rfl (by first | exact .inl rfl | exact .inr rfl) rfl (by kernel_rfl) (by kernel_rfl) (by kernel_rfl) (fun _ _ _ h => h) (by assumption) ?_
          simp only [List.setIfInBounds_toArray, List.set_cons_zero, List.set_cons_succ]
          refine take_move 1 (Operand.tmp 8) rfl rfl (by first | exact .inl rfl | exact .inr rfl) rfl (by kernel_rfl) (by kernel_rfl) (by kernel_rfl) (fun _ _ _ h => h) (by assumption) ?_
          simp only [List.setIfInBounds_toArray, List.set_cons_zero, List.set_cons_succ]
          refine take_move 2 (Operand.tmp 5) rfl rfl (by first | exact .inl rfl | exact .inr rfl) rfl (by kernel_rfl) (by kernel_rfl) (by kernel_rfl) (fun _ _ _ h => h) (by assumption) ?_
          simp only [List.setIfInBounds_toArray, List.set_cons_zero, List.set_cons_succ]
          refine take_move 3 (Operand.tmp 8) rfl rfl (by first | exact .inl rfl | exact .inr rfl) rfl (by kernel_rfl) (by kernel_rfl) (by kernel_rfl) (fun _ _ _ h => h) (by assumption) ?_
          simp only [List.setIfInBounds_toArray, List.set_cons_zero, List.set_cons_succ]
          refine take_op (v := ?vu3x4) 4 (Op.binOp BinOp.sub 3 (Operand.tmp 45) (Operand.const (Value.int IntKind.i64 1)) 3) 3 rfl rfl rfl rfl rfl (by kernel_rfl) (by kernel_rfl) (by kernel_rfl) (fun _ _ _ h => h) ?yu3x4 (by assumption) ?ru3x4
          case yu3x4 => (intro w' hSw; (try dsimp only at hSw); go_simp; try (with_reducible rfl))
          simp only [List.setIfInBounds_toArray, List.set_cons_zero, List.set_cons_succ]
          refine take_op (v := ?vu3x5) 5 (Op.nilCheck (Operand.tmp 44)) 0 rfl rfl rfl rfl rfl (by kernel_rfl) (by kernel_rfl) (by kernel_rfl) (fun _ _ _ h => h) ?yu3x5 (by assumption) ?ru3x5
          case yu3x5 => (intro w' hSw; (try dsimp only at hSw); go_simp; try (with_reducible rfl))
          simp only [List.setIfInBounds_toArray, List.set_cons_zero, List.set_cons_succ]
          refine take_op (v := ?vu3x6) 6 (Op.fieldAddr 44 (Operand.tmp 47) 3) 0 rfl rfl rfl rfl rfl (by kernel_rfl) (by kernel_rfl) (by kernel_rfl) (fun _ _ _ h => h) ?yu3x6 (by assumption) ?ru3x6
          case yu3x6 => (intro w' hSw; (try dsimp only at hSw); go_simp; try (with_reducible rfl))
          simp only [List.setIfInBounds_toArray, List.set_cons_zero, List.set_cons_succ]
          refine take_op (v := ?vu3x7) 7 (Op.indexAddr 42 (Operand.tmp 48) (Operand.tmp 46)) 0 rfl rfl rfl rfl rfl (by kernel_rfl) (by kernel_rfl) (by kernel_rfl) (fun _ _ _ h => h) ?yu3x7 (by assumption) ?ru3x7
          case yu3x7 => (intro w' hSw; (try dsimp only at hSw); go_simp; try (with_reducible rfl))
          simp only [List.setIfInBounds_toArray, List.set_cons_zero, List.set_cons_succ]
          refine take_op (v := ?vu3x8) 8 (Op.load 3 (Operand.tmp 49)) 3 rfl rfl rfl rfl rfl (by kernel_rfl) (by kernel_rfl) (by kernel_rfl) (fun _ _ _ h => h) ?yu3x8 (by assumption) ?ru3x8
          case yu3x8 => (intro w' hSw; (try dsimp only at hSw); go_simp; try (with_reducible rfl))
          simp only [List.setIfInBounds_toArray, List.set_cons_zero, List.set_cons_succ]
          refine take_move 9 (Operand.tmp 5) rfl rfl (by first | exact .inl rfl | exact .inr rfl) rfl (by kernel_rfl) (by kernel_rfl) (by kernel_rfl) (fun _ _ _ h => h) (by assumption) ?_
          simp only [List.setIfInBounds_toArray, List.set_cons_zero, List.set_cons_succ]
          refine take_move 10 (Operand.tmp 8) rfl rfl (by first | exact .inl rfl | exact .inr rfl) rfl (by kernel_rfl) (by kernel_rfl) (by kernel_rfl) (fun _ _ _ h => h) (by assumption) ?_
          simp only [List.setIfInBounds_toArray, List.set_cons_zero, List.set_cons_succ]
          refine take_op (v := ?vu3x11) 11 (Op.binOp BinOp.sub 3 (Operand.tmp 52) (Operand.const (Value.int IntKind.i64 1)) 3) 3 rfl rfl rfl rfl rfl (by kernel_rfl) (by kernel_rfl) (by kernel_rfl) (fun _ _ _ h => h) ?yu3x11 (by assumption) ?ru3x11
          case yu3x11 => (intro w' hSw; (try dsimp only at hSw); go_simp; try (with_reducible rfl))
          simp only [List.setIfInBounds_toArray, List.set_cons_zero, List.set_cons_succ]
          refine take_op (v := ?vu3x12) 12 (Op.nilCheck (Operand.tmp 51)) 0 rfl rfl rfl rfl rfl (by kernel_rfl) (by kernel_rfl) (by kernel_rfl) (fun _ _ _ h => h) ?yu3x12 (by assumption) ?ru3x12
          case yu3x12 => (intro w' hSw; (try dsimp only at hSw); go_simp; try (with_reducible rfl))
          simp only [List.setIfInBounds_toArray, List.set_cons_zero, List.set_cons_succ]
          refine take_op (v := ?vu3x13) 13 (Op.fieldAddr 44 (Operand.tmp 54) 2) 0 rfl rfl rfl rfl rfl (by kernel_rfl) (by kernel_rfl) (by kernel_rfl) (fun _ _ _ h => h) ?yu3x13 (by assumption) ?ru3x13
          case yu3x13 => (intro w' hSw; (try dsimp only at hSw); go_simp; try (with_reducible rfl))
          simp only [List.setIfInBounds_toArray, List.set_cons_zero, List.set_cons_succ]
          refine take_op (v := ?vu3x14) 14 (Op.indexAddr 42 (Operand.tmp 55) (Operand.tmp 53)) 0 rfl rfl rfl rfl rfl (by kernel_rfl) (by kernel_rfl) (by kernel_rfl) (fun _ _ _ h => h) ?yu3x14 (by assumption) ?ru3x14
          case yu3x14 => (intro w' hSw; (try dsimp only at hSw); go_simp; try (with_reducible rfl))
          simp only [List.setIfInBounds_toArray, List.set_cons_zero, List.set_cons_succ]
          refine take_op (v := ?vu3x15) 15 (Op.load 3 (Operand.tmp 56)) 3 rfl rfl rfl rfl rfl (by kernel_rfl) (by kernel_rfl) (by kernel_rfl) (fun _ _ _ h => h) ?yu3x15 (by assumption) ?ru3x15
          case yu3x15 => (intro w' hSw; (try dsimp only at hSw); go_simp; try (with_reducible rfl))
          simp only [List.setIfInBounds_toArray, List.set_cons_zero, List.set_cons_succ]
          refine take_op (v := ?vu3x16) 16 (Op.binOp BinOp.add 3 (Operand.tmp 50) (Operand.tmp 57) 3) 3 rfl rfl rfl rfl rfl (by kernel_rfl) (by kernel_rfl) (by kernel_rfl) (fun _ _ _ h => h) ?yu3x16 (by assumption) ?ru3x16
          case yu3x16 => (intro w' hSw; (try dsimp only at hSw); go_simp; try (with_reducible rfl))
          simp only [List.setIfInBounds_toArray, List.set_cons_zero, List.set_cons_succ]
          refine take_op (v := ?vu3x17) 17 (Op.binOp BinOp.shl 3 (Operand.tmp 58) (Operand.const (Value.int IntKind.u64 1)) 61) 3 rfl rfl rfl rfl rfl (by kernel_rfl) (by kernel_rfl) (by kernel_rfl) (fun _ _ _ h => h) ?yu3x17 (by assumption) ?ru3x17
          case yu3x17 => (intro w' hSw; (try dsimp only at hSw); go_simp; try (with_reducible rfl))
          simp only [List.setIfInBounds_toArray, List.set_cons_zero, List.set_cons_succ]
          refine take_op (v := ?vu3x18) 18 (Op.nilCheck (Operand.tmp 42)) 0 rfl rfl rfl rfl rfl (by kernel_rfl) (by kernel_rfl) (by kernel_rfl) (fun _ _ _ h => h) ?yu3x18 (by assumption) ?ru3x18
          case yu3x18 => (intro w' hSw; (try dsimp only at hSw); go_simp; try (with_reducible rfl))
          simp only [List.setIfInBounds_toArray, List.set_cons_zero, List.set_cons_succ]
          refine take_op (v := ?vu3x19) 19 (Op.fieldAddr 44 (Operand.tmp 60) 3) 0 rfl rfl rfl rfl rfl (by kernel_rfl) (by kernel_rfl) (by kernel_rfl) (fun _ _ _ h => h) ?yu3x19 (by assumption) ?ru3x19
          case yu3x19 => (intro w' hSw; (try dsimp only at hSw); go_simp; try (with_reducible rfl))
          simp only [List.setIfInBounds_toArray, List.set_cons_zero, List.set_cons_succ]
          refine take_op (v := ?vu3x20) 20 (Op.indexAddr 42 (Operand.tmp 61) (Operand.tmp 43)) 0 rfl rfl rfl rfl rfl (by kernel_rfl) (by kernel_rfl) (by kernel_rfl) (fun _ _ _ h => h) ?yu3x20 (by assumption) ?ru3x20
          case yu3x20 => (intro w' hSw; (try dsimp only at hSw); go_simp; try (with_reducible rfl))
          simp only [List.setIfInBounds_toArray, List.set_cons_zero, List.set_cons_succ]
          refine wpAnyH_ready (rs := [21]) (by kernel_rfl) (by simp) (AllReadyH.cons rfl (fun K21 hK21 => ?ku3x21) AllReadyH.nil)
          refine take_store 21 (Op.store 3 (Operand.tmp 62) (Operand.tmp 59)) 0 rfl rfl rfl (by kernel_rfl) (w' := wr.drew.setCell ⟨w1.heap.size + 1, 18 + (j + 1), none⟩ (.int .i64 (IntKind.i64.wrap (((fstL l j : Int) + (cntL l j : Int)) * 2)))) (by have cL := bC.cell_ (18 + (j + 1)) (CF1.out _); have fL := bC.frozen (18 + (j + 1)); go_simp; try (with_reducible rfl)) ?_
          refine hK21.out _ _ (⟨(blk_eq (bC.set (18 + (j + 1)) _) (CS1.out _)).cell_ (18 + j) (CFN.out _), (blk_eq (bC.set (18 + (j + 1)) _) (CS1.out _)).cell_ (2 + j) (CC.out _ _)⟩) (fun hHeld => ?_)
          refine wpAnyH_done (by kernel_rfl) ?_ _
          have bCN := blk_eq (bC.set (18 + (j + 1)) (.int .i64 (IntKind.i64.wrap (((fstL l j : Int) + (cntL l j : Int)) * 2)))) (CS1.out _)
          have bFN := bF.far (p := ⟨w1.heap.size + 1, 18 + (j + 1), none⟩) (by dsimp only; omega) (.int .i64 (IntKind.i64.wrap (((fstL l j : Int) + (cntL l j : Int)) * 2)))
          have HBN := HB.setCell (p := ⟨w1.heap.size + 1, 18 + (j + 1), none⟩) (by dsimp only; omega) (.int .i64 (IntKind.i64.wrap (((fstL l j : Int) + (cntL l j : Int)) * 2)))
          generalize wr.drew.setCell ⟨w1.heap.size + 1, 18 + (j + 1), none⟩ (.int .i64 (IntKind.i64.wrap (((fstL l j : Int) + (cntL l j : Int)) * 2))) = wm at *
          clear bC bF HB hHeld
          have hgm := bCN.lt
          go_wp2_with fail
          have hwp := HWP.out
          clear hwf
          refine wp_region_held_drew (S := (fun w' => w'.cell? ⟨w1.heap.size + 1, 34 + j, none⟩ = some (.int .i64 (plcL l j)) ∧ w'.cell? ⟨w1.heap.size + 1, 2 + j, none⟩ = some (.int .i64 (cntL l j)))) (by kernel_rfl) ?_ (fun hHeld => ?_)
          · replace HBN := Below.drew HBN; replace bCN := Blk.drew bCN; replace bFN := Blk.drew bFN; (try dsimp only); exact ⟨bCN.cell_ (34 + j) (CP.out _ (tab_len _)), bCN.cell_ (2 + j) (CC.out _ _)⟩
          replace HBN := Below.drew HBN
          replace bCN := Blk.drew bCN
          replace bFN := Blk.drew bFN
          have zHBN := HBN.size
          refine take_move 0 (Operand.tmp 5) rfl rfl (by first | exact .inl rfl | exact .inr rfl) rfl (by kernel_rfl) (by kernel_rfl) (by kernel_rfl) (fun _ _ _ h => h) (by assumption) ?_
          simp only [List.setIfInBounds_toArray, List.set_cons_zero, List.set_cons_succ]
          refine take_move 1 (Operand.tmp 8) rfl rfl (by first | exact .inl rfl | exact .inr rfl) rfl (by kernel_rfl) (by kernel_rfl) (by kernel_rfl) (fun _ _ _ h => h) (by assumption) ?_
          simp only [List.setIfInBounds_toArray, List.set_cons_zero, List.set_cons_succ]
          refine take_move 2 (Operand.tmp 5) rfl rfl (by first | exact .inl rfl | exact .inr rfl) rfl (by kernel_rfl) (by kernel_rfl) (by kernel_rfl) (fun _ _ _ h => h) (by assumption) ?_
          simp only [List.setIfInBounds_toArray, List.set_cons_zero, List.set_cons_succ]
          refine take_move 3 (Operand.tmp 8) rfl rfl (by first | exact .inl rfl | exact .inr rfl) rfl (by kernel_rfl) (by kernel_rfl) (by kernel_rfl) (fun _ _ _ h => h) (by assumption) ?_
          simp only [List.setIfInBounds_toArray, List.set_cons_zero, List.set_cons_succ]
          refine take_op (v := ?vu2t3x4) 4 (Op.binOp BinOp.sub 3 (Operand.tmp 66) (Operand.const (Value.int IntKind.i64 1)) 3) 3 rfl rfl rfl rfl rfl (by kernel_rfl) (by kernel_rfl) (by kernel_rfl) (fun _ _ _ h => h) ?yu2t3x4 (by assumption) ?ru2t3x4
          case yu2t3x4 => (intro w' hSw; (try dsimp only at hSw); go_simp; try (with_reducible rfl))
          simp only [List.setIfInBounds_toArray, List.set_cons_zero, List.set_cons_succ]
          refine take_op (v := ?vu2t3x5) 5 (Op.nilCheck (Operand.tmp 65)) 0 rfl rfl rfl rfl rfl (by kernel_rfl) (by kernel_rfl) (by kernel_rfl) (fun _ _ _ h => h) ?yu2t3x5 (by assumption) ?ru2t3x5
          case yu2t3x5 => (intro w' hSw; (try dsimp only at hSw); go_simp; try (with_reducible rfl))
          simp only [List.setIfInBounds_toArray, List.set_cons_zero, List.set_cons_succ]
          refine take_op (v := ?vu2t3x6) 6 (Op.fieldAddr 44 (Operand.tmp 68) 4) 0 rfl rfl rfl rfl rfl (by kernel_rfl) (by kernel_rfl) (by kernel_rfl) (fun _ _ _ h => h) ?yu2t3x6 (by assumption) ?ru2t3x6
          case yu2t3x6 => (intro w' hSw; (try dsimp only at hSw); go_simp; try (with_reducible rfl))
          simp only [List.setIfInBounds_toArray, List.set_cons_zero, List.set_cons_succ]
          refine take_op (v := ?vu2t3x7) 7 (Op.indexAddr 42 (Operand.tmp 69) (Operand.tmp 67)) 0 rfl rfl rfl rfl rfl (by kernel_rfl) (by kernel_rfl) (by kernel_rfl) (fun _ _ _ h => h) ?yu2t3x7 (by assumption) ?ru2t3x7
          case yu2t3x7 => (intro w' hSw; (try dsimp only at hSw); go_simp; try (with_reducible rfl))
          simp only [List.setIfInBounds_toArray, List.set_cons_zero, List.set_cons_succ]
          refine take_op (v := ?vu2t3x8) 8 (Op.load 3 (Operand.tmp 70)) 3 rfl rfl rfl rfl rfl (by kernel_rfl) (by kernel_rfl) (by kernel_rfl) (fun _ _ _ h => h) ?yu2t3x8 (by assumption) ?ru2t3x8
          case yu2t3x8 => (intro w' hSw; (try dsimp only at hSw); go_simp; try (with_reducible rfl))
          simp only [List.setIfInBounds_toArray, List.set_cons_zero, List.set_cons_succ]
          refine take_move 9 (Operand.tmp 5) rfl rfl (by first | exact .inl rfl | exact .inr rfl) rfl (by kernel_rfl) (by kernel_rfl) (by kernel_rfl) (fun _ _ _ h => h) (by assumption) ?_
          simp only [List.setIfInBounds_toArray, List.set_cons_zero, List.set_cons_succ]
          refine take_move 10 (Operand.tmp 8) rfl rfl (by first | exact .inl rfl | exact .inr rfl) rfl (by kernel_rfl) (by kernel_rfl) (by kernel_rfl) (fun _ _ _ h => h) (by assumption) ?_
          simp only [List.setIfInBounds_toArray, List.set_cons_zero, List.set_cons_succ]
          refine take_op (v := ?vu2t3x11) 11 (Op.binOp BinOp.sub 3 (Operand.tmp 73) (Operand.const (Value.int IntKind.i64 1)) 3) 3 rfl rfl rfl rfl rfl (by kernel_rfl) (by kernel_rfl) (by kernel_rfl) (fun _ _ _ h => h) ?yu2t3x11 (by assumption) ?ru2t3x11
          case yu2t3x11 => (intro w' hSw; (try dsimp only at hSw); go_simp; try (with_reducible rfl))
          simp only [List.setIfInBounds_toArray, List.set_cons_zero, List.set_cons_succ]
          refine take_op (v := ?vu2t3x12) 12 (Op.nilCheck (Operand.tmp 72)) 0 rfl rfl rfl rfl rfl (by kernel_rfl) (by kernel_rfl) (by kernel_rfl) (fun _ _ _ h => h) ?yu2t3x12 (by assumption) ?ru2t3x12
          case yu2t3x12 => (intro w' hSw; (try dsimp only at hSw); go_simp; try (with_reducible rfl))
          simp only [List.setIfInBounds_toArray, List.set_cons_zero, List.set_cons_succ]
          refine take_op (v := ?vu2t3x13) 13 (Op.fieldAddr 44 (Operand.tmp 75) 2) 0 rfl rfl rfl rfl rfl (by kernel_rfl) (by kernel_rfl) (by kernel_rfl) (fun _ _ _ h => h) ?yu2t3x13 (by assumption) ?ru2t3x13
          case yu2t3x13 => (intro w' hSw; (try dsimp only at hSw); go_simp; try (with_reducible rfl))
          simp only [List.setIfInBounds_toArray, List.set_cons_zero, List.set_cons_succ]
          refine take_op (v := ?vu2t3x14) 14 (Op.indexAddr 42 (Operand.tmp 76) (Operand.tmp 74)) 0 rfl rfl rfl rfl rfl (by kernel_rfl) (by kernel_rfl) (by kernel_rfl) (fun _ _ _ h => h) ?yu2t3x14 (by assumption) ?ru2t3x14
          case yu2t3x14 => (intro w' hSw; (try dsimp only at hSw); go_simp; try (with_reducible rfl))
          simp only [List.setIfInBounds_toArray, List.set_cons_zero, List.set_cons_succ]
          refine take_op (v := ?vu2t3x15) 15 (Op.load 3 (Operand.tmp 77)) 3 rfl rfl rfl rfl rfl (by kernel_rfl) (by kernel_rfl) (by kernel_rfl) (fun _ _ _ h => h) ?yu2t3x15 (by assumption) ?ru2t3x15
          case yu2t3x15 => (intro w' hSw; (try dsimp only at hSw); go_simp; try (with_reducible rfl))
          simp only [List.setIfInBounds_toArray, List.set_cons_zero, List.set_cons_succ]
          refine take_op (v := ?vu2t3x16) 16 (Op.binOp BinOp.add 3 (Operand.tmp 71) (Operand.tmp 78) 3) 3 rfl rfl rfl rfl rfl (by kernel_rfl) (by kernel_rfl) (by kernel_rfl) (fun _ _ _ h => h) ?yu2t3x16 (by assumption) ?ru2t3x16
          case yu2t3x16 => (intro w' hSw; (try dsimp only at hSw); go_simp; try (with_reducible rfl))
          simp only [List.setIfInBounds_toArray, List.set_cons_zero, List.set_cons_succ]
          refine take_op (v := ?vu2t3x17) 17 (Op.nilCheck (Operand.tmp 63)) 0 rfl rfl rfl rfl rfl (by kernel_rfl) (by kernel_rfl) (by kernel_rfl) (fun _ _ _ h => h) ?yu2t3x17 (by assumption) ?ru2t3x17
          case yu2t3x17 => (intro w' hSw; (try dsimp only at hSw); go_simp; try (with_reducible rfl))
          simp only [List.setIfInBounds_toArray, List.set_cons_zero, List.set_cons_succ]
          refine take_op (v := ?vu2t3x18) 18 (Op.fieldAddr 44 (Operand.tmp 80) 4) 0 rfl rfl rfl rfl rfl (by kernel_rfl) (by kernel_rfl) (by kernel_rfl) (fun _ _ _ h => h) ?yu2t3x18 (by assumption) ?ru2t3x18
          case yu2t3x18 => (intro w' hSw; (try dsimp only at hSw); go_simp; try (with_reducible rfl))
          simp only [List.setIfInBounds_toArray, List.set_cons_zero, List.set_cons_succ]
          refine take_op (v := ?vu2t3x19) 19 (Op.indexAddr 42 (Operand.tmp 81) (Operand.tmp 64)) 0 rfl rfl rfl rfl rfl (by kernel_rfl) (by kernel_rfl) (by kernel_rfl) (fun _ _ _ h => h) ?yu2t3x19 (by assumption) ?ru2t3x19
          case yu2t3x19 => (intro w' hSw; (try dsimp only at hSw); go_simp; try (with_reducible rfl))
          simp only [List.setIfInBounds_toArray, List.set_cons_zero, List.set_cons_succ]
          refine wpAnyH_ready (rs := [20]) (by kernel_rfl) (by simp) (AllReadyH.cons rfl (fun K20 hK20 => ?ku2t3x20) AllReadyH.nil)
          refine take_store 20 (Op.store 3 (Operand.tmp 82) (Operand.tmp 79)) 0 rfl rfl rfl (by kernel_rfl) (w' := wm.drew.setCell ⟨w1.heap.size + 1, 34 + (j + 1), none⟩ (.int .i64 ((plcL l j : Int) + (cntL l j : Int)))) (by have cL := bCN.cell_ (34 + (j + 1)) (CP1.out _ (tab_len _)); have fL := bCN.frozen (34 + (j + 1)); go_simp; try (with_reducible rfl)) ?_
          refine hK20.out _ _ (⟨(blk_eq (bCN.set (34 + (j + 1)) _) (CS2.out _ (tab_len _))).cell_ (34 + j) (CPN.out _ (tab_len _)), (blk_eq (bCN.set (34 + (j + 1)) _) (CS2.out _ (tab_len _))).cell_ (2 + j) (CC.out _ _)⟩) (fun hHeld => ?_)
          refine wpAnyH_done (by kernel_rfl) ?_ _
          have bCM := blk_eq (bCN.set (34 + (j + 1)) (.int .i64 ((plcL l j : Int) + (cntL l j : Int)))) (CS2.out _ (tab_len _))
          have bFM := bFN.far (p := ⟨w1.heap.size + 1, 34 + (j + 1), none⟩) (by dsimp only; omega) (.int .i64 ((plcL l j : Int) + (cntL l j : Int)))
          have HBM := HBN.setCell (p := ⟨w1.heap.size + 1, 34 + (j + 1), none⟩) (by dsimp only; omega) (.int .i64 ((plcL l j : Int) + (cntL l j : Int)))
          generalize wm.drew.setCell ⟨w1.heap.size + 1, 34 + (j + 1), none⟩ (.int .i64 ((plcL l j : Int) + (cntL l j : Int))) = wz at *
          clear bCN bFN HBN hHeld hwj hwj1 hwp
          go_wp2_with fail
          go_roundw
          case rel => exact ⟨j + 1 + 1, by go_num, by omega, by omega, bCM, bFM, HBM⟩
          case measure => simp [intOf]; omega
        · have hk6 : k = 16 := by omega
          subst hk6
          have hfu : tab (upTo (fstL l) 16) = tab (fstL l) := tab_ext _ _ fun j hj => by unfold upTo; rw [if_pos hj]
          have hpu : tab (upTo (plcL l) 16) = tab (plcL l) := tab_ext _ _ fun j hj => by unfold upTo; rw [if_pos hj]
          rw [hfu, hpu] at bC4
          clear hfu hpu
          have hfb : ∀ j, j < 16 → fstL l j ≤ 20000000 := fun j hj => by
            have h1 := fstL_le l j
            have h2 : 2 * l.length * 2 ^ j ≤ 514 * 32768 := Nat.mul_le_mul (by omega) (Nat.pow_le_pow_right (n := 2) (by omega) (show j ≤ 15 by omega))
            omega
          have hA : 0 < n → ∀ k, blkOf A = some k → k ≠ w1.heap.size + 1 ∧ k ≠ w1.heap.size := fun h0 k hk2 => by
            obtain ⟨b, o, rfl, hb, _⟩ := h.at_ h0
            simp only [blkOf, Option.map_some, Option.some.injEq] at hk2
            omega
          have CN := number_any A n c (w1.heap.size + 1) w1.heap.size l wr hk ((h.below HB4).more HB4.size) hn3 hA w1.heap.size (by omega) (by omega) HB4.size hfb (by omega) bC4 bF4
          clear bF4
          go_wp2_with fail
          refine CN.mono ?_
          rintro e w5 ⟨rfl, gS, hgS, b1, b2, b3, HB5⟩
          go_wp2_with fail
          go_ret2
          refine ⟨w1.heap.size + 1, rfl, ⟨w1.heap.size, gS, by omega, by omega, by have := HB4.size; omega, ?_, b2, b3⟩, HB4.trans HB5⟩
          rw [hl]
          exact b1
end LenW
end Go.Proofs.Ytedoeplhjmkllaa
