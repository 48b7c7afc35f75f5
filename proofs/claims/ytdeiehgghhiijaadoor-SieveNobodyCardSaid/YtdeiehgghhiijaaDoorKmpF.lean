/- The walks of package kmp: the borders. -/
import Derived.Test.YtdeiehgghhiijaaDoorKmpW
import Derived.Test.YtdeiehgghhiijaaDoorReg2
import Derived.Deep.OwnRows
namespace Go.Proofs.YtdeiehgghhiijaaDoor
set_option linter.unusedVariables false
set_option linter.unusedSimpArgs false
set_option linter.unnecessarySimpa false
open Go.RowKit
namespace KmpW

/-- The row of the borders: the first i are told. -/
def fc (p : List UInt8) (m i : Nat) : List Value := (List.range m).map fun j => .int .i64 ((if j < i then brd p j else 0 : Nat) : Int)
theorem fc_len (p : List UInt8) (m i : Nat) : (fc p m i).length = m := by simp [fc]
theorem fc_get {p : List UInt8} {m i j : Nat} (hj : j < m) : (fc p m i).toArray[j]? = some (.int .i64 ((if j < i then brd p j else 0 : Nat) : Int)) := by
  rw [List.getElem?_toArray, fc, List.getElem?_map, List.getElem?_range hj]
  rfl
theorem fc_at {p : List UInt8} {m i j : Nat} (hj : j < m) (hi : j < i) : (fc p m i).toArray[j]? = some (.int .i64 (brd p j : Nat)) := by
  rw [fc_get hj, if_pos hi]
theorem fc_all {p : List UInt8} {m i : Nat} (h : m ≤ i) : fc p m i = fc p m m := by
  unfold fc
  refine List.map_congr_left fun j hj => ?_
  have := List.mem_range.1 hj
  rw [if_pos (by omega), if_pos this]
theorem fc_set {p : List UInt8} {m i : Nat} (h : i < m) : (fc p m i).toArray.setIfInBounds i (.int .i64 (brd p i : Nat)) = (fc p m (i + 1)).toArray := by
  rw [List.setIfInBounds_toArray]
  congr 1
  apply List.ext_getElem
  · simp [fc]
  · intro j h1 h2
    rw [List.getElem_set]
    have hj : j < m := by rw [fc_len] at h2; exact h2
    split
    · rename_i e
      subst e
      simp [fc]
    · rename_i e
      simp only [fc, List.getElem_map, List.getElem_range]
      by_cases hji : j < i
      · rw [if_pos hji, if_pos (by omega)]
      · rw [if_neg hji, if_neg (by omega)]
theorem fc_start (p : List UInt8) (m : Nat) : (fc p m 1).toArray = madeCells #[.int .i64 0] m := by
  apply Array.ext'
  apply List.ext_getElem
  · simp [fc, madeCells]
  · intro j h1 h2
    simp only [fc, List.getElem_map, List.getElem_range, madeCells]
    have hz : (if j < 1 then brd p j else 0) = 0 := by
      split
      · rename_i h
        obtain rfl : j = 0 := by omega
        exact brd_zero p
      · rfl
    rw [hz]
    simp [Nat.mod_one]
theorem step_in (p : List UInt8) (q g m : Nat) (w : World) (hm : p.length = m) (hq : q + 1 < m) (hp : m ≤ 100000) (h : Blk w g 3 (fc p m (q + 1)).toArray) (b : UInt8) (hb : p[q + 1]'(by omega) = b) :
    Calls Tryd.prog 114 #[str p, .slice (some ⟨g, 0, none⟩) m m, .int .i64 (brd p q : Nat), .int .u8 (b.toNat : Int)] w fun e w' => e = .returned (.int .i64 (brd p (q + 1) : Nat)) ∧ w = w' ∧ Below w.heap.size w w' := by
  subst hb
  have hl : M p ((p.drop 1).take q) ≤ q := brd_lt
  refine (step_any p ((p.drop 1).take q) (p[q + 1]'(by omega)) (some ⟨g, 0, none⟩) m m w (by omega) (by omega) (by omega) ?_ _ (brd_succ p q (by omega)).symm).mono ?_
  · intro _
    refine ⟨g, 0, rfl, fun j hj => ?_⟩
    rw [Nat.zero_add]
    exact h.cell_ j (fc_at (by omega) (by omega))
  · rintro e w' ⟨rfl, rfl⟩
    exact ⟨rfl, rfl, Below.refl _ _⟩

set_option maxRecDepth 100000 in
set_option maxHeartbeats 4000000 in
theorem fail_any (p : List UInt8) (w : World) (hp : p.length ≤ 100000) (m : Nat) (hm : p.length = m) :
    Calls Tryd.prog 113 #[str p] w fun e w' => e = .returned (.slice (some ⟨w.heap.size, 0, none⟩) m m) ∧ Blk w' w.heap.size 3 (fc p m m).toArray ∧ Below w.heap.size w w' := by
  subst hm
  have hmk : (Instr.makeSlice 73 (.int .i64 p.length) (.int .i64 p.length)).run Tryd.prog w = .ok (.slice (some ⟨w.heap.size, 0, none⟩) p.length p.length) (w.alloc (.cells (madeCells #[.int .i64 0] p.length) 3)) :=
    run_make_row' 73 3 (.int .i64 0) 8 Tryd.underlying73 (by kernel_rfl) rfl .i64 .i64 p.length (by omega) (by omega) w
  have hA := Blk.new w 3 (madeCells #[.int .i64 0] p.length)
  rw [← fc_start p p.length] at hA hmk
  have hB0 : Below w.heap.size w (w.alloc (.cells (fc p p.length 1).toArray 3)) := (Below.refl _ _).alloc (Nat.le_refl _) _
  have hs0 : w.heap.size + 1 ≤ (w.alloc (.cells (fc p p.length 1).toArray 3)).heap.size := by simp
  go_enter Tryd.func113, Tryd.ntmps113
  go_wp2_with fail
  clear hmk
  generalize w.alloc (.cells (fc p p.length 1).toArray 3) = W1 at *
  go_loopw [4] (fun i wr => ∃ q : Nat, i = .int .i64 ((q + 1 : Nat) : Int) ∧ (q = 0 ∨ q + 1 ≤ p.length) ∧ Blk wr w.heap.size 3 (fc p p.length (q + 1)).toArray ∧ Below w.heap.size w wr ∧ w.heap.size + 1 ≤ wr.heap.size) (fun i _ => p.length - (intOf i).toNat)
  case atStart => exact ⟨0, rfl, .inl rfl, hA, hB0, hs0⟩
  case round =>
    obtain ⟨q, rfl, hq, bA, HB, hs⟩ := hrel
    clear hA hB0 hs0
    by_cases hlt : q + 1 < p.length
    · have hpq : q + 1 < p.length := by omega
      obtain ⟨cb, hb, hb'⟩ : ∃ x, (⟨p.toArray⟩ : ByteArray)[q + 1]'(by show q + 1 < p.toArray.size; simpa using hpq) = x ∧ p[q + 1] = x := ⟨_, rfl, rfl⟩
      have hcb := cb.toNat_lt
      have hsi : ((q : Int) + 1) < (p.length : Int) := by omega
      have hca : (q : Int) + 1 - 1 = (q : Int) := by omega
      have hqm : (q : Int) < (p.length : Int) := by omega
      have hq0 : (0 : Int) ≤ (q : Int) := by omega
      have hwq : IntKind.i64.wrap (q : Int) = (q : Int) := IntWalk.i64_in _ (by omega)
      have hwq1 : IntKind.i64.wrap ((q : Int) + 1) = (q : Int) + 1 := IntWalk.i64_in _ (by omega)
      have hq1 : (0 : Int) ≤ (q : Int) + 1 := by omega
      have C := fun v h => step_in p q w.heap.size p.length v rfl hlt (by omega) h cb hb'
      clear hb'
      go_wp2_with fail
      have zHB := HB.size
      refine wp_region_held_drew (S := (fun w' => w'.cell? ⟨w.heap.size, q, none⟩ = some (.int .i64 (brd p q : Nat)))) (by kernel_rfl) ?_ (fun hHeld => ?_)
      · replace HB := Below.drew HB; replace bA := Blk.drew bA; (try dsimp only); exact bA.cell_ q (fc_at (by omega) (by omega))
      replace HB := Below.drew HB
      replace bA := Blk.drew bA
      have zHB := HB.size
      refine take_movev (v := ?vu1x0) 0 (Operand.tmp 3) rfl rfl (by first | exact .inl rfl | exact .inr rfl) rfl (by kernel_rfl) (by kernel_rfl) (by kernel_rfl) (fun _ _ _ h => h) (by assumption) ?yu1x0 ?ru1x0
      case yu1x0 => (go_simp; try (with_reducible rfl))
      simp only [List.setIfInBounds_toArray, List.set_cons_zero, List.set_cons_succ]
      refine take_movev (v := ?vu1x1) 1 (Operand.tmp 4) rfl rfl (by first | exact .inl rfl | exact .inr rfl) rfl (by kernel_rfl) (by kernel_rfl) (by kernel_rfl) (fun _ _ _ h => h) (by assumption) ?yu1x1 ?ru1x1
      case yu1x1 => (go_simp; try (with_reducible rfl))
      simp only [List.setIfInBounds_toArray, List.set_cons_zero, List.set_cons_succ]
      refine take_movev (v := ?vu1x2) 2 (Operand.tmp 0) rfl rfl (by first | exact .inl rfl | exact .inr rfl) rfl (by kernel_rfl) (by kernel_rfl) (by kernel_rfl) (fun _ _ _ h => h) (by assumption) ?yu1x2 ?ru1x2
      case yu1x2 => (go_simp; try (with_reducible rfl))
      simp only [List.setIfInBounds_toArray, List.set_cons_zero, List.set_cons_succ]
      refine take_movev (v := ?vu1x3) 3 (Operand.tmp 3) rfl rfl (by first | exact .inl rfl | exact .inr rfl) rfl (by kernel_rfl) (by kernel_rfl) (by kernel_rfl) (fun _ _ _ h => h) (by assumption) ?yu1x3 ?ru1x3
      case yu1x3 => (go_simp; try (with_reducible rfl))
      simp only [List.setIfInBounds_toArray, List.set_cons_zero, List.set_cons_succ]
      refine take_movev (v := ?vu1x4) 4 (Operand.tmp 3) rfl rfl (by first | exact .inl rfl | exact .inr rfl) rfl (by kernel_rfl) (by kernel_rfl) (by kernel_rfl) (fun _ _ _ h => h) (by assumption) ?yu1x4 ?ru1x4
      case yu1x4 => (go_simp; try (with_reducible rfl))
      simp only [List.setIfInBounds_toArray, List.set_cons_zero, List.set_cons_succ]
      refine take_movev (v := ?vu1x5) 5 (Operand.tmp 4) rfl rfl (by first | exact .inl rfl | exact .inr rfl) rfl (by kernel_rfl) (by kernel_rfl) (by kernel_rfl) (fun _ _ _ h => h) (by assumption) ?yu1x5 ?ru1x5
      case yu1x5 => (go_simp; try (with_reducible rfl))
      simp only [List.setIfInBounds_toArray, List.set_cons_zero, List.set_cons_succ]
      refine take_op (v := ?vu1x6) 6 (Op.binOp BinOp.sub 3 (Operand.tmp 19) (Operand.const (Value.int IntKind.i64 1)) 3) 3 rfl rfl rfl rfl rfl (by kernel_rfl) (by kernel_rfl) (by kernel_rfl) (fun _ _ _ h => h) ?yu1x6 (by assumption) ?ru1x6
      case yu1x6 => (intro w' hSw; (try dsimp only at hSw); go_simp; try (with_reducible rfl))
      simp only [List.setIfInBounds_toArray, List.set_cons_zero, List.set_cons_succ]
      refine take_op (v := ?vu1x7) 7 (Op.indexAddr 73 (Operand.tmp 18) (Operand.tmp 20)) 0 rfl rfl rfl rfl rfl (by kernel_rfl) (by kernel_rfl) (by kernel_rfl) (fun _ _ _ h => h) ?yu1x7 (by assumption) ?ru1x7
      case yu1x7 => (intro w' hSw; (try dsimp only at hSw); go_simp; try (with_reducible rfl))
      simp only [List.setIfInBounds_toArray, List.set_cons_zero, List.set_cons_succ]
      refine take_op (v := ?vu1x8) 8 (Op.load 3 (Operand.tmp 21)) 3 rfl rfl rfl rfl rfl (by kernel_rfl) (by kernel_rfl) (by kernel_rfl) (fun _ _ _ h => h) ?yu1x8 (by assumption) ?ru1x8
      case yu1x8 => (intro w' hSw; (try dsimp only at hSw); go_simp; try (with_reducible rfl))
      simp only [List.setIfInBounds_toArray, List.set_cons_zero, List.set_cons_succ]
      refine take_movev (v := ?vu1x9) 9 (Operand.tmp 0) rfl rfl (by first | exact .inl rfl | exact .inr rfl) rfl (by kernel_rfl) (by kernel_rfl) (by kernel_rfl) (fun _ _ _ h => h) (by assumption) ?yu1x9 ?ru1x9
      case yu1x9 => (go_simp; try (with_reducible rfl))
      simp only [List.setIfInBounds_toArray, List.set_cons_zero, List.set_cons_succ]
      refine take_movev (v := ?vu1x10) 10 (Operand.tmp 4) rfl rfl (by first | exact .inl rfl | exact .inr rfl) rfl (by kernel_rfl) (by kernel_rfl) (by kernel_rfl) (fun _ _ _ h => h) (by assumption) ?yu1x10 ?ru1x10
      case yu1x10 => (go_simp; try (with_reducible rfl))
      simp only [List.setIfInBounds_toArray, List.set_cons_zero, List.set_cons_succ]
      refine take_op (v := ?vu1x11) 11 (Op.index 9 (Operand.tmp 23) (Operand.tmp 24)) 5 rfl rfl rfl rfl rfl (by kernel_rfl) (by kernel_rfl) (by kernel_rfl) (fun _ _ _ h => h) ?yu1x11 (by assumption) ?ru1x11
      case yu1x11 => (intro w' hSw; (try dsimp only at hSw); go_simp; try (with_reducible rfl))
      simp only [List.setIfInBounds_toArray, List.set_cons_zero, List.set_cons_succ]
      refine wpAnyH_ready (rs := [12]) (by kernel_rfl) (by simp) (AllReadyH.cons rfl (fun K12 hK12 => ?ku1x12) AllReadyH.nil)
      refine take_calls 12 114 [Operand.tmp 16, Operand.tmp 17, Operand.tmp 22, Operand.tmp 25] #[9, 73, 3, 5] rfl rfl (by kernel_rfl) (fun args w => run_enter Tryd.func114 (by kernel_rfl) rfl args w) ?_
      refine (C _ bA).mono ?_
      rintro e w12 ⟨rfl, hww, hb12⟩
      refine ⟨_, rfl, ?_⟩
      have z12 := hb12.size
      try simp only [World.size_drew] at z12
      replace HB := HB.trans (hb12.mono (by first | exact HB.size | omega))
      have zHB12 := HB.size
      replace bA := Blk.below bA hb12 (by first | exact Nat.le_refl _ | (simp only [World.size_alloc, World.size_setCell, World.size_drew] at *; omega) | omega)
      refine hK12.out _ _ ?su1x12 (fun hHeld => ?ru1x12)
      case su1x12 => ((try dsimp only); exact bA.cell_ q (fc_at (by omega) (by omega)))
      try simp only [List.setIfInBounds_toArray, List.set_cons_zero, List.set_cons_succ]
      refine take_op (v := ?vu1x13) 13 (Op.indexAddr 73 (Operand.tmp 14) (Operand.tmp 15)) 0 rfl rfl rfl rfl rfl (by kernel_rfl) (by kernel_rfl) (by kernel_rfl) (fun _ _ _ h => h) ?yu1x13 (by assumption) ?ru1x13
      case yu1x13 => (intro w' hSw; (try dsimp only at hSw); go_simp; try (with_reducible rfl))
      simp only [List.setIfInBounds_toArray, List.set_cons_zero, List.set_cons_succ]
      refine wpAnyH_ready (rs := [14]) (by kernel_rfl) (by simp) (AllReadyH.cons rfl (fun K14 hK14 => ?ku1x14) AllReadyH.nil)
      refine take_store 14 (Op.store 3 (Operand.tmp 27) (Operand.tmp 26)) 0 rfl rfl rfl (by kernel_rfl) (w' := w12.setCell ⟨w.heap.size, q + 1, none⟩ (.int .i64 (brd p (q + 1) : Nat))) (by have cL := bA.cell_ (q + 1) (fc_get hlt); have fL := bA.frozen (q + 1); go_simp; try (with_reducible rfl)) ?_
      refine hK14.out _ _ ((bA.set (q + 1) _).cell_ q (by rw [fc_set hlt]; exact fc_at (by omega) (by omega))) (fun hHeld => ?_)
      refine wpAnyH_done (by kernel_rfl) ?_ _
      have bN := blk_eq (bA.set (q + 1) (.int .i64 (brd p (q + 1) : Nat))) (fc_set hlt)
      have HN : Below w.heap.size w (w12.setCell ⟨w.heap.size, q + 1, none⟩ (.int .i64 (brd p (q + 1) : Nat))) := HB.setCell (p := ⟨w.heap.size, q + 1, none⟩) (Nat.le_refl _) _
      have hsN : w.heap.size + 1 ≤ (w12.setCell ⟨w.heap.size, q + 1, none⟩ (.int .i64 (brd p (q + 1) : Nat))).heap.size := by have := bA.lt; simp only [World.size_setCell]; omega
      go_wp2_with fail
      go_roundw
      case rel => exact ⟨q + 1, by go_num, .inr (by omega), bN, HN, hsN⟩
      case measure => simp [intOf]; omega
    · have hlI : ¬ ((q : Int) + 1) < (p.length : Int) := by omega
      rw [fc_all (by omega)] at bA
      go_wp2_with fail
      go_ret
      exact ⟨rfl, bA, HB⟩
end KmpW
end Go.Proofs.YtdeiehgghhiijaaDoor
