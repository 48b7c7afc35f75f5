/- The walks of package canon: each symbol gets its word. -/
import Derived.Test.YtedoeplhjmkllaaCanW
import Derived.Test.YtedoeplhjmkllaaSkpD
namespace Go.Proofs.Ytedoeplhjmkllaa
set_option linter.unusedVariables false
set_option linter.unusedSimpArgs false
set_option linter.unnecessarySimpa false
open Go.RowKit
namespace LenW

def nxt (l : List Int) (k : Nat) : Nat → Nat := fun i => fstL l i + cntL (l.take k) i
theorem nxt_zero (l : List Int) : tab (nxt l 0) = tab (fstL l) := tab_ext _ _ fun j _ => by simp [nxt, cntL]
theorem nxt_skip (l : List Int) (k : Nat) (h : k < l.length) (hp : ¬ 0 < l[k]) : tab (nxt l (k + 1)) = tab (nxt l k) :=
  tab_ext _ _ fun j _ => by unfold nxt; rw [cntL_snoc l k j h, if_neg (fun e => hp e.1)]; omega
theorem nxt_step (l : List Int) (k y : Nat) (h : k < l.length) (hx : l[k] = (y : Int)) (hp : 0 < y) : (tab (nxt l k)).set y ((nxt l k y : Int) + 1) = tab (nxt l (k + 1)) :=
  tab_set _ _ y _ (by unfold nxt; rw [cntL_snoc l k y h, if_pos ⟨by omega, hx⟩]; push_cast; omega) (fun j _ hj => by unfold nxt; rw [cntL_snoc l k j h, if_neg (by omega)]; omega)
theorem fcells_set (l : List (Int × Int)) (k : Nat) (h : k < l.length) (a b : Int) : fcells (l.set k (a, b)) = ((fcells l).set (k * 2) (.int .i64 a)).set (k * 2 + 1) (.int .i64 b) := by
  induction l generalizing k with
  | nil => simp at h
  | cons p l ih =>
    cases k with
    | zero => rfl
    | succ k =>
      have := ih k (by simpa using h)
      rw [List.set_cons_succ, show fcells (p :: l.set k (a, b)) = .int .i64 p.1 :: .int .i64 p.2 :: fcells (l.set k (a, b)) from rfl, this, show fcells (p :: l) = .int .i64 p.1 :: .int .i64 p.2 :: fcells l from rfl, show (k + 1) * 2 = k * 2 + 2 from by omega]
      simp [List.set_cons_succ]

set_option maxRecDepth 100000 in
set_option maxHeartbeats 8000000 in
theorem number_any (A : Option Addr) (n c g gW : Nat) (l : List Int) (w : World) (hk : chkL l = 0) (h : Rd w w.heap.size 1 A n (ints l)) (hn : n ≤ 257) (hA : 0 < n → ∀ k, blkOf A = some k → k ≠ g ∧ k ≠ gW) (B : Nat) (hB1 : B ≤ g) (hB2 : B ≤ gW) (hB3 : B ≤ w.heap.size)
    (hfb : ∀ j, j < 16 → fstL l j ≤ 20000000) (hne : g ≠ gW)
    (bC : Blk w g 44 (codeC (.slice (some ⟨gW, 0, none⟩) n n) (.slice none 0 0) (tab (cntL l)) (tab (fstL l)) (tab (plcL l)) true)) (bF : Blk w gW 47 (fcells (List.replicate n (0, 0))).toArray) :
    Calls Try.prog 57 #[.pointer (some ⟨g, 0, none⟩), .slice A n c] w fun e w' => e = .returned (.tuple #[]) ∧ ∃ gS, w.heap.size ≤ gS ∧
      Blk w' g 44 (codeC (.slice (some ⟨gW, 0, none⟩) n n) (.slice (some ⟨gS, 0, none⟩) (usedL l) (usedL l)) (tab (cntL l)) (tab (fstL l)) (tab (plcL l)) true) ∧ Blk w' gW 47 (fcells (wordsF l)).toArray ∧ Blk w' gS 3 (ints (sortF l)).toArray ∧ Below B w w' := by
  obtain ⟨_, hok, hsum⟩ := chk0 hk
  have hl : l.length = n := rd_len h
  have CU := fun w HH => used_any A n c l w HH (by omega) _ rfl
  have hul := usedL_le l
  have q0 : w.cell? ⟨g, 18, none⟩ = some (.int .i64 (fstL l 0 : Nat)) := bC.cell_ (18 + 0) ((code_f (tab_len (cntL l)) (tab_len (fstL l)) 0 (by omega)).trans (by rw [tab_at _ 0 (by omega)]))
  have q1 : w.cell? ⟨g, 19, none⟩ = some (.int .i64 (fstL l 1 : Nat)) := bC.cell_ (18 + 1) ((code_f (tab_len (cntL l)) (tab_len (fstL l)) 1 (by omega)).trans (by rw [tab_at _ 1 (by omega)]))
  have q2 : w.cell? ⟨g, 20, none⟩ = some (.int .i64 (fstL l 2 : Nat)) := bC.cell_ (18 + 2) ((code_f (tab_len (cntL l)) (tab_len (fstL l)) 2 (by omega)).trans (by rw [tab_at _ 2 (by omega)]))
  have q3 : w.cell? ⟨g, 21, none⟩ = some (.int .i64 (fstL l 3 : Nat)) := bC.cell_ (18 + 3) ((code_f (tab_len (cntL l)) (tab_len (fstL l)) 3 (by omega)).trans (by rw [tab_at _ 3 (by omega)]))
  have q4 : w.cell? ⟨g, 22, none⟩ = some (.int .i64 (fstL l 4 : Nat)) := bC.cell_ (18 + 4) ((code_f (tab_len (cntL l)) (tab_len (fstL l)) 4 (by omega)).trans (by rw [tab_at _ 4 (by omega)]))
  have q5 : w.cell? ⟨g, 23, none⟩ = some (.int .i64 (fstL l 5 : Nat)) := bC.cell_ (18 + 5) ((code_f (tab_len (cntL l)) (tab_len (fstL l)) 5 (by omega)).trans (by rw [tab_at _ 5 (by omega)]))
  have q6 : w.cell? ⟨g, 24, none⟩ = some (.int .i64 (fstL l 6 : Nat)) := bC.cell_ (18 + 6) ((code_f (tab_len (cntL l)) (tab_len (fstL l)) 6 (by omega)).trans (by rw [tab_at _ 6 (by omega)]))
  have q7 : w.cell? ⟨g, 25, none⟩ = some (.int .i64 (fstL l 7 : Nat)) := bC.cell_ (18 + 7) ((code_f (tab_len (cntL l)) (tab_len (fstL l)) 7 (by omega)).trans (by rw [tab_at _ 7 (by omega)]))
  have q8 : w.cell? ⟨g, 26, none⟩ = some (.int .i64 (fstL l 8 : Nat)) := bC.cell_ (18 + 8) ((code_f (tab_len (cntL l)) (tab_len (fstL l)) 8 (by omega)).trans (by rw [tab_at _ 8 (by omega)]))
  have q9 : w.cell? ⟨g, 27, none⟩ = some (.int .i64 (fstL l 9 : Nat)) := bC.cell_ (18 + 9) ((code_f (tab_len (cntL l)) (tab_len (fstL l)) 9 (by omega)).trans (by rw [tab_at _ 9 (by omega)]))
  have q10 : w.cell? ⟨g, 28, none⟩ = some (.int .i64 (fstL l 10 : Nat)) := bC.cell_ (18 + 10) ((code_f (tab_len (cntL l)) (tab_len (fstL l)) 10 (by omega)).trans (by rw [tab_at _ 10 (by omega)]))
  have q11 : w.cell? ⟨g, 29, none⟩ = some (.int .i64 (fstL l 11 : Nat)) := bC.cell_ (18 + 11) ((code_f (tab_len (cntL l)) (tab_len (fstL l)) 11 (by omega)).trans (by rw [tab_at _ 11 (by omega)]))
  have q12 : w.cell? ⟨g, 30, none⟩ = some (.int .i64 (fstL l 12 : Nat)) := bC.cell_ (18 + 12) ((code_f (tab_len (cntL l)) (tab_len (fstL l)) 12 (by omega)).trans (by rw [tab_at _ 12 (by omega)]))
  have q13 : w.cell? ⟨g, 31, none⟩ = some (.int .i64 (fstL l 13 : Nat)) := bC.cell_ (18 + 13) ((code_f (tab_len (cntL l)) (tab_len (fstL l)) 13 (by omega)).trans (by rw [tab_at _ 13 (by omega)]))
  have q14 : w.cell? ⟨g, 32, none⟩ = some (.int .i64 (fstL l 14 : Nat)) := bC.cell_ (18 + 14) ((code_f (tab_len (cntL l)) (tab_len (fstL l)) 14 (by omega)).trans (by rw [tab_at _ 14 (by omega)]))
  have q15 : w.cell? ⟨g, 33, none⟩ = some (.int .i64 (fstL l 15 : Nat)) := bC.cell_ (18 + 15) ((code_f (tab_len (cntL l)) (tab_len (fstL l)) 15 (by omega)).trans (by rw [tab_at _ 15 (by omega)]))
  have hN := Blk.new w 42 (ints (tab (fstL l))).toArray
  have hgC := bC.lt
  have hgF := bF.lt
  go_enter Try.func57, Try.ntmps57
  go_wp2_with fail
  refine (CU _ ((h.below ((Below.refl _ w).alloc (Nat.le_refl _) _)).more (by simp))).mono ?_
  rintro e w1 ⟨rfl, hw1⟩
  have hb1 : Below w.heap.size w w1 := by rw [hw1]; exact (Below.refl _ w).alloc (Nat.le_refl _) _
  have hN1 : Blk w1 w.heap.size 42 (ints (tab (fstL l))).toArray := by rw [hw1]; exact hN
  have bC1 := bC.below hb1 hgC
  have bF1 := bF.below hb1 hgF
  have r1 := (h.below hb1)
  have hz1 : w1.heap.size = w.heap.size + 1 := by rw [hw1, World.size_alloc]
  have hmk := run_made (P := Try.prog) 22 3 (.int .i64 0) 1 8 Try.underlying22 (by kernel_rfl) (usedL l) (by omega) (by omega) w1
  rw [Nat.mul_one, show (Value.int IntKind.i64 0).cells = #[.int .i64 0] from rfl, made_ints] at hmk
  have k1 := bC1.cell_ 1 (v := .slice none 0 0) rfl
  have k1f := bC1.frozen 1
  have hU := Lib.hid (rfl : usedL l = usedL l)
  clear CU q0 q1 q2 q3 q4 q5 q6 q7 q8 q9 q10 q11 q12 q13 q14 q15 bC bF hw1 hN
  have bC2 := (blk_eq (bC1.set 1 (.slice (some ⟨w.heap.size + 1, 0, none⟩) (usedL l) (usedL l))) (code_sset _ _ _ _ _ _ _)).alloc (.cells (ints (List.replicate (usedL l) 0)).toArray 3)
  have bF2 := (bF1.far (p := ⟨g, 1, none⟩) (fun e => hne e.symm) (.slice (some ⟨w.heap.size + 1, 0, none⟩) (usedL l) (usedL l))).alloc (.cells (ints (List.replicate (usedL l) 0)).toArray 3)
  have bN2 := (hN1.far (p := ⟨g, 1, none⟩) (by dsimp only; omega) (.slice (some ⟨w.heap.size + 1, 0, none⟩) (usedL l) (usedL l))).alloc (.cells (ints (List.replicate (usedL l) 0)).toArray 3)
  have bS2 : Blk ((w1.setCell ⟨g, 1, none⟩ (.slice (some ⟨w.heap.size + 1, 0, none⟩) (usedL l) (usedL l))).alloc (.cells (ints (List.replicate (usedL l) 0)).toArray 3)) (w.heap.size + 1) 3 (ints (List.replicate (usedL l) 0)).toArray := by
    have := Blk.new (w1.setCell ⟨g, 1, none⟩ (.slice (some ⟨w.heap.size + 1, 0, none⟩) (usedL l) (usedL l))) 3 (ints (List.replicate (usedL l) 0)).toArray
    rwa [World.size_setCell, hz1] at this
  have HB2 := ((hb1.mono hB3).setCell (p := ⟨g, 1, none⟩) hB1 (.slice (some ⟨w.heap.size + 1, 0, none⟩) (usedL l) (usedL l))).alloc (by rw [World.size_setCell]; omega) (.cells (ints (List.replicate (usedL l) 0)).toArray 3)
  have r2 := (r1.apart0 (p := ⟨g, 1, none⟩) (fun h0 k hk => (hA h0 k hk).1) (.slice (some ⟨w.heap.size + 1, 0, none⟩) (usedL l) (usedL l))).below ((Below.refl w.heap.size _).alloc (by rw [World.size_setCell]; omega) (.cells (ints (List.replicate (usedL l) 0)).toArray 3))
  go_wp2_with fail
  clear bC1 bF1 hN1 r1 hb1 k1 k1f hmk
  go_loopw [19] (fun i wr => ∃ k : Nat, i = .int .i64 k ∧ k ≤ n ∧ Blk wr g 44 (codeC (.slice (some ⟨gW, 0, none⟩) n n) (.slice (some ⟨w.heap.size + 1, 0, none⟩) (usedL l) (usedL l)) (tab (cntL l)) (tab (fstL l)) (tab (plcL l)) true) ∧ Blk wr gW 47 (fcells (wordsK l k)).toArray ∧ Blk wr w.heap.size 42 (ints (tab (nxt l k))).toArray ∧ Blk wr (w.heap.size + 1) 3 (ints (sortK l k)).toArray ∧ Rd wr w.heap.size 1 A n (ints l) ∧ Below B w wr) (fun i _ => n - (intOf i).toNat)
  case atStart => exact ⟨0, rfl, by omega, bC2, by rw [wordsK_zero, hl]; exact bF2, by rw [nxt_zero]; exact bN2, bS2, r2, HB2⟩
  case round =>
    obtain ⟨k, rfl, hkn, bC, bF, bN, bS, r, HB⟩ := hrel
    clear bC2 bF2 bN2 bS2 r2 HB2
    have hzg := bS.lt
    by_cases hlt : k < n
    · have hkl : k < l.length := by omega
      obtain ⟨b, o, rfl, hb, hc⟩ := rd_ints r (by omega)
      have d0 : wr.cell? ⟨b, o + k, none⟩ = some (.int .i64 l[k]) := hc k hkl
      have hx15 := okL_at l k hkl hok
      have hki : (k : Int) < (n : Int) := by omega
      have hki0 : (0 : Int) ≤ (k : Int) := by omega
      clear hc
      by_cases hp : 0 < l[k]
      · obtain ⟨y, hy⟩ := Int.eq_ofNat_of_zero_le (show 0 ≤ l[k] by omega)
        have hy16 : y < 16 := by omega
        have hy0 : 0 < y := by omega
        have hpl := place_lt l k hkl hp
        have hsn := sortK_at l k hkl hp
        have hwn := wordsK_succ l k hkl
        rw [word_at l k hkl hp] at hwn
        have hnn := nxt_step l k y hkl hy hy0
        rw [hy, Int.toNat_natCast] at hpl hsn hwn
        have hfb' := hfb y hy16
        have hpb : plcL l y ≤ 257 := by have := plcL_le l y; omega
        have hcb : cntL (l.take k) y ≤ 257 := by have := cntL_le (l.take k) y; rw [List.length_take] at this; omega
        have hnx : nxt l k y = fstL l y + cntL (l.take k) y := rfl
        rw [← hnx] at hwn
        obtain ⟨p, hpp⟩ : ∃ p, plcL l y + cntL (l.take k) y = p := ⟨_, rfl⟩
        rw [hpp] at hpl hsn
        have SS := Lib.hid (show (ints (sortK l k)).toArray.setIfInBounds p (.int .i64 k) = (ints (sortK l (k + 1))).toArray by rw [hsn]; simp [ints, List.map_set])
        have SP := Lib.hid (show ∃ v, (ints (sortK l k)).toArray[p]? = some v from ⟨_, by rw [List.getElem?_toArray]; exact List.getElem?_eq_getElem (by rw [ints_len, sortK_len]; exact hpl)⟩)
        have WL : (wordsK l k).length = l.length := wordsK_len l k (by omega)
        have WS := Lib.hid (show ((fcells (wordsK l k)).toArray.setIfInBounds (k * 2) (.int .i64 (nxt l k y : Nat))).setIfInBounds (k * 2 + 1) (.int .i64 (y : Nat)) = (fcells (wordsK l (k + 1))).toArray by rw [hwn, fcells_set _ k (by rw [WL]; exact hkl)]; simp)
        have W0 := Lib.hid (show ∃ v, (fcells (wordsK l k)).toArray[k * 2]? = some v from ⟨_, by rw [List.getElem?_toArray]; exact List.getElem?_eq_getElem (by rw [fcells_len, WL]; omega)⟩)
        have W1 := Lib.hid (show ∃ v, (fcells (wordsK l k)).toArray[k * 2 + 1]? = some v from ⟨_, by rw [List.getElem?_toArray]; exact List.getElem?_eq_getElem (by rw [fcells_len, WL]; omega)⟩)
        have NS := Lib.hid (show (ints (tab (nxt l k))).toArray.setIfInBounds y (.int .i64 ((nxt l k y : Int) + 1)) = (ints (tab (nxt l (k + 1)))).toArray by rw [← hnn]; simp [ints, List.map_set])
        have NC := Lib.hid (show (ints (tab (nxt l k))).toArray[y]? = some (.int .i64 (nxt l k y : Nat)) by simp [ints, tab, hy16])
        have CP := Lib.hid ((code_p (W := (.slice (some ⟨gW, 0, none⟩) n n)) (S := (.slice (some ⟨w.heap.size + 1, 0, none⟩) (usedL l) (usedL l))) (m := true) (tab_len (cntL l)) (tab_len (fstL l)) (tab_len (plcL l)) y hy16).trans (by rw [tab_at _ y hy16]))
        have CF := Lib.hid ((code_f (W := (.slice (some ⟨gW, 0, none⟩) n n)) (S := (.slice (some ⟨w.heap.size + 1, 0, none⟩) (usedL l) (usedL l))) (ps := tab (plcL l)) (m := true) (tab_len (cntL l)) (tab_len (fstL l)) y hy16).trans (by rw [tab_at _ y hy16]))
        have hv1 : IntKind.i64.wrap ((plcL l y : Int) + (nxt l k y : Int)) = (plcL l y : Int) + (nxt l k y : Int) := w64k (by omega) (by omega)
        have hv2 : IntKind.i64.wrap ((plcL l y : Int) + (nxt l k y : Int) - (fstL l y : Int)) = (p : Int) := (w64k (by omega) (by omega)).trans (by omega)
        have hv3 : IntKind.i64.wrap (p : Int) = (p : Int) := w64k (by omega) (by omega)
        have hv4 : IntKind.i64.wrap (k : Int) = (k : Int) := w64k (by omega) (by omega)
        have hv5 : IntKind.i64.wrap (y : Int) = (y : Int) := w64k (by omega) (by omega)
        have hpI : (p : Int) < (usedL l : Int) := by omega
        have hyI : (y : Int) < 16 := by omega
        have hyI0 : (0 : Int) ≤ (y : Int) := by omega
        have hnxb : nxt l k y ≤ 20000257 := by omega
        have hye : ((y : Int) == 0) = false := by simp; omega
        have hyd : decide ((y : Int) = 0) = false := by simp; omega
        rw [hy] at d0
        clear hnx hpp hsn hwn hnn hp hx15
        go_wp2_with fail
        refine wp_region_held_drew (S := (fun w' => w'.cell? ⟨g, 1, none⟩ = some (.slice (some ⟨w.heap.size + 1, 0, none⟩) (usedL l) (usedL l)) ∧ w'.cell? ⟨g, 34 + y, none⟩ = some (.int .i64 (plcL l y : Nat)) ∧ w'.cell? ⟨g, 18 + y, none⟩ = some (.int .i64 (fstL l y : Nat)) ∧ w'.cell? ⟨w.heap.size, y, none⟩ = some (.int .i64 (nxt l k y : Nat)))) (by kernel_rfl) ?_ (fun hHeld => ?_)
        · replace bC := Blk.drew bC; replace bF := Blk.drew bF; replace bN := Blk.drew bN; replace bS := Blk.drew bS; replace HB := Below.drew HB; (try dsimp only); exact ⟨bC.cell_ 1 rfl, bC.cell_ (34 + y) CP.out, bC.cell_ (18 + y) CF.out, bN.cell_ y NC.out⟩
        replace bC := Blk.drew bC
        replace bF := Blk.drew bF
        replace bN := Blk.drew bN
        replace bS := Blk.drew bS
        replace HB := Below.drew HB
        have zHB := HB.size
        refine take_move 0 (Operand.tmp 0) rfl rfl (by first | exact .inl rfl | exact .inr rfl) rfl (by kernel_rfl) (by kernel_rfl) (by kernel_rfl) (fun _ _ _ h => h) (by assumption) ?_
        simp only [List.setIfInBounds_toArray, List.set_cons_zero, List.set_cons_succ]
        refine take_op (v := ?vu2x1) 1 (Op.nilCheck (Operand.tmp 26)) 0 rfl rfl rfl rfl rfl (by kernel_rfl) (by kernel_rfl) (by kernel_rfl) (fun _ _ _ h => h) ?yu2x1 (by assumption) ?ru2x1
        case yu2x1 => (intro w' hSw; (try dsimp only at hSw); go_simp; try (with_reducible rfl))
        simp only [List.setIfInBounds_toArray, List.set_cons_zero, List.set_cons_succ]
        refine take_op (v := ?vu2x2) 2 (Op.fieldAddr 44 (Operand.tmp 27) 1) 0 rfl rfl rfl rfl rfl (by kernel_rfl) (by kernel_rfl) (by kernel_rfl) (fun _ _ _ h => h) ?yu2x2 (by assumption) ?ru2x2
        case yu2x2 => (intro w' hSw; (try dsimp only at hSw); go_simp; try (with_reducible rfl))
        simp only [List.setIfInBounds_toArray, List.set_cons_zero, List.set_cons_succ]
        refine take_op (v := ?vu2x3) 3 (Op.load 22 (Operand.tmp 28)) 22 rfl rfl rfl rfl rfl (by kernel_rfl) (by kernel_rfl) (by kernel_rfl) (fun _ _ _ h => h) ?yu2x3 (by assumption) ?ru2x3
        case yu2x3 => (intro w' hSw; (try dsimp only at hSw); go_simp; try (with_reducible rfl))
        simp only [List.setIfInBounds_toArray, List.set_cons_zero, List.set_cons_succ]
        refine take_move 4 (Operand.tmp 0) rfl rfl (by first | exact .inl rfl | exact .inr rfl) rfl (by kernel_rfl) (by kernel_rfl) (by kernel_rfl) (fun _ _ _ h => h) (by assumption) ?_
        simp only [List.setIfInBounds_toArray, List.set_cons_zero, List.set_cons_succ]
        refine take_move 5 (Operand.tmp 6) rfl rfl (by first | exact .inl rfl | exact .inr rfl) rfl (by kernel_rfl) (by kernel_rfl) (by kernel_rfl) (fun _ _ _ h => h) (by assumption) ?_
        simp only [List.setIfInBounds_toArray, List.set_cons_zero, List.set_cons_succ]
        refine take_op (v := ?vu2x6) 6 (Op.nilCheck (Operand.tmp 30)) 0 rfl rfl rfl rfl rfl (by kernel_rfl) (by kernel_rfl) (by kernel_rfl) (fun _ _ _ h => h) ?yu2x6 (by assumption) ?ru2x6
        case yu2x6 => (intro w' hSw; (try dsimp only at hSw); go_simp; try (with_reducible rfl))
        simp only [List.setIfInBounds_toArray, List.set_cons_zero, List.set_cons_succ]
        refine take_op (v := ?vu2x7) 7 (Op.fieldAddr 44 (Operand.tmp 32) 4) 0 rfl rfl rfl rfl rfl (by kernel_rfl) (by kernel_rfl) (by kernel_rfl) (fun _ _ _ h => h) ?yu2x7 (by assumption) ?ru2x7
        case yu2x7 => (intro w' hSw; (try dsimp only at hSw); go_simp; try (with_reducible rfl))
        simp only [List.setIfInBounds_toArray, List.set_cons_zero, List.set_cons_succ]
        refine take_op (v := ?vu2x8) 8 (Op.indexAddr 42 (Operand.tmp 33) (Operand.tmp 31)) 0 rfl rfl rfl rfl rfl (by kernel_rfl) (by kernel_rfl) (by kernel_rfl) (fun _ _ _ h => h) ?yu2x8 (by assumption) ?ru2x8
        case yu2x8 => (intro w' hSw; (try dsimp only at hSw); go_simp; try (with_reducible rfl))
        simp only [List.setIfInBounds_toArray, List.set_cons_zero, List.set_cons_succ]
        refine take_op (v := ?vu2x9) 9 (Op.load 3 (Operand.tmp 34)) 3 rfl rfl rfl rfl rfl (by kernel_rfl) (by kernel_rfl) (by kernel_rfl) (fun _ _ _ h => h) ?yu2x9 (by assumption) ?ru2x9
        case yu2x9 => (intro w' hSw; (try dsimp only at hSw); go_simp; try (with_reducible rfl))
        simp only [List.setIfInBounds_toArray, List.set_cons_zero, List.set_cons_succ]
        refine take_move 10 (Operand.tmp 6) rfl rfl (by first | exact .inl rfl | exact .inr rfl) rfl (by kernel_rfl) (by kernel_rfl) (by kernel_rfl) (fun _ _ _ h => h) (by assumption) ?_
        simp only [List.setIfInBounds_toArray, List.set_cons_zero, List.set_cons_succ]
        refine take_op (v := ?vu2x11) 11 (Op.indexAddr 42 (Operand.tmp 4) (Operand.tmp 36)) 0 rfl rfl rfl rfl rfl (by kernel_rfl) (by kernel_rfl) (by kernel_rfl) (fun _ _ _ h => h) ?yu2x11 (by assumption) ?ru2x11
        case yu2x11 => (intro w' hSw; (try dsimp only at hSw); go_simp; try (with_reducible rfl))
        simp only [List.setIfInBounds_toArray, List.set_cons_zero, List.set_cons_succ]
        refine take_op (v := ?vu2x12) 12 (Op.load 3 (Operand.tmp 37)) 3 rfl rfl rfl rfl rfl (by kernel_rfl) (by kernel_rfl) (by kernel_rfl) (fun _ _ _ h => h) ?yu2x12 (by assumption) ?ru2x12
        case yu2x12 => (intro w' hSw; (try dsimp only at hSw); go_simp; try (with_reducible rfl))
        simp only [List.setIfInBounds_toArray, List.set_cons_zero, List.set_cons_succ]
        refine take_op (v := ?vu2x13) 13 (Op.binOp BinOp.add 3 (Operand.tmp 35) (Operand.tmp 38) 3) 3 rfl rfl rfl rfl rfl (by kernel_rfl) (by kernel_rfl) (by kernel_rfl) (fun _ _ _ h => h) ?yu2x13 (by assumption) ?ru2x13
        case yu2x13 => (intro w' hSw; (try dsimp only at hSw); go_simp; try (with_reducible rfl))
        simp only [List.setIfInBounds_toArray, List.set_cons_zero, List.set_cons_succ]
        refine take_move 14 (Operand.tmp 0) rfl rfl (by first | exact .inl rfl | exact .inr rfl) rfl (by kernel_rfl) (by kernel_rfl) (by kernel_rfl) (fun _ _ _ h => h) (by assumption) ?_
        simp only [List.setIfInBounds_toArray, List.set_cons_zero, List.set_cons_succ]
        refine take_move 15 (Operand.tmp 6) rfl rfl (by first | exact .inl rfl | exact .inr rfl) rfl (by kernel_rfl) (by kernel_rfl) (by kernel_rfl) (fun _ _ _ h => h) (by assumption) ?_
        simp only [List.setIfInBounds_toArray, List.set_cons_zero, List.set_cons_succ]
        refine take_op (v := ?vu2x16) 16 (Op.nilCheck (Operand.tmp 40)) 0 rfl rfl rfl rfl rfl (by kernel_rfl) (by kernel_rfl) (by kernel_rfl) (fun _ _ _ h => h) ?yu2x16 (by assumption) ?ru2x16
        case yu2x16 => (intro w' hSw; (try dsimp only at hSw); go_simp; try (with_reducible rfl))
        simp only [List.setIfInBounds_toArray, List.set_cons_zero, List.set_cons_succ]
        refine take_op (v := ?vu2x17) 17 (Op.fieldAddr 44 (Operand.tmp 42) 3) 0 rfl rfl rfl rfl rfl (by kernel_rfl) (by kernel_rfl) (by kernel_rfl) (fun _ _ _ h => h) ?yu2x17 (by assumption) ?ru2x17
        case yu2x17 => (intro w' hSw; (try dsimp only at hSw); go_simp; try (with_reducible rfl))
        simp only [List.setIfInBounds_toArray, List.set_cons_zero, List.set_cons_succ]
        refine take_op (v := ?vu2x18) 18 (Op.indexAddr 42 (Operand.tmp 43) (Operand.tmp 41)) 0 rfl rfl rfl rfl rfl (by kernel_rfl) (by kernel_rfl) (by kernel_rfl) (fun _ _ _ h => h) ?yu2x18 (by assumption) ?ru2x18
        case yu2x18 => (intro w' hSw; (try dsimp only at hSw); go_simp; try (with_reducible rfl))
        simp only [List.setIfInBounds_toArray, List.set_cons_zero, List.set_cons_succ]
        refine take_op (v := ?vu2x19) 19 (Op.load 3 (Operand.tmp 44)) 3 rfl rfl rfl rfl rfl (by kernel_rfl) (by kernel_rfl) (by kernel_rfl) (fun _ _ _ h => h) ?yu2x19 (by assumption) ?ru2x19
        case yu2x19 => (intro w' hSw; (try dsimp only at hSw); go_simp; try (with_reducible rfl))
        simp only [List.setIfInBounds_toArray, List.set_cons_zero, List.set_cons_succ]
        refine take_op (v := ?vu2x20) 20 (Op.binOp BinOp.sub 3 (Operand.tmp 39) (Operand.tmp 45) 3) 3 rfl rfl rfl rfl rfl (by kernel_rfl) (by kernel_rfl) (by kernel_rfl) (fun _ _ _ h => h) ?yu2x20 (by assumption) ?ru2x20
        case yu2x20 => (intro w' hSw; (try dsimp only at hSw); go_simp; try (with_reducible rfl))
        simp only [List.setIfInBounds_toArray, List.set_cons_zero, List.set_cons_succ]
        refine take_move 21 (Operand.tmp 5) rfl rfl (by first | exact .inl rfl | exact .inr rfl) rfl (by kernel_rfl) (by kernel_rfl) (by kernel_rfl) (fun _ _ _ h => h) (by assumption) ?_
        simp only [List.setIfInBounds_toArray, List.set_cons_zero, List.set_cons_succ]
        refine take_op (v := ?vu2x22) 22 (Op.indexAddr 22 (Operand.tmp 29) (Operand.tmp 46)) 0 rfl rfl rfl rfl rfl (by kernel_rfl) (by kernel_rfl) (by kernel_rfl) (fun _ _ _ h => h) ?yu2x22 (by assumption) ?ru2x22
        case yu2x22 => (intro w' hSw; (try dsimp only at hSw); go_simp; try (with_reducible rfl))
        simp only [List.setIfInBounds_toArray, List.set_cons_zero, List.set_cons_succ]
        refine wpAnyH_ready (rs := [23]) (by kernel_rfl) (by simp) (AllReadyH.cons rfl (fun K23 hK23 => ?ku2x23) AllReadyH.nil)
        refine take_store 23 (Op.store 3 (Operand.tmp 48) (Operand.tmp 47)) 0 rfl rfl rfl (by kernel_rfl) (w' := wr.drew.setCell ⟨w.heap.size + 1, p, none⟩ (.int .i64 k)) (by obtain ⟨v0, hv0⟩ := SP.out; have cL := bS.cell_ p hv0; have fL := bS.frozen p; go_simp; try (with_reducible rfl)) ?_
        refine hK23.out _ _ (⟨(bC.far (p := ⟨w.heap.size + 1, p, none⟩) (by dsimp only; omega) _).cell_ 1 rfl, (bC.far (p := ⟨w.heap.size + 1, p, none⟩) (by dsimp only; omega) _).cell_ (34 + y) CP.out, (bC.far (p := ⟨w.heap.size + 1, p, none⟩) (by dsimp only; omega) _).cell_ (18 + y) CF.out, (bN.far (p := ⟨w.heap.size + 1, p, none⟩) (by dsimp only; omega) _).cell_ y NC.out⟩) (fun hHeld => ?_)
        refine wpAnyH_done (by kernel_rfl) ?_ _
        have bCN := bC.far (p := ⟨w.heap.size + 1, p, none⟩) (by dsimp only; omega) (.int .i64 k)
        have bFN := bF.far (p := ⟨w.heap.size + 1, p, none⟩) (by dsimp only; omega) (.int .i64 k)
        have bNN := bN.far (p := ⟨w.heap.size + 1, p, none⟩) (by dsimp only; omega) (.int .i64 k)
        have bSN := blk_eq (bS.set p (.int .i64 k)) SS.out
        have HBN := HB.setCell (p := ⟨w.heap.size + 1, p, none⟩) (by dsimp only; omega) (.int .i64 k)
        have rN := r.drew.below ((Below.refl w.heap.size wr.drew).setCell (p := ⟨w.heap.size + 1, p, none⟩) (by dsimp only; omega) (.int .i64 k))
        generalize wr.drew.setCell ⟨w.heap.size + 1, p, none⟩ (.int .i64 k) = wm at *
        clear bC bF bN bS r HB hHeld hv1 hv2 hv3 d0
        have hgm := bSN.lt
        go_wp2_with fail
        refine wp_region_held_drew (S := (fun w' => w'.cell? ⟨g, 0, none⟩ = some (.slice (some ⟨gW, 0, none⟩) n n) ∧ w'.cell? ⟨w.heap.size, y, none⟩ = some (.int .i64 (nxt l k y : Nat)))) (by kernel_rfl) ?_ (fun hHeld => ?_)
        · replace bCN := Blk.drew bCN; replace bFN := Blk.drew bFN; replace bNN := Blk.drew bNN; replace bSN := Blk.drew bSN; replace HBN := Below.drew HBN; (try dsimp only); exact ⟨bCN.cell_ 0 rfl, bNN.cell_ y NC.out⟩
        replace bCN := Blk.drew bCN
        replace bFN := Blk.drew bFN
        replace bNN := Blk.drew bNN
        replace bSN := Blk.drew bSN
        replace HBN := Below.drew HBN
        have zHBN := HBN.size
        refine take_move 0 (Operand.tmp 0) rfl rfl (by first | exact .inl rfl | exact .inr rfl) rfl (by kernel_rfl) (by kernel_rfl) (by kernel_rfl) (fun _ _ _ h => h) (by assumption) ?_
        simp only [List.setIfInBounds_toArray, List.set_cons_zero, List.set_cons_succ]
        refine take_op (v := ?vu1t2x1) 1 (Op.nilCheck (Operand.tmp 49)) 0 rfl rfl rfl rfl rfl (by kernel_rfl) (by kernel_rfl) (by kernel_rfl) (fun _ _ _ h => h) ?yu1t2x1 (by assumption) ?ru1t2x1
        case yu1t2x1 => (intro w' hSw; (try dsimp only at hSw); go_simp; try (with_reducible rfl))
        simp only [List.setIfInBounds_toArray, List.set_cons_zero, List.set_cons_succ]
        refine take_op (v := ?vu1t2x2) 2 (Op.fieldAddr 44 (Operand.tmp 50) 0) 0 rfl rfl rfl rfl rfl (by kernel_rfl) (by kernel_rfl) (by kernel_rfl) (fun _ _ _ h => h) ?yu1t2x2 (by assumption) ?ru1t2x2
        case yu1t2x2 => (intro w' hSw; (try dsimp only at hSw); go_simp; try (with_reducible rfl))
        simp only [List.setIfInBounds_toArray, List.set_cons_zero, List.set_cons_succ]
        refine take_op (v := ?vu1t2x3) 3 (Op.load 24 (Operand.tmp 51)) 24 rfl rfl rfl rfl rfl (by kernel_rfl) (by kernel_rfl) (by kernel_rfl) (fun _ _ _ h => h) ?yu1t2x3 (by assumption) ?ru1t2x3
        case yu1t2x3 => (intro w' hSw; (try dsimp only at hSw); go_simp; try (with_reducible rfl))
        simp only [List.setIfInBounds_toArray, List.set_cons_zero, List.set_cons_succ]
        refine take_move 4 (Operand.tmp 5) rfl rfl (by first | exact .inl rfl | exact .inr rfl) rfl (by kernel_rfl) (by kernel_rfl) (by kernel_rfl) (fun _ _ _ h => h) (by assumption) ?_
        simp only [List.setIfInBounds_toArray, List.set_cons_zero, List.set_cons_succ]
        refine take_move 5 (Operand.tmp 6) rfl rfl (by first | exact .inl rfl | exact .inr rfl) rfl (by kernel_rfl) (by kernel_rfl) (by kernel_rfl) (fun _ _ _ h => h) (by assumption) ?_
        simp only [List.setIfInBounds_toArray, List.set_cons_zero, List.set_cons_succ]
        refine take_op (v := ?vu1t2x6) 6 (Op.indexAddr 42 (Operand.tmp 4) (Operand.tmp 54)) 0 rfl rfl rfl rfl rfl (by kernel_rfl) (by kernel_rfl) (by kernel_rfl) (fun _ _ _ h => h) ?yu1t2x6 (by assumption) ?ru1t2x6
        case yu1t2x6 => (intro w' hSw; (try dsimp only at hSw); go_simp; try (with_reducible rfl))
        simp only [List.setIfInBounds_toArray, List.set_cons_zero, List.set_cons_succ]
        refine take_op (v := ?vu1t2x7) 7 (Op.load 3 (Operand.tmp 55)) 3 rfl rfl rfl rfl rfl (by kernel_rfl) (by kernel_rfl) (by kernel_rfl) (fun _ _ _ h => h) ?yu1t2x7 (by assumption) ?ru1t2x7
        case yu1t2x7 => (intro w' hSw; (try dsimp only at hSw); go_simp; try (with_reducible rfl))
        simp only [List.setIfInBounds_toArray, List.set_cons_zero, List.set_cons_succ]
        refine take_move 8 (Operand.tmp 6) rfl rfl (by first | exact .inl rfl | exact .inr rfl) rfl (by kernel_rfl) (by kernel_rfl) (by kernel_rfl) (fun _ _ _ h => h) (by assumption) ?_
        simp only [List.setIfInBounds_toArray, List.set_cons_zero, List.set_cons_succ]
        refine take_op (v := ?vu1t2x9) 9 (Op.build 47 #[(0, Operand.tmp 56), (1, Operand.tmp 57)]) 47 rfl rfl rfl rfl rfl (by kernel_rfl) (by kernel_rfl) (by kernel_rfl) (fun _ _ _ h => h) ?yu1t2x9 (by assumption) ?ru1t2x9
        case yu1t2x9 => (intro w' hSw; (try dsimp only at hSw); go_simp; try (with_reducible rfl))
        simp only [List.setIfInBounds_toArray, List.set_cons_zero, List.set_cons_succ]
        refine take_op (v := ?vu1t2x10) 10 (Op.indexAddr 24 (Operand.tmp 52) (Operand.tmp 53)) 0 rfl rfl rfl rfl rfl (by kernel_rfl) (by kernel_rfl) (by kernel_rfl) (fun _ _ _ h => h) ?yu1t2x10 (by assumption) ?ru1t2x10
        case yu1t2x10 => (intro w' hSw; (try dsimp only at hSw); go_simp; try (with_reducible rfl))
        simp only [List.setIfInBounds_toArray, List.set_cons_zero, List.set_cons_succ]
        refine wpAnyH_ready (rs := [11]) (by kernel_rfl) (by simp) (AllReadyH.cons rfl (fun K11 hK11 => ?ku1t2x11) AllReadyH.nil)
        refine take_store 11 (Op.store 47 (Operand.tmp 59) (Operand.tmp 58)) 0 rfl rfl rfl (by kernel_rfl) (w' := (wm.drew.setCell ⟨gW, k * 2, none⟩ (.int .i64 (nxt l k y : Nat))).setCell ⟨gW, k * 2 + 1, none⟩ (.int .i64 (y : Nat))) (by obtain ⟨v0, hv0⟩ := W0.out; obtain ⟨v1, hv1⟩ := W1.out; have cL := bFN.cell_ (k * 2) hv0; have cM := bFN.cell_ (k * 2 + 1) hv1; have fL := bFN.frozen (k * 2); have fM := bFN.frozen (k * 2 + 1); have cM2 : wm.cell? ⟨gW, k * 2 + 1, none⟩ = some v1 := cM; have fM2 : wm.frozen? ⟨gW, k * 2 + 1, none⟩ = false := fM; go_simp; try (with_reducible rfl)) ?_
        refine hK11.out _ _ (⟨((bCN.far (p := ⟨gW, k * 2, none⟩) hne _).far (p := ⟨gW, k * 2 + 1, none⟩) hne _).cell_ 0 rfl, ((bNN.far (p := ⟨gW, k * 2, none⟩) (by dsimp only; omega) _).far (p := ⟨gW, k * 2 + 1, none⟩) (by dsimp only; omega) _).cell_ y NC.out⟩) (fun hHeld => ?_)
        refine wpAnyH_done (by kernel_rfl) ?_ _
        have bCM := (bCN.far (p := ⟨gW, k * 2, none⟩) hne (.int .i64 (nxt l k y : Nat))).far (p := ⟨gW, k * 2 + 1, none⟩) hne (.int .i64 (y : Nat))
        have bNM := (bNN.far (p := ⟨gW, k * 2, none⟩) (by dsimp only; omega) (.int .i64 (nxt l k y : Nat))).far (p := ⟨gW, k * 2 + 1, none⟩) (by dsimp only; omega) (.int .i64 (y : Nat))
        have bSM := (bSN.far (p := ⟨gW, k * 2, none⟩) (by dsimp only; omega) (.int .i64 (nxt l k y : Nat))).far (p := ⟨gW, k * 2 + 1, none⟩) (by dsimp only; omega) (.int .i64 (y : Nat))
        have bFM := blk_eq ((bFN.set (k * 2) (.int .i64 (nxt l k y : Nat))).set (k * 2 + 1) (.int .i64 (y : Nat))) WS.out
        have HBM := (HBN.setCell (p := ⟨gW, k * 2, none⟩) hB2 (.int .i64 (nxt l k y : Nat))).setCell (p := ⟨gW, k * 2 + 1, none⟩) hB2 (.int .i64 (y : Nat))
        have rM := (rN.drew.apart0 (p := ⟨gW, k * 2, none⟩) (fun h0 k' hk' => (hA h0 k' hk').2) (.int .i64 (nxt l k y : Nat))).apart0 (p := ⟨gW, k * 2 + 1, none⟩) (fun h0 k' hk' => (hA h0 k' hk').2) (.int .i64 (y : Nat))
        generalize (wm.drew.setCell ⟨gW, k * 2, none⟩ (.int .i64 (nxt l k y : Nat))).setCell ⟨gW, k * 2 + 1, none⟩ (.int .i64 (y : Nat)) = wz at *
        clear bCN bFN bNN bSN rN HBN hHeld hv4
        have nC := bNM.cell_ y NC.out
        have nF := bNM.frozen y
        go_wp2_with fail
        go_roundw
        case rel => exact ⟨k + 1, by go_num, by omega, bCM.far (p := ⟨w.heap.size, y, none⟩) (by dsimp only; omega) _, bFM.far (p := ⟨w.heap.size, y, none⟩) (by dsimp only; omega) _, blk_eq (bNM.set y _) NS.out, bSM.far (p := ⟨w.heap.size, y, none⟩) (by dsimp only; omega) _, rM.below ((Below.refl w.heap.size wz).setCell (p := ⟨w.heap.size, y, none⟩) (Nat.le_refl _) _), HBM.setCell (p := ⟨w.heap.size, y, none⟩) hB3 _⟩
        case measure => simp [intOf]; omega
      · have hx0 : l[k] = 0 := by omega
        rw [hx0] at d0
        have e1 := wordsK_skip l k hkl hp
        have e2 := sortK_skip l k hkl hp
        have e3 := nxt_skip l k hkl hp
        rw [← e1] at bF
        rw [← e2] at bS
        rw [← e3] at bN
        clear e1 e2 e3 hp hx15 hx0
        go_wp2_with fail
        go_roundw
        case rel => exact ⟨k + 1, by go_num, by omega, bC, bF, bN, bS, r, HB⟩
        case measure => simp [intOf]; omega
    · have hkn2 : k = n := by omega
      have bF' : Blk wr gW 47 (fcells (wordsF l)).toArray := by rw [← wordsK_all, hl, ← hkn2]; exact bF
      have bS' : Blk wr (w.heap.size + 1) 3 (ints (sortF l)).toArray := by unfold sortF; rw [hl, ← hkn2]; exact bS
      clear bF bS
      go_wp2_with fail
      go_end0
      exact ⟨rfl, w.heap.size + 1, by omega, bC, bF', bS', HB⟩
end LenW
end Go.Proofs.Ytedoeplhjmkllaa
