/- The walks of package lens: two places of a row change; two ranges do; a row is turned. -/
import Derived.Test.YtpnccehaomikbaaLenQ
namespace Go.Proofs.Ytpnccehaomikbaa
set_option linter.unusedVariables false
set_option linter.unusedSimpArgs false
set_option linter.unnecessarySimpa false
open Go.RowKit
namespace LenW

theorem fset2 (l : List (Int × Int)) (k : Nat) (h : k < l.length) (x : Int × Int) : ((fcells l).set (k * 2) (.int .i64 x.1)).set (k * 2 + 1) (.int .i64 x.2) = fcells (l.set k x) := by
  induction l generalizing k with
  | nil => simp at h
  | cons y r ih =>
    cases k with
    | zero => simp [fcells_cons]
    | succ k =>
      simp only [List.length_cons] at h
      rw [List.set_cons_succ, fcells_cons, fcells_cons, ← ih k (by omega), show (k + 1) * 2 = k * 2 + 1 + 1 by omega]
      rfl
/-- Two places. -/
structure SwapOk (L L' : List (Int × Int)) (p q : Nat) (x y : Int × Int) : Prop where
  c1 : (fcells L)[p * 2]? = some (.int .i64 x.1)
  c2 : (fcells L)[p * 2 + 1]? = some (.int .i64 x.2)
  c3 : (fcells L)[q * 2]? = some (.int .i64 y.1)
  c4 : (fcells L)[q * 2 + 1]? = some (.int .i64 y.2)
  s1 : ((((fcells L).set (p * 2) (.int .i64 y.1)).set (p * 2 + 1) (.int .i64 y.2)).set (q * 2) (.int .i64 x.1)).set (q * 2 + 1) (.int .i64 x.2) = fcells L'
  s2 : ((((fcells L).set (q * 2) (.int .i64 x.1)).set (q * 2 + 1) (.int .i64 x.2)).set (p * 2) (.int .i64 y.1)).set (p * 2 + 1) (.int .i64 y.2) = fcells L'
theorem swap_ok (U V W : List (Int × Int)) (x y : Int × Int) (p q : Nat) (hp : U.length = p) (hq : p + 1 + V.length = q) : SwapOk (U ++ x :: (V ++ y :: W)) (U ++ y :: (V ++ x :: W)) p q x y := by
  have hl : (U ++ x :: (V ++ y :: W)).length = p + 1 + V.length + 1 + W.length := by simp; omega
  have hpL : p < (U ++ x :: (V ++ y :: W)).length := by omega
  have hqL : q < (U ++ x :: (V ++ y :: W)).length := by omega
  have e1 : (U ++ x :: (V ++ y :: W))[p] = x := by
    rw [List.getElem_append_right (by omega)]
    simp [hp]
  have e2 : (U ++ x :: (V ++ y :: W))[q] = y := by
    rw [List.getElem_append_right (by omega)]
    have : q - U.length = V.length + 1 := by omega
    simp [this]
  obtain ⟨a1, a2⟩ := fcells_get _ p hpL
  obtain ⟨a3, a4⟩ := fcells_get _ q hqL
  rw [e1] at a1 a2
  rw [e2] at a3 a4
  have k1 : ((U ++ x :: (V ++ y :: W)).set p y).set q x = U ++ y :: (V ++ x :: W) := by
    rw [List.set_append_right _ _ (by omega), show p - U.length = 0 by omega, List.set_cons_zero, List.set_append_right _ _ (by omega), show q - U.length = V.length + 1 by omega, List.set_cons_succ, List.set_append_right _ _ (by omega), Nat.sub_self, List.set_cons_zero]
  have k2 : ((U ++ x :: (V ++ y :: W)).set q x).set p y = U ++ y :: (V ++ x :: W) := by rw [List.set_comm _ _ (by omega), k1]
  refine ⟨a1, a2, a3, a4, ?_, ?_⟩
  · rw [fset2 _ p hpL, fset2 _ q (by rw [List.length_set]; exact hqL), k1]
  · rw [fset2 _ q hqL, fset2 _ p (by rw [List.length_set]; exact hpL), k2]
theorem drop_cons2 (l : List (Int × Int)) (i : Nat) (h : i < l.length) : l.drop i = l[i] :: l.drop (i + 1) := List.drop_eq_getElem_cons h
set_option maxRecDepth 100000 in
set_option maxHeartbeats 8000000 in
theorem swapRange_any (base : Nat) (A0 : Option Addr) (N c : Nat) (P X M Y T : List (Int × Int)) (w : World) (a b n : Nat) (ha : P.length = a) (hb : a + X.length + M.length = b) (hX : X.length = n) (hY : Y.length = n) (hN : P.length + X.length + M.length + Y.length + T.length = N) (hN3 : N ≤ 1000)
    (ho : Own w base 39 2 A0 N c (fcells (P ++ (X ++ (M ++ (Y ++ T)))))) (hbs : base ≤ w.heap.size) :
    Calls Try.prog 39 #[.slice A0 N c, .int .i64 a, .int .i64 b, .int .i64 n, .func (.func 30) #[] #[]] w fun e w' => e = .returned (.tuple #[]) ∧ Own w' base 39 2 A0 N c (fcells (P ++ (Y ++ (M ++ (X ++ T))))) ∧ Below base w w' := by
  have hbn : b + n ≤ N := by omega
  have han : a + n ≤ b := by omega
  have HA := Lib.hid ha
  have HB0 := Lib.hid hb
  have HX := Lib.hid hX
  have HY := Lib.hid hY
  clear ha hb hX hY hN
  go_enter Try.func39, Try.ntmps39
  go_wp2_with fail
  go_loopw [10] (fun s wr => ∃ i : Nat, s = .int .i64 i ∧ i ≤ n ∧ Own wr base 39 2 A0 N c (fcells (P ++ (Y.take i ++ (X.drop i ++ (M ++ (X.take i ++ (Y.drop i ++ T))))))) ∧ Below base w wr) (fun s _ => n - (intOf s).toNat)
  case atStart => exact ⟨0, rfl, by omega, by simpa using ho, Below.refl _ _⟩
  case round =>
    clear ho
    obtain ⟨i, rfl, hi, o2, HB⟩ := hrel
    have hz := HB.size
    by_cases hlt : i < n
    · obtain ⟨g, rfl⟩ : ∃ g, A0 = some ⟨g, 0, none⟩ := by
        rcases o2.shape with ⟨_, h0, _⟩ | ⟨g, e, _⟩
        · omega
        · exact ⟨g, e⟩
      have hg0 : base ≤ g := (o2.blk g rfl).1
      have hiX : i < X.length := by rw [HX.out]; exact hlt
      have hiY : i < Y.length := by rw [HY.out]; exact hlt
      obtain ⟨p, hp⟩ : ∃ p, a + i = p := ⟨_, rfl⟩
      obtain ⟨q, hq⟩ : ∃ q, b + i = q := ⟨_, rfl⟩
      obtain ⟨x, hx⟩ : ∃ x, X[i] = x := ⟨_, rfl⟩
      obtain ⟨y, hy⟩ : ∃ y, Y[i] = y := ⟨_, rfl⟩
      have HS := swap_ok (P ++ Y.take i) (X.drop (i + 1) ++ (M ++ X.take i)) (Y.drop (i + 1) ++ T) x y p q (by rw [List.length_append, List.length_take, HA.out]; omega) (by simp only [List.length_append, List.length_take, List.length_drop]; have := HX.out; have := HB0.out; omega)
      have eL : P ++ (Y.take i ++ (X.drop i ++ (M ++ (X.take i ++ (Y.drop i ++ T))))) = (P ++ Y.take i) ++ x :: (X.drop (i + 1) ++ (M ++ X.take i) ++ y :: (Y.drop (i + 1) ++ T)) := by
        rw [drop_cons2 X i hiX, drop_cons2 Y i hiY, hx, hy]; simp
      have eR : (P ++ Y.take i) ++ y :: (X.drop (i + 1) ++ (M ++ X.take i) ++ x :: (Y.drop (i + 1) ++ T)) = P ++ (Y.take (i + 1) ++ (X.drop (i + 1) ++ (M ++ (X.take (i + 1) ++ (Y.drop (i + 1) ++ T))))) := by
        rw [List.take_succ_eq_append_getElem hiX, List.take_succ_eq_append_getElem hiY, hx, hy]; simp
      rw [eL] at o2
      rw [eR] at HS
      obtain ⟨L, hL⟩ : ∃ L, (P ++ Y.take i) ++ x :: (X.drop (i + 1) ++ (M ++ X.take i) ++ y :: (Y.drop (i + 1) ++ T)) = L := ⟨_, rfl⟩
      obtain ⟨L', hL'⟩ : ∃ L', P ++ (Y.take (i + 1) ++ (X.drop (i + 1) ++ (M ++ (X.take (i + 1) ++ (Y.drop (i + 1) ++ T))))) = L' := ⟨_, rfl⟩
      rw [hL, hL'] at HS
      rw [hL] at o2
      have HL' := Lib.hid hL'
      obtain ⟨x1, x2⟩ := x
      obtain ⟨y1, y2⟩ := y
      have SW := Lib.hid HS
      have hp1 : IntKind.i64.wrap ((a : Int) + (i : Int)) = (p : Int) := (w64k (by omega) (by omega)).trans (by omega)
      have hq1 : IntKind.i64.wrap ((b : Int) + (i : Int)) = (q : Int) := (w64k (by omega) (by omega)).trans (by omega)
      have hp2 : (0 : Int) ≤ (p : Int) := by omega
      have hq2 : (0 : Int) ≤ (q : Int) := by omega
      have hp3 : (p : Int) < (N : Int) := by omega
      have hq3 : (q : Int) < (N : Int) := by omega
      have hpN : p < N := by omega
      have hqN : q < N := by omega
      have hiI : (i : Int) < (n : Int) := by omega
      have hi1 : IntKind.i64.wrap ((i : Int) + 1) = (i : Int) + 1 := w64k (by omega) (by omega)
      clear HS hL hL' eL eR hx hy hiX hiY hp hq
      go_wp2_with fail
      refine wp_region_held_drew (S := (fun _ => True)) (by kernel_rfl) ?_ (fun hHeld => ?_)
      · replace HB := Below.drew HB; replace o2 := Own.drew o2; (try dsimp only); try trivial
      replace HB := Below.drew HB
      replace o2 := Own.drew o2
      have zHB := HB.size
      refine take_movev (v := ?vu1x0) 0 (Operand.tmp 0) rfl rfl (by first | exact .inl rfl | exact .inr rfl) rfl (by kernel_rfl) (by kernel_rfl) (by kernel_rfl) (fun _ _ _ h => h) (by assumption) ?yu1x0 ?ru1x0
      case yu1x0 => (go_simp; try (with_reducible rfl))
      simp only [List.setIfInBounds_toArray, List.set_cons_zero, List.set_cons_succ]
      refine take_movev (v := ?vu1x1) 1 (Operand.tmp 1) rfl rfl (by first | exact .inl rfl | exact .inr rfl) rfl (by kernel_rfl) (by kernel_rfl) (by kernel_rfl) (fun _ _ _ h => h) (by assumption) ?yu1x1 ?ru1x1
      case yu1x1 => (go_simp; try (with_reducible rfl))
      simp only [List.setIfInBounds_toArray, List.set_cons_zero, List.set_cons_succ]
      refine take_movev (v := ?vu1x2) 2 (Operand.tmp 10) rfl rfl (by first | exact .inl rfl | exact .inr rfl) rfl (by kernel_rfl) (by kernel_rfl) (by kernel_rfl) (fun _ _ _ h => h) (by assumption) ?yu1x2 ?ru1x2
      case yu1x2 => (go_simp; try (with_reducible rfl))
      simp only [List.setIfInBounds_toArray, List.set_cons_zero, List.set_cons_succ]
      refine take_op (v := ?vu1x3) 3 (Op.binOp BinOp.add 3 (Operand.tmp 17) (Operand.tmp 18) 3) 3 rfl rfl rfl rfl rfl (by kernel_rfl) (by kernel_rfl) (by kernel_rfl) (fun _ _ _ h => h) ?yu1x3 (by assumption) ?ru1x3
      case yu1x3 => (intro w' hSw; (try dsimp only at hSw); go_simp; try (with_reducible rfl))
      simp only [List.setIfInBounds_toArray, List.set_cons_zero, List.set_cons_succ]
      refine take_movev (v := ?vu1x4) 4 (Operand.tmp 0) rfl rfl (by first | exact .inl rfl | exact .inr rfl) rfl (by kernel_rfl) (by kernel_rfl) (by kernel_rfl) (fun _ _ _ h => h) (by assumption) ?yu1x4 ?ru1x4
      case yu1x4 => (go_simp; try (with_reducible rfl))
      simp only [List.setIfInBounds_toArray, List.set_cons_zero, List.set_cons_succ]
      refine take_movev (v := ?vu1x5) 5 (Operand.tmp 2) rfl rfl (by first | exact .inl rfl | exact .inr rfl) rfl (by kernel_rfl) (by kernel_rfl) (by kernel_rfl) (fun _ _ _ h => h) (by assumption) ?yu1x5 ?ru1x5
      case yu1x5 => (go_simp; try (with_reducible rfl))
      simp only [List.setIfInBounds_toArray, List.set_cons_zero, List.set_cons_succ]
      refine take_movev (v := ?vu1x6) 6 (Operand.tmp 10) rfl rfl (by first | exact .inl rfl | exact .inr rfl) rfl (by kernel_rfl) (by kernel_rfl) (by kernel_rfl) (fun _ _ _ h => h) (by assumption) ?yu1x6 ?ru1x6
      case yu1x6 => (go_simp; try (with_reducible rfl))
      simp only [List.setIfInBounds_toArray, List.set_cons_zero, List.set_cons_succ]
      refine take_op (v := ?vu1x7) 7 (Op.binOp BinOp.add 3 (Operand.tmp 21) (Operand.tmp 22) 3) 3 rfl rfl rfl rfl rfl (by kernel_rfl) (by kernel_rfl) (by kernel_rfl) (fun _ _ _ h => h) ?yu1x7 (by assumption) ?ru1x7
      case yu1x7 => (intro w' hSw; (try dsimp only at hSw); go_simp; try (with_reducible rfl))
      simp only [List.setIfInBounds_toArray, List.set_cons_zero, List.set_cons_succ]
      refine take_movev (v := ?vu1x8) 8 (Operand.tmp 0) rfl rfl (by first | exact .inl rfl | exact .inr rfl) rfl (by kernel_rfl) (by kernel_rfl) (by kernel_rfl) (fun _ _ _ h => h) (by assumption) ?yu1x8 ?ru1x8
      case yu1x8 => (go_simp; try (with_reducible rfl))
      simp only [List.setIfInBounds_toArray, List.set_cons_zero, List.set_cons_succ]
      refine take_movev (v := ?vu1x9) 9 (Operand.tmp 2) rfl rfl (by first | exact .inl rfl | exact .inr rfl) rfl (by kernel_rfl) (by kernel_rfl) (by kernel_rfl) (fun _ _ _ h => h) (by assumption) ?yu1x9 ?ru1x9
      case yu1x9 => (go_simp; try (with_reducible rfl))
      simp only [List.setIfInBounds_toArray, List.set_cons_zero, List.set_cons_succ]
      refine take_movev (v := ?vu1x10) 10 (Operand.tmp 10) rfl rfl (by first | exact .inl rfl | exact .inr rfl) rfl (by kernel_rfl) (by kernel_rfl) (by kernel_rfl) (fun _ _ _ h => h) (by assumption) ?yu1x10 ?ru1x10
      case yu1x10 => (go_simp; try (with_reducible rfl))
      simp only [List.setIfInBounds_toArray, List.set_cons_zero, List.set_cons_succ]
      refine take_op (v := ?vu1x11) 11 (Op.binOp BinOp.add 3 (Operand.tmp 25) (Operand.tmp 26) 3) 3 rfl rfl rfl rfl rfl (by kernel_rfl) (by kernel_rfl) (by kernel_rfl) (fun _ _ _ h => h) ?yu1x11 (by assumption) ?ru1x11
      case yu1x11 => (intro w' hSw; (try dsimp only at hSw); go_simp; try (with_reducible rfl))
      simp only [List.setIfInBounds_toArray, List.set_cons_zero, List.set_cons_succ]
      refine take_op (v := ?vu1x12) 12 (Op.indexAddr 36 (Operand.tmp 24) (Operand.tmp 27)) 0 rfl rfl rfl rfl rfl (by kernel_rfl) (by kernel_rfl) (by kernel_rfl) (fun _ _ _ h => h) ?yu1x12 (by assumption) ?ru1x12
      case yu1x12 => (intro w' hSw; (try dsimp only at hSw); go_simp; try (with_reducible rfl))
      simp only [List.setIfInBounds_toArray, List.set_cons_zero, List.set_cons_succ]
      refine take_movev (v := ?vu1x14) 14 (Operand.tmp 0) rfl rfl (by first | exact .inl rfl | exact .inr rfl) rfl (by kernel_rfl) (by kernel_rfl) (by kernel_rfl) (fun _ _ _ h => h) (by assumption) ?yu1x14 ?ru1x14
      case yu1x14 => (go_simp; try (with_reducible rfl))
      simp only [List.setIfInBounds_toArray, List.set_cons_zero, List.set_cons_succ]
      refine take_movev (v := ?vu1x15) 15 (Operand.tmp 1) rfl rfl (by first | exact .inl rfl | exact .inr rfl) rfl (by kernel_rfl) (by kernel_rfl) (by kernel_rfl) (fun _ _ _ h => h) (by assumption) ?yu1x15 ?ru1x15
      case yu1x15 => (go_simp; try (with_reducible rfl))
      simp only [List.setIfInBounds_toArray, List.set_cons_zero, List.set_cons_succ]
      refine take_movev (v := ?vu1x16) 16 (Operand.tmp 10) rfl rfl (by first | exact .inl rfl | exact .inr rfl) rfl (by kernel_rfl) (by kernel_rfl) (by kernel_rfl) (fun _ _ _ h => h) (by assumption) ?yu1x16 ?ru1x16
      case yu1x16 => (go_simp; try (with_reducible rfl))
      simp only [List.setIfInBounds_toArray, List.set_cons_zero, List.set_cons_succ]
      refine take_op (v := ?vu1x17) 17 (Op.binOp BinOp.add 3 (Operand.tmp 31) (Operand.tmp 32) 3) 3 rfl rfl rfl rfl rfl (by kernel_rfl) (by kernel_rfl) (by kernel_rfl) (fun _ _ _ h => h) ?yu1x17 (by assumption) ?ru1x17
      case yu1x17 => (intro w' hSw; (try dsimp only at hSw); go_simp; try (with_reducible rfl))
      simp only [List.setIfInBounds_toArray, List.set_cons_zero, List.set_cons_succ]
      refine take_op (v := ?vu1x18) 18 (Op.indexAddr 36 (Operand.tmp 30) (Operand.tmp 33)) 0 rfl rfl rfl rfl rfl (by kernel_rfl) (by kernel_rfl) (by kernel_rfl) (fun _ _ _ h => h) ?yu1x18 (by assumption) ?ru1x18
      case yu1x18 => (intro w' hSw; (try dsimp only at hSw); go_simp; try (with_reducible rfl))
      simp only [List.setIfInBounds_toArray, List.set_cons_zero, List.set_cons_succ]
      refine wpAnyH_ready (rs := [13, 19]) (by kernel_rfl) (by simp) (AllReadyH.cons rfl (fun K13 hK13 => ?ku1x13) (AllReadyH.cons rfl (fun K19 hK19 => ?ku1x19) AllReadyH.nil))
      case ku1x13 =>
        refine take_any 13 (Op.load 39 (Operand.tmp 28)) 39 rfl rfl rfl (by kernel_rfl) (v := .agg #[.int .i64 y1, .int .i64 y2]) (by have k1 : wr.cell? ⟨g, q * 2, none⟩ = _ := own_cell o2 _ SW.out.c3; have k2 : wr.cell? ⟨g, q * 2 + 1, none⟩ = _ := own_cell o2 _ SW.out.c4; go_simp; try (with_reducible rfl)) ?_
        refine hK13.out _ _ ?su1xb1x13 (fun hHeld => ?ru1xb1x13)
        case su1xb1x13 => ((try dsimp only); try trivial)
        try simp only [List.setIfInBounds_toArray, List.set_cons_zero, List.set_cons_succ]
        refine wpAnyH_ready (rs := [19]) (by kernel_rfl) (by simp) (AllReadyH.cons rfl (fun K19 hK19 => ?ku1xb1x19) AllReadyH.nil)
        refine take_any 19 (Op.load 39 (Operand.tmp 34)) 39 rfl rfl rfl (by kernel_rfl) (v := .agg #[.int .i64 x1, .int .i64 x2]) (by have k1 : wr.cell? ⟨g, p * 2, none⟩ = _ := own_cell o2 _ SW.out.c1; have k2 : wr.cell? ⟨g, p * 2 + 1, none⟩ = _ := own_cell o2 _ SW.out.c2; go_simp; try (with_reducible rfl)) ?_
        refine hK19.out _ _ ?su1xb1x19 (fun hHeld => ?ru1xb1x19)
        case su1xb1x19 => ((try dsimp only); try trivial)
        try simp only [List.setIfInBounds_toArray, List.set_cons_zero, List.set_cons_succ]
        refine take_op (v := ?vu1xb1x20) 20 (Op.indexAddr 36 (Operand.tmp 16) (Operand.tmp 19)) 0 rfl rfl rfl rfl rfl (by kernel_rfl) (by kernel_rfl) (by kernel_rfl) (fun _ _ _ h => h) ?yu1xb1x20 (by assumption) ?ru1xb1x20
        case yu1xb1x20 => (intro w' hSw; (try dsimp only at hSw); go_simp; try (with_reducible rfl))
        simp only [List.setIfInBounds_toArray, List.set_cons_zero, List.set_cons_succ]
        refine wpAnyH_ready (rs := [21]) (by kernel_rfl) (by simp) (AllReadyH.cons rfl (fun K21 hK21 => ?ku1xb1x21) AllReadyH.nil)
        refine take_store 21 (Op.store 39 (Operand.tmp 36) (Operand.tmp 29)) 0 rfl rfl rfl (by kernel_rfl) (w' := (wr.drew.setCell ⟨g, p * 2, none⟩ (.int .i64 y1)).setCell ⟨g, p * 2 + 1, none⟩ (.int .i64 y2)) (by have f := own_thaw o2; have hfl := o2.len; obtain ⟨v1, hv1⟩ : ∃ v1, _ := own_has o2 (p * 2) (by omega); obtain ⟨v2, hv2⟩ : ∃ v2, _ := own_has o2 (p * 2 + 1) (by omega); (try simp only [World.cell?_drew, World.frozen?_drew] at f hv1 hv2); go_simp; try (with_reducible rfl)) ?_
        refine hK21.out _ _ (trivial) (fun hHeld => ?_)
        replace o2 := (o2.set (k := p * 2) (.int .i64 y1)).set (k := p * 2 + 1) (.int .i64 y2)
        replace HB := (HB.setCell (p := ⟨g, p * 2, none⟩) hg0 (.int .i64 y1)).setCell (p := ⟨g, p * 2 + 1, none⟩) hg0 (.int .i64 y2)
        generalize ((wr.drew.setCell ⟨g, p * 2, none⟩ (.int .i64 y1)).setCell ⟨g, p * 2 + 1, none⟩ (.int .i64 y2)) = wq at *
        refine take_op (v := ?vu1xb1x22) 22 (Op.indexAddr 36 (Operand.tmp 20) (Operand.tmp 23)) 0 rfl rfl rfl rfl rfl (by kernel_rfl) (by kernel_rfl) (by kernel_rfl) (fun _ _ _ h => h) ?yu1xb1x22 (by assumption) ?ru1xb1x22
        case yu1xb1x22 => (intro w' hSw; (try dsimp only at hSw); go_simp; try (with_reducible rfl))
        simp only [List.setIfInBounds_toArray, List.set_cons_zero, List.set_cons_succ]
        refine wpAnyH_ready (rs := [23]) (by kernel_rfl) (by simp) (AllReadyH.cons rfl (fun K23 hK23 => ?ku1xb1x23) AllReadyH.nil)
        refine take_store 23 (Op.store 39 (Operand.tmp 37) (Operand.tmp 35)) 0 rfl rfl rfl (by kernel_rfl) (w' := (wq.setCell ⟨g, q * 2, none⟩ (.int .i64 x1)).setCell ⟨g, q * 2 + 1, none⟩ (.int .i64 x2)) (by have f := own_thaw o2; have hfl := o2.len; obtain ⟨v1, hv1⟩ : ∃ v1, _ := own_has o2 (q * 2) (by omega); obtain ⟨v2, hv2⟩ : ∃ v2, _ := own_has o2 (q * 2 + 1) (by omega); (try simp only [World.cell?_drew, World.frozen?_drew] at f hv1 hv2); go_simp; try (with_reducible rfl)) ?_
        refine hK23.out _ _ (trivial) (fun hHeld => ?_)
        replace o2 := (o2.set (k := q * 2) (.int .i64 x1)).set (k := q * 2 + 1) (.int .i64 x2)
        replace HB := (HB.setCell (p := ⟨g, q * 2, none⟩) hg0 (.int .i64 x1)).setCell (p := ⟨g, q * 2 + 1, none⟩) hg0 (.int .i64 x2)
        generalize ((wq.setCell ⟨g, q * 2, none⟩ (.int .i64 x1)).setCell ⟨g, q * 2 + 1, none⟩ (.int .i64 x2)) = wq at *
        refine wpAnyH_done (by kernel_rfl) ?_ _
        clear hHeld
        have o3 : Own wq base 39 2 (some ⟨g, 0, none⟩) N c (fcells L') := by first | exact SW.out.s1 ▸ o2 | exact SW.out.s2 ▸ o2
        go_wp2_with fail
        go_roundw
        case rel => exact ⟨i + 1, by go_num, by omega, by rw [HL'.out]; exact o3, HB⟩
        case measure => simp [intOf]; omega
      case ku1x19 =>
        refine take_any 19 (Op.load 39 (Operand.tmp 34)) 39 rfl rfl rfl (by kernel_rfl) (v := .agg #[.int .i64 x1, .int .i64 x2]) (by have k1 : wr.cell? ⟨g, p * 2, none⟩ = _ := own_cell o2 _ SW.out.c1; have k2 : wr.cell? ⟨g, p * 2 + 1, none⟩ = _ := own_cell o2 _ SW.out.c2; go_simp; try (with_reducible rfl)) ?_
        refine hK19.out _ _ ?su1xb5x19 (fun hHeld => ?ru1xb5x19)
        case su1xb5x19 => ((try dsimp only); try trivial)
        try simp only [List.setIfInBounds_toArray, List.set_cons_zero, List.set_cons_succ]
        refine wpAnyH_ready (rs := [13]) (by kernel_rfl) (by simp) (AllReadyH.cons rfl (fun K13 hK13 => ?ku1xb5x13) AllReadyH.nil)
        refine take_any 13 (Op.load 39 (Operand.tmp 28)) 39 rfl rfl rfl (by kernel_rfl) (v := .agg #[.int .i64 y1, .int .i64 y2]) (by have k1 : wr.cell? ⟨g, q * 2, none⟩ = _ := own_cell o2 _ SW.out.c3; have k2 : wr.cell? ⟨g, q * 2 + 1, none⟩ = _ := own_cell o2 _ SW.out.c4; go_simp; try (with_reducible rfl)) ?_
        refine hK13.out _ _ ?su1xb5x13 (fun hHeld => ?ru1xb5x13)
        case su1xb5x13 => ((try dsimp only); try trivial)
        try simp only [List.setIfInBounds_toArray, List.set_cons_zero, List.set_cons_succ]
        refine take_op (v := ?vu1xb5x20) 20 (Op.indexAddr 36 (Operand.tmp 16) (Operand.tmp 19)) 0 rfl rfl rfl rfl rfl (by kernel_rfl) (by kernel_rfl) (by kernel_rfl) (fun _ _ _ h => h) ?yu1xb5x20 (by assumption) ?ru1xb5x20
        case yu1xb5x20 => (intro w' hSw; (try dsimp only at hSw); go_simp; try (with_reducible rfl))
        simp only [List.setIfInBounds_toArray, List.set_cons_zero, List.set_cons_succ]
        refine wpAnyH_ready (rs := [21]) (by kernel_rfl) (by simp) (AllReadyH.cons rfl (fun K21 hK21 => ?ku1xb5x21) AllReadyH.nil)
        refine take_store 21 (Op.store 39 (Operand.tmp 36) (Operand.tmp 29)) 0 rfl rfl rfl (by kernel_rfl) (w' := (wr.drew.setCell ⟨g, p * 2, none⟩ (.int .i64 y1)).setCell ⟨g, p * 2 + 1, none⟩ (.int .i64 y2)) (by have f := own_thaw o2; have hfl := o2.len; obtain ⟨v1, hv1⟩ : ∃ v1, _ := own_has o2 (p * 2) (by omega); obtain ⟨v2, hv2⟩ : ∃ v2, _ := own_has o2 (p * 2 + 1) (by omega); (try simp only [World.cell?_drew, World.frozen?_drew] at f hv1 hv2); go_simp; try (with_reducible rfl)) ?_
        refine hK21.out _ _ (trivial) (fun hHeld => ?_)
        replace o2 := (o2.set (k := p * 2) (.int .i64 y1)).set (k := p * 2 + 1) (.int .i64 y2)
        replace HB := (HB.setCell (p := ⟨g, p * 2, none⟩) hg0 (.int .i64 y1)).setCell (p := ⟨g, p * 2 + 1, none⟩) hg0 (.int .i64 y2)
        generalize ((wr.drew.setCell ⟨g, p * 2, none⟩ (.int .i64 y1)).setCell ⟨g, p * 2 + 1, none⟩ (.int .i64 y2)) = wq at *
        refine take_op (v := ?vu1xb5x22) 22 (Op.indexAddr 36 (Operand.tmp 20) (Operand.tmp 23)) 0 rfl rfl rfl rfl rfl (by kernel_rfl) (by kernel_rfl) (by kernel_rfl) (fun _ _ _ h => h) ?yu1xb5x22 (by assumption) ?ru1xb5x22
        case yu1xb5x22 => (intro w' hSw; (try dsimp only at hSw); go_simp; try (with_reducible rfl))
        simp only [List.setIfInBounds_toArray, List.set_cons_zero, List.set_cons_succ]
        refine wpAnyH_ready (rs := [23]) (by kernel_rfl) (by simp) (AllReadyH.cons rfl (fun K23 hK23 => ?ku1xb5x23) AllReadyH.nil)
        refine take_store 23 (Op.store 39 (Operand.tmp 37) (Operand.tmp 35)) 0 rfl rfl rfl (by kernel_rfl) (w' := (wq.setCell ⟨g, q * 2, none⟩ (.int .i64 x1)).setCell ⟨g, q * 2 + 1, none⟩ (.int .i64 x2)) (by have f := own_thaw o2; have hfl := o2.len; obtain ⟨v1, hv1⟩ : ∃ v1, _ := own_has o2 (q * 2) (by omega); obtain ⟨v2, hv2⟩ : ∃ v2, _ := own_has o2 (q * 2 + 1) (by omega); (try simp only [World.cell?_drew, World.frozen?_drew] at f hv1 hv2); go_simp; try (with_reducible rfl)) ?_
        refine hK23.out _ _ (trivial) (fun hHeld => ?_)
        replace o2 := (o2.set (k := q * 2) (.int .i64 x1)).set (k := q * 2 + 1) (.int .i64 x2)
        replace HB := (HB.setCell (p := ⟨g, q * 2, none⟩) hg0 (.int .i64 x1)).setCell (p := ⟨g, q * 2 + 1, none⟩) hg0 (.int .i64 x2)
        generalize ((wq.setCell ⟨g, q * 2, none⟩ (.int .i64 x1)).setCell ⟨g, q * 2 + 1, none⟩ (.int .i64 x2)) = wq at *
        refine wpAnyH_done (by kernel_rfl) ?_ _
        clear hHeld
        have o3 : Own wq base 39 2 (some ⟨g, 0, none⟩) N c (fcells L') := by first | exact SW.out.s1 ▸ o2 | exact SW.out.s2 ▸ o2
        go_wp2_with fail
        go_roundw
        case rel => exact ⟨i + 1, by go_num, by omega, by rw [HL'.out]; exact o3, HB⟩
        case measure => simp [intOf]; omega
    · have hiI : ¬ (i : Int) < (n : Int) := by omega
      obtain rfl : i = n := by omega
      go_wp2_with fail
      go_end0
      refine ⟨rfl, ?_, HB⟩
      rw [List.take_of_length_le (l := X) (Nat.le_of_eq HX.out), List.take_of_length_le (l := Y) (Nat.le_of_eq HY.out), List.drop_of_length_le (l := X) (Nat.le_of_eq HX.out), List.drop_of_length_le (l := Y) (Nat.le_of_eq HY.out)] at o2
      simpa using o2
end LenW
end Go.Proofs.Ytpnccehaomikbaa
