/- The walks of package lens: things are sorted by insertion. -/
import Derived.Test.YtpnccehaomikbaaLenC
import Derived.Deep.CutRange
import Derived.Deep.DeepCutAuto
namespace Go.Proofs.Ytpnccehaomikbaa
set_option linter.unusedVariables false
set_option linter.unusedSimpArgs false
set_option linter.unnecessarySimpa false
open Go.RowKit
namespace LenW

theorem own_has {w : World} {base e size g n c : Nat} {xs : List Value} (h : Own w base e size (some ⟨g, 0, none⟩) n c xs) (j : Nat) (hj : j < xs.length) : ∃ v, w.cell? ⟨g, j, none⟩ = some v := ⟨_, own_cell h j (List.getElem?_eq_getElem hj)⟩
theorem fcells_app (a b : List (Int × Int)) : fcells (a ++ b) = fcells a ++ fcells b := by simp [fcells]
theorem fcells_two (A B : List (Int × Int)) (x y : Int × Int) : (fcells (A ++ y :: x :: B))[A.length * 2]? = some (.int .i64 y.1) ∧ (fcells (A ++ y :: x :: B))[A.length * 2 + 1]? = some (.int .i64 y.2) ∧
    (fcells (A ++ y :: x :: B))[(A.length + 1) * 2]? = some (.int .i64 x.1) ∧ (fcells (A ++ y :: x :: B))[(A.length + 1) * 2 + 1]? = some (.int .i64 x.2) := by
  obtain ⟨h1, h2⟩ := fcells_get (A ++ y :: x :: B) A.length (by simp)
  obtain ⟨h3, h4⟩ := fcells_get (A ++ y :: x :: B) (A.length + 1) (by simp)
  rw [List.getElem_append_right (by omega)] at h1 h2 h3 h4
  simp only [Nat.sub_self, List.getElem_cons_zero, Nat.add_sub_cancel_left, List.getElem_cons_succ] at h1 h2 h3 h4
  exact ⟨h1, h2, h3, h4⟩
theorem fcells_swap (A B : List (Int × Int)) (x y : Int × Int) : ((((fcells (A ++ y :: x :: B)).set ((A.length + 1) * 2) (.int .i64 y.1)).set ((A.length + 1) * 2 + 1) (.int .i64 y.2)).set (A.length * 2) (.int .i64 x.1)).set (A.length * 2 + 1) (.int .i64 x.2) = fcells (A ++ x :: y :: B) := by
  have hl : (fcells A).length = A.length * 2 := fcells_len A
  rw [fcells_app, fcells_app]
  have e : ∀ p q : Int × Int, fcells (p :: q :: B) = .int .i64 p.1 :: .int .i64 p.2 :: .int .i64 q.1 :: .int .i64 q.2 :: fcells B := fun _ _ => rfl
  rw [e, e]
  rw [List.set_append_right _ _ (by omega), List.set_append_right _ _ (by omega), List.set_append_right _ _ (by omega), List.set_append_right _ _ (by omega), hl]
  rw [show (A.length + 1) * 2 - A.length * 2 = 2 by omega, show (A.length + 1) * 2 + 1 - A.length * 2 = 3 by omega, show A.length * 2 - A.length * 2 = 0 by omega, show A.length * 2 + 1 - A.length * 2 = 1 by omega]
  rfl
/-- A thing has come to its place. -/
theorem ins_place (M : List (Int × Int)) (k : Nat) (hk : k < M.length) (A B : List (Int × Int)) (hQ : sortW (M.take k) = A ++ B) (hB : ∀ b, B.head? = some b → M[k].1 < b.1) (hA : ∀ y, A.getLast? = some y → y.1 ≤ M[k].1) : sortW (M.take (k + 1)) = A ++ M[k] :: B := by
  rw [List.take_succ_eq_append_getElem hk, sortW_snoc, hQ]
  refine insW_split _ A B (fun a ha => ?_) hB
  have hup := sortW_up (M.take k)
  rw [hQ] at hup
  unfold upW at hup
  have hupA := (List.pairwise_append.1 hup).1
  obtain ⟨A', y, rfl⟩ : ∃ A' y, A = A' ++ [y] := ⟨A.dropLast, A.getLast (by intro e; subst e; simp at ha), (List.dropLast_concat_getLast _).symm⟩
  have hy := hA y (by simp)
  rcases List.mem_append.1 ha with h | h
  · have := (List.pairwise_append.1 hupA).2.2 a h y (by simp)
    omega
  · simp only [List.mem_singleton] at h
    subst h
    exact hy
theorem cmpV_lt (x y : Int) : (cmpV x y < 0) ↔ x < y := by
  unfold cmpV
  split
  · simp_all
  · split <;> simp_all
theorem cmpV_le (x y : Int) : (cmpV x y ≤ 0) ↔ x ≤ y := by
  unfold cmpV
  split
  · simp_all; omega
  · split
    · simp_all
    · simp_all
set_option maxRecDepth 100000 in
set_option maxHeartbeats 8000000 in
theorem insSort_any (base : Nat) (A0 : Option Addr) (n c : Nat) (P M T : List (Int × Int)) (w : World) (a b : Nat) (ha : P.length = a) (hb : b = a + M.length) (hn : P.length + M.length + T.length = n) (hn3 : n ≤ 1000)
    (ho : Own w base 39 2 A0 n c (fcells (P ++ M ++ T))) (hbs : base ≤ w.heap.size) :
    Calls Try.prog 35 #[.slice A0 n c, .int .i64 a, .int .i64 b, .func (.func 30) #[] #[]] w fun e w' => e = .returned (.tuple #[]) ∧ Own w' base 39 2 A0 n c (fcells (P ++ sortW M ++ T)) ∧ Below base w w' := by
  have HBM := Lib.hid hb
  have HA := Lib.hid ha
  have HN := Lib.hid hn
  have hab : a ≤ b := by omega
  have hbn : b ≤ n := by omega
  clear hb ha hn
  go_enter Try.func35, Try.ntmps35
  go_wp2_with fail
  go_loopw [8] (fun i wr => ∃ k : Nat, i = .int .i64 ((a + k : Nat) : Int) ∧ 1 ≤ k ∧ (k ≤ M.length ∨ (M.length = 0 ∧ k = 1)) ∧ Own wr base 39 2 A0 n c (fcells (P ++ sortW (M.take k) ++ M.drop k ++ T)) ∧ Below base w wr ∧ base ≤ wr.heap.size) (fun i _ => b - (intOf i).toNat)
  case atStart =>
    refine ⟨1, by go_num, by omega, by omega, ?_, Below.refl _ _, hbs⟩
    have e : sortW (M.take 1) ++ M.drop 1 = M := by
      cases M with
      | nil => rfl
      | cons x M => rfl
    rw [List.append_assoc P, e]
    exact ho
  case round =>
    obtain ⟨k, rfl, hk1, hkM, o1, hbw, hz⟩ := hrel
    clear ho
    have hNN := HN.out
    have hBB1 : b ≤ a + M.length := Nat.le_of_eq HBM.out
    have hBB2 : a + M.length ≤ b := Nat.le_of_eq HBM.out.symm
    have hAA := HA.out
    obtain ⟨q, hq⟩ : ∃ q, a + k = q := ⟨_, rfl⟩
    rw [hq]
    have HQQ := Lib.hid hq
    have hq1 : q ≤ a + k := Nat.le_of_eq hq.symm
    have hq2 : a + k ≤ q := Nat.le_of_eq hq
    clear hq
    by_cases hlt : q < b
    · have hkl : k < M.length := by omega
      have HPL := Lib.hid (fun A B => ins_place M k hkl A B)
      obtain ⟨x, hx⟩ : ∃ x, M[k] = x := ⟨_, rfl⟩
      have HD := Lib.hid (show M.drop k = x :: M.drop (k + 1) by rw [List.drop_eq_getElem_cons hkl, hx])
      rw [hx] at HPL
      have hQl : (sortW (M.take k)).length = k := by rw [sortW_len, List.length_take]; omega
      have hTl : (M.drop (k + 1)).length = M.length - (k + 1) := List.length_drop
      rw [HD.out] at o1
      clear hx
      obtain ⟨g, rfl⟩ : ∃ g, A0 = some ⟨g, 0, none⟩ := by
        rcases o1.shape with ⟨_, h0, _⟩ | ⟨g, e, _⟩
        · omega
        · exact ⟨g, e⟩
      obtain ⟨D, hD⟩ : ∃ D, M.drop (k + 1) ++ T = D := ⟨_, rfl⟩
      have HDD := Lib.hid hD
      have o1' : Own wr base 39 2 (some ⟨g, 0, none⟩) n c (fcells (P ++ (sortW (M.take k) ++ (x :: ([] ++ D))))) := by
        rw [← hD]; simpa [List.append_assoc] using o1
      have hDl : D.length ≤ n := by rw [← hD, List.length_append, hTl]; omega
      have hg0 : base ≤ g := (o1'.blk g rfl).1
      clear o1 hD hTl
      have hltI : (q : Int) < (b : Int) := by omega
      go_wp2_with fail
      go_loopw [9] (fun j wr' => ∃ (A B : List (Int × Int)), j = .int .i64 ((a + A.length : Nat) : Int) ∧ sortW (M.take k) = A ++ B ∧ (∀ b, B.head? = some b → x.1 < b.1) ∧ Own wr' base 39 2 (some ⟨g, 0, none⟩) n c (fcells (P ++ (A ++ (x :: (B ++ D))))) ∧ Below base w wr' ∧ base ≤ wr'.heap.size) (fun j _ => (intOf j).toNat - a)
      case atStart => exact ⟨sortW (M.take k), [], by rw [hQl, HQQ.out], by simp, fun b hb => by simp at hb, o1', hbw, hz⟩
      case round =>
        clear o1' hbw hz
        obtain ⟨A, B, rfl, hQ, hB, o2, hb2, hz2⟩ := hrel
        have HQ := Lib.hid hQ
        have HB' := Lib.hid hB
        have hQ2 : A.length + B.length = k := by rw [← hQl, hQ, List.length_append]
        clear hQ hB
        by_cases hA0 : A = []
        · subst hA0
          have HP := Lib.hid (HPL.out [] B HQ.out HB'.out (fun y hy => by simp at hy))
          have hgd : decide ((a : Int) < (a : Int)) = false := by simp
          have HB := hb2
          go_wp2_with fail
          refine wp_region_held_drew (S := (fun _ => True)) (by kernel_rfl) ?_ (fun hHeld => ?_)
          · replace HB := Below.drew HB; replace o2 := Own.drew o2; (try dsimp only); try trivial
          replace HB := Below.drew HB
          replace o2 := Own.drew o2
          have zHB := HB.size
          refine take_movev (v := ?vu1x0) 0 (Operand.tmp 9) rfl rfl (by first | exact .inl rfl | exact .inr rfl) rfl (by kernel_rfl) (by kernel_rfl) (by kernel_rfl) (fun _ _ _ h => h) (by assumption) ?yu1x0 ?ru1x0
          case yu1x0 => (go_simp; try (with_reducible rfl))
          simp only [List.setIfInBounds_toArray, List.set_cons_zero, List.set_cons_succ]
          refine take_movev (v := ?vu1x1) 1 (Operand.tmp 1) rfl rfl (by first | exact .inl rfl | exact .inr rfl) rfl (by kernel_rfl) (by kernel_rfl) (by kernel_rfl) (fun _ _ _ h => h) (by assumption) ?yu1x1 ?ru1x1
          case yu1x1 => (go_simp; try (with_reducible rfl))
          simp only [List.setIfInBounds_toArray, List.set_cons_zero, List.set_cons_succ]
          refine take_op (v := ?vu1x2) 2 (Op.binOp BinOp.gtr 3 (Operand.tmp 18) (Operand.tmp 19) 3) 4 rfl rfl rfl rfl rfl (by kernel_rfl) (by kernel_rfl) (by kernel_rfl) (fun _ _ _ h => h) ?yu1x2 (by assumption) ?ru1x2
          case yu1x2 => (intro w' hSw; (try dsimp only at hSw); go_simp; try (with_reducible rfl))
          simp only [List.setIfInBounds_toArray, List.set_cons_zero, List.set_cons_succ]
          refine take_movev (v := ?vu1x3) 3 (Operand.tmp 20) rfl rfl (by first | exact .inl rfl | exact .inr rfl) rfl (by kernel_rfl) (by kernel_rfl) (by kernel_rfl) (fun _ _ _ h => h) (by assumption) ?yu1x3 ?ru1x3
          case yu1x3 => (go_simp; try (with_reducible rfl))
          simp only [List.setIfInBounds_toArray, List.set_cons_zero, List.set_cons_succ]
          refine take_skip 4 rfl rfl rfl (by kernel_rfl) (by kernel_rfl) (by kernel_rfl) (fun _ _ _ h => h) (by assumption) ?_
          simp only [List.setIfInBounds_toArray, List.set_cons_zero, List.set_cons_succ]
          refine take_skip 5 rfl rfl rfl (by kernel_rfl) (by kernel_rfl) (by kernel_rfl) (fun _ _ _ h => h) (by assumption) ?_
          simp only [List.setIfInBounds_toArray, List.set_cons_zero, List.set_cons_succ]
          refine take_skip 6 rfl rfl rfl (by kernel_rfl) (by kernel_rfl) (by kernel_rfl) (fun _ _ _ h => h) (by assumption) ?_
          simp only [List.setIfInBounds_toArray, List.set_cons_zero, List.set_cons_succ]
          refine take_skip 7 rfl rfl rfl (by kernel_rfl) (by kernel_rfl) (by kernel_rfl) (fun _ _ _ h => h) (by assumption) ?_
          simp only [List.setIfInBounds_toArray, List.set_cons_zero, List.set_cons_succ]
          refine take_skip 8 rfl rfl rfl (by kernel_rfl) (by kernel_rfl) (by kernel_rfl) (fun _ _ _ h => h) (by assumption) ?_
          simp only [List.setIfInBounds_toArray, List.set_cons_zero, List.set_cons_succ]
          refine take_skip 9 rfl rfl rfl (by kernel_rfl) (by kernel_rfl) (by kernel_rfl) (fun _ _ _ h => h) (by assumption) ?_
          simp only [List.setIfInBounds_toArray, List.set_cons_zero, List.set_cons_succ]
          refine take_skip 10 rfl rfl rfl (by kernel_rfl) (by kernel_rfl) (by kernel_rfl) (fun _ _ _ h => h) (by assumption) ?_
          simp only [List.setIfInBounds_toArray, List.set_cons_zero, List.set_cons_succ]
          refine take_skip 11 rfl rfl rfl (by kernel_rfl) (by kernel_rfl) (by kernel_rfl) (fun _ _ _ h => h) (by assumption) ?_
          simp only [List.setIfInBounds_toArray, List.set_cons_zero, List.set_cons_succ]
          refine take_skip 12 rfl rfl rfl (by kernel_rfl) (by kernel_rfl) (by kernel_rfl) (fun _ _ _ h => h) (by assumption) ?_
          simp only [List.setIfInBounds_toArray, List.set_cons_zero, List.set_cons_succ]
          refine take_skip 13 rfl rfl rfl (by kernel_rfl) (by kernel_rfl) (by kernel_rfl) (fun _ _ _ h => h) (by assumption) ?_
          simp only [List.setIfInBounds_toArray, List.set_cons_zero, List.set_cons_succ]
          refine take_skip 14 rfl rfl rfl (by kernel_rfl) (by kernel_rfl) (by kernel_rfl) (fun _ _ _ h => h) (by assumption) ?_
          simp only [List.setIfInBounds_toArray, List.set_cons_zero, List.set_cons_succ]
          refine take_skip 15 rfl rfl rfl (by kernel_rfl) (by kernel_rfl) (by kernel_rfl) (fun _ _ _ h => h) (by assumption) ?_
          simp only [List.setIfInBounds_toArray, List.set_cons_zero, List.set_cons_succ]
          refine take_op (v := ?vu1x16) 16 (Op.pick (Operand.tmp 21) (Operand.tmp 33) (Operand.const (Value.bool false))) 4 rfl rfl rfl rfl rfl (by kernel_rfl) (by kernel_rfl) (by kernel_rfl) (fun _ _ _ h => h) ?yu1x16 (by assumption) ?ru1x16
          case yu1x16 => (intro w' hSw; (try dsimp only at hSw); go_simp; try (with_reducible rfl))
          simp only [List.setIfInBounds_toArray, List.set_cons_zero, List.set_cons_succ]
          refine wpAnyH_done (by kernel_rfl) ?_ _
          clear hHeld
          go_wp2_with fail
          go_roundw
          case rel => exact ⟨k + 1, by rw [show a + (k + 1) = q + 1 by omega]; go_num, by omega, by omega, by rw [HP.out]; simpa [List.append_assoc, ← HDD.out] using o2, HB, by simpa using hz2⟩
          case measure => simp [intOf]; omega
        · obtain ⟨A', y, rfl⟩ : ∃ A' y, A = A' ++ [y] := ⟨A.dropLast, A.getLast hA0, (List.dropLast_concat_getLast _).symm⟩
          clear hA0
          obtain ⟨q1, q2, q3, q4⟩ := fcells_two (P ++ A') (B ++ D) x y
          have eR : P ++ (A' ++ [y] ++ (x :: (B ++ D))) = (P ++ A') ++ y :: x :: (B ++ D) := by simp
          rw [eR] at o2
          obtain ⟨i, hi⟩ : ∃ i, (P ++ A').length = i := ⟨_, rfl⟩
          have hil : i = a + A'.length := by rw [← hi, List.length_append, hAA]
          rw [hi] at q1 q2 q3 q4
          have Q1 := Lib.hid q1
          have Q2 := Lib.hid q2
          have Q3 := Lib.hid q3
          have Q4 := Lib.hid q4
          have SW := fcells_swap (P ++ A') (B ++ D) x y
          rw [hi] at SW
          have SW2 : ((((fcells (P ++ A' ++ y :: x :: (B ++ D))).set (i * 2) (.int .i64 x.1)).set (i * 2 + 1) (.int .i64 x.2)).set ((i + 1) * 2) (.int .i64 y.1)).set ((i + 1) * 2 + 1) (.int .i64 y.2) = fcells (P ++ A' ++ x :: y :: (B ++ D)) := by
            rw [← SW, List.set_comm (i := (i + 1) * 2 + 1) (j := i * 2) _ _ (by omega), List.set_comm (i := (i + 1) * 2) (j := i * 2) _ _ (by omega), List.set_comm (i := (i + 1) * 2 + 1) (j := i * 2 + 1) _ _ (by omega), List.set_comm (i := (i + 1) * 2) (j := i * 2 + 1) _ _ (by omega)]
          replace SW := Lib.hid SW
          replace SW2 := Lib.hid SW2
          have hj : (a + (A' ++ [y]).length : Nat) = i + 1 := by rw [hil]; simp; omega
          rw [hj]
          have HIL := Lib.hid hil
          have hin : i + 1 < n := by rw [List.length_append] at hQ2; simp only [List.length_singleton] at hQ2; omega
          have hgt : ((i + 1 : Nat) : Int) > (a : Int) := by omega
          have hgt2 : (i : Int) + 1 > (a : Int) := by omega
          have hgd : decide ((a : Int) < (i : Int) + 1) = true := by simp; omega
          have hi0 : (0 : Int) ≤ (i : Int) := by omega
          have hi1 : (0 : Int) ≤ (i : Int) + 1 := by omega
          have hi2 : (i : Int) + 1 < (n : Int) := by omega
          have hi3 : (i : Int) < (n : Int) := by omega
          have hsub : IntKind.i64.wrap ((i : Int) + 1 - 1) = (i : Int) := (w64k (by omega) (by omega)).trans (by omega)
          have hadd : IntKind.i64.wrap ((i : Int) + 1) = (i : Int) + 1 := w64k (by omega) (by omega)
          have hiw : IntKind.i64.wrap (i : Int) = (i : Int) := w64k (by omega) (by omega)
          have hlQ : A'.length + 1 + B.length = k := by rw [List.length_append] at hQ2; simpa using hQ2
          clear q1 q2 q3 q4 eR hi hj hil hQ2
          obtain ⟨x1, x2⟩ := x
          obtain ⟨y1, y2⟩ := y
          dsimp only at Q1 Q2 Q3 Q4 SW SW2
          obtain ⟨v, hv⟩ : ∃ v, cmpV x1 y1 = v := ⟨_, rfl⟩
          have hvl := cmpV_lt x1 y1
          rw [hv] at hvl
          have HVL := Lib.hid hvl
          clear hvl
          by_cases hlt2 : x1 < y1
          · have hv0 : v < 0 := HVL.out.2 hlt2
            have HXY := Lib.hid hlt2
            clear hlt2
            go_wp2_with fail
            have HB := hb2
            refine wp_region_held_drew (S := (fun w' => w'.cell? ⟨g, i * 2, none⟩ = some (.int .i64 y1) ∧ w'.cell? ⟨g, i * 2 + 1, none⟩ = some (.int .i64 y2) ∧ w'.cell? ⟨g, (i + 1) * 2, none⟩ = some (.int .i64 x1) ∧ w'.cell? ⟨g, (i + 1) * 2 + 1, none⟩ = some (.int .i64 x2))) (by kernel_rfl) ?_ (fun hHeld => ?_)
            · replace HB := Below.drew HB; replace o2 := Own.drew o2; (try dsimp only); exact ⟨own_cell o2 _ Q1.out, own_cell o2 _ Q2.out, own_cell o2 _ Q3.out, own_cell o2 _ Q4.out⟩
            replace HB := Below.drew HB
            replace o2 := Own.drew o2
            have zHB := HB.size
            refine take_movev (v := ?vu4x0) 0 (Operand.tmp 9) rfl rfl (by first | exact .inl rfl | exact .inr rfl) rfl (by kernel_rfl) (by kernel_rfl) (by kernel_rfl) (fun _ _ _ h => h) (by assumption) ?yu4x0 ?ru4x0
            case yu4x0 => (go_simp; try (with_reducible rfl))
            simp only [List.setIfInBounds_toArray, List.set_cons_zero, List.set_cons_succ]
            refine take_movev (v := ?vu4x1) 1 (Operand.tmp 1) rfl rfl (by first | exact .inl rfl | exact .inr rfl) rfl (by kernel_rfl) (by kernel_rfl) (by kernel_rfl) (fun _ _ _ h => h) (by assumption) ?yu4x1 ?ru4x1
            case yu4x1 => (go_simp; try (with_reducible rfl))
            simp only [List.setIfInBounds_toArray, List.set_cons_zero, List.set_cons_succ]
            refine take_op (v := ?vu4x2) 2 (Op.binOp BinOp.gtr 3 (Operand.tmp 18) (Operand.tmp 19) 3) 4 rfl rfl rfl rfl rfl (by kernel_rfl) (by kernel_rfl) (by kernel_rfl) (fun _ _ _ h => h) ?yu4x2 (by assumption) ?ru4x2
            case yu4x2 => (intro w' hSw; (try dsimp only at hSw); go_simp; try (with_reducible rfl))
            simp only [List.setIfInBounds_toArray, List.set_cons_zero, List.set_cons_succ]
            refine take_movev (v := ?vu4x3) 3 (Operand.tmp 20) rfl rfl (by first | exact .inl rfl | exact .inr rfl) rfl (by kernel_rfl) (by kernel_rfl) (by kernel_rfl) (fun _ _ _ h => h) (by assumption) ?yu4x3 ?ru4x3
            case yu4x3 => (go_simp; try (with_reducible rfl))
            simp only [List.setIfInBounds_toArray, List.set_cons_zero, List.set_cons_succ]
            refine take_movev (v := ?vu4x4) 4 (Operand.tmp 3) rfl rfl (by first | exact .inl rfl | exact .inr rfl) rfl (by kernel_rfl) (by kernel_rfl) (by kernel_rfl) (fun _ _ _ h => h) (by assumption) ?yu4x4 ?ru4x4
            case yu4x4 => (go_simp; try (with_reducible rfl))
            simp only [List.setIfInBounds_toArray, List.set_cons_zero, List.set_cons_succ]
            refine take_movev (v := ?vu4x5) 5 (Operand.tmp 0) rfl rfl (by first | exact .inl rfl | exact .inr rfl) rfl (by kernel_rfl) (by kernel_rfl) (by kernel_rfl) (fun _ _ _ h => h) (by assumption) ?yu4x5 ?ru4x5
            case yu4x5 => (go_simp; try (with_reducible rfl))
            simp only [List.setIfInBounds_toArray, List.set_cons_zero, List.set_cons_succ]
            refine take_movev (v := ?vu4x6) 6 (Operand.tmp 9) rfl rfl (by first | exact .inl rfl | exact .inr rfl) rfl (by kernel_rfl) (by kernel_rfl) (by kernel_rfl) (fun _ _ _ h => h) (by assumption) ?yu4x6 ?ru4x6
            case yu4x6 => (go_simp; try (with_reducible rfl))
            simp only [List.setIfInBounds_toArray, List.set_cons_zero, List.set_cons_succ]
            refine take_op (v := ?vu4x7) 7 (Op.indexAddr 36 (Operand.tmp 23) (Operand.tmp 24)) 0 rfl rfl rfl rfl rfl (by kernel_rfl) (by kernel_rfl) (by kernel_rfl) (fun _ _ _ h => h) ?yu4x7 (by assumption) ?ru4x7
            case yu4x7 => (intro w' hSw; (try dsimp only at hSw); go_simp; try (with_reducible rfl))
            simp only [List.setIfInBounds_toArray, List.set_cons_zero, List.set_cons_succ]
            refine take_op (v := ?vu4x8) 8 (Op.load 39 (Operand.tmp 25)) 39 rfl rfl rfl rfl rfl (by kernel_rfl) (by kernel_rfl) (by kernel_rfl) (fun _ _ _ h => h) ?yu4x8 (by assumption) ?ru4x8
            case yu4x8 => (intro w' hSw; (try dsimp only at hSw); go_simp; try (with_reducible rfl))
            simp only [List.setIfInBounds_toArray, List.set_cons_zero, List.set_cons_succ]
            refine take_movev (v := ?vu4x9) 9 (Operand.tmp 0) rfl rfl (by first | exact .inl rfl | exact .inr rfl) rfl (by kernel_rfl) (by kernel_rfl) (by kernel_rfl) (fun _ _ _ h => h) (by assumption) ?yu4x9 ?ru4x9
            case yu4x9 => (go_simp; try (with_reducible rfl))
            simp only [List.setIfInBounds_toArray, List.set_cons_zero, List.set_cons_succ]
            refine take_movev (v := ?vu4x10) 10 (Operand.tmp 9) rfl rfl (by first | exact .inl rfl | exact .inr rfl) rfl (by kernel_rfl) (by kernel_rfl) (by kernel_rfl) (fun _ _ _ h => h) (by assumption) ?yu4x10 ?ru4x10
            case yu4x10 => (go_simp; try (with_reducible rfl))
            simp only [List.setIfInBounds_toArray, List.set_cons_zero, List.set_cons_succ]
            refine take_op (v := ?vu4x11) 11 (Op.binOp BinOp.sub 3 (Operand.tmp 28) (Operand.const (Value.int IntKind.i64 1)) 3) 3 rfl rfl rfl rfl rfl (by kernel_rfl) (by kernel_rfl) (by kernel_rfl) (fun _ _ _ h => h) ?yu4x11 (by assumption) ?ru4x11
            case yu4x11 => (intro w' hSw; (try dsimp only at hSw); go_simp; try (with_reducible rfl))
            simp only [List.setIfInBounds_toArray, List.set_cons_zero, List.set_cons_succ]
            refine take_op (v := ?vu4x12) 12 (Op.indexAddr 36 (Operand.tmp 27) (Operand.tmp 29)) 0 rfl rfl rfl rfl rfl (by kernel_rfl) (by kernel_rfl) (by kernel_rfl) (fun _ _ _ h => h) ?yu4x12 (by assumption) ?ru4x12
            case yu4x12 => (intro w' hSw; (try dsimp only at hSw); go_simp; try (with_reducible rfl))
            simp only [List.setIfInBounds_toArray, List.set_cons_zero, List.set_cons_succ]
            refine take_op (v := ?vu4x13) 13 (Op.load 39 (Operand.tmp 30)) 39 rfl rfl rfl rfl rfl (by kernel_rfl) (by kernel_rfl) (by kernel_rfl) (fun _ _ _ h => h) ?yu4x13 (by assumption) ?ru4x13
            case yu4x13 => (intro w' hSw; (try dsimp only at hSw); go_simp; try (with_reducible rfl))
            simp only [List.setIfInBounds_toArray, List.set_cons_zero, List.set_cons_succ]
            refine wpAnyH_ready (rs := [14]) (by kernel_rfl) (by simp) (AllReadyH.cons rfl (fun K14 hK14 => ?ku4x14) AllReadyH.nil)
            refine take_callv 14 30 22 [Operand.tmp 26, Operand.tmp 31] #[39, 39] rfl rfl (by kernel_rfl) rfl (fun args w => run_enter Try.func30 (by kernel_rfl) rfl args w) ?_
            refine (against_any x1 x2 y1 y2 _ v hv).mono ?_
            rintro e w14 ⟨rfl, hb14⟩
            refine ⟨_, rfl, ?_⟩
            have z14 := hb14.size
            try simp only [World.size_drew] at z14
            replace HB := HB.trans (hb14.mono (by first | exact HB.size | omega))
            have zHB14 := HB.size
            replace o2 := Own.below o2 hb14
            refine hK14.out _ _ ?su4x14 (fun hHeld => ?ru4x14)
            case su4x14 => ((try dsimp only); exact ⟨own_cell o2 _ Q1.out, own_cell o2 _ Q2.out, own_cell o2 _ Q3.out, own_cell o2 _ Q4.out⟩)
            try simp only [List.setIfInBounds_toArray, List.set_cons_zero, List.set_cons_succ]
            refine take_op (v := ?vu4x15) 15 (Op.binOp BinOp.lss 3 (Operand.tmp 32) (Operand.const (Value.int IntKind.i64 0)) 3) 4 rfl rfl rfl rfl rfl (by kernel_rfl) (by kernel_rfl) (by kernel_rfl) (fun _ _ _ h => h) ?yu4x15 (by assumption) ?ru4x15
            case yu4x15 => (intro w' hSw; (try dsimp only at hSw); go_simp; try (with_reducible rfl))
            simp only [List.setIfInBounds_toArray, List.set_cons_zero, List.set_cons_succ]
            refine take_op (v := ?vu4x16) 16 (Op.pick (Operand.tmp 21) (Operand.tmp 33) (Operand.const (Value.bool false))) 4 rfl rfl rfl rfl rfl (by kernel_rfl) (by kernel_rfl) (by kernel_rfl) (fun _ _ _ h => h) ?yu4x16 (by assumption) ?ru4x16
            case yu4x16 => (intro w' hSw; (try dsimp only at hSw); go_simp; try (with_reducible rfl))
            simp only [List.setIfInBounds_toArray, List.set_cons_zero, List.set_cons_succ]
            refine wpAnyH_done (by kernel_rfl) ?_ _
            clear hHeld hb2
            go_wp2_with fail
            refine wp_region_held_drew (S := (fun _ => True)) (by kernel_rfl) ?_ (fun hHeld => ?_)
            · replace HB := Below.drew HB; replace o2 := Own.drew o2; (try dsimp only); try trivial
            replace HB := Below.drew HB
            replace o2 := Own.drew o2
            have zHB := HB.size
            refine take_movev (v := ?vu2t4x0) 0 (Operand.tmp 0) rfl rfl (by first | exact .inl rfl | exact .inr rfl) rfl (by kernel_rfl) (by kernel_rfl) (by kernel_rfl) (fun _ _ _ h => h) (by assumption) ?yu2t4x0 ?ru2t4x0
            case yu2t4x0 => (go_simp; try (with_reducible rfl))
            simp only [List.setIfInBounds_toArray, List.set_cons_zero, List.set_cons_succ]
            refine take_movev (v := ?vu2t4x1) 1 (Operand.tmp 9) rfl rfl (by first | exact .inl rfl | exact .inr rfl) rfl (by kernel_rfl) (by kernel_rfl) (by kernel_rfl) (fun _ _ _ h => h) (by assumption) ?yu2t4x1 ?ru2t4x1
            case yu2t4x1 => (go_simp; try (with_reducible rfl))
            simp only [List.setIfInBounds_toArray, List.set_cons_zero, List.set_cons_succ]
            refine take_movev (v := ?vu2t4x2) 2 (Operand.tmp 0) rfl rfl (by first | exact .inl rfl | exact .inr rfl) rfl (by kernel_rfl) (by kernel_rfl) (by kernel_rfl) (fun _ _ _ h => h) (by assumption) ?yu2t4x2 ?ru2t4x2
            case yu2t4x2 => (go_simp; try (with_reducible rfl))
            simp only [List.setIfInBounds_toArray, List.set_cons_zero, List.set_cons_succ]
            refine take_movev (v := ?vu2t4x3) 3 (Operand.tmp 9) rfl rfl (by first | exact .inl rfl | exact .inr rfl) rfl (by kernel_rfl) (by kernel_rfl) (by kernel_rfl) (fun _ _ _ h => h) (by assumption) ?yu2t4x3 ?ru2t4x3
            case yu2t4x3 => (go_simp; try (with_reducible rfl))
            simp only [List.setIfInBounds_toArray, List.set_cons_zero, List.set_cons_succ]
            refine take_op (v := ?vu2t4x4) 4 (Op.binOp BinOp.sub 3 (Operand.tmp 40) (Operand.const (Value.int IntKind.i64 1)) 3) 3 rfl rfl rfl rfl rfl (by kernel_rfl) (by kernel_rfl) (by kernel_rfl) (fun _ _ _ h => h) ?yu2t4x4 (by assumption) ?ru2t4x4
            case yu2t4x4 => (intro w' hSw; (try dsimp only at hSw); go_simp; try (with_reducible rfl))
            simp only [List.setIfInBounds_toArray, List.set_cons_zero, List.set_cons_succ]
            refine take_movev (v := ?vu2t4x5) 5 (Operand.tmp 0) rfl rfl (by first | exact .inl rfl | exact .inr rfl) rfl (by kernel_rfl) (by kernel_rfl) (by kernel_rfl) (fun _ _ _ h => h) (by assumption) ?yu2t4x5 ?ru2t4x5
            case yu2t4x5 => (go_simp; try (with_reducible rfl))
            simp only [List.setIfInBounds_toArray, List.set_cons_zero, List.set_cons_succ]
            refine take_movev (v := ?vu2t4x6) 6 (Operand.tmp 9) rfl rfl (by first | exact .inl rfl | exact .inr rfl) rfl (by kernel_rfl) (by kernel_rfl) (by kernel_rfl) (fun _ _ _ h => h) (by assumption) ?yu2t4x6 ?ru2t4x6
            case yu2t4x6 => (go_simp; try (with_reducible rfl))
            simp only [List.setIfInBounds_toArray, List.set_cons_zero, List.set_cons_succ]
            refine take_op (v := ?vu2t4x7) 7 (Op.binOp BinOp.sub 3 (Operand.tmp 43) (Operand.const (Value.int IntKind.i64 1)) 3) 3 rfl rfl rfl rfl rfl (by kernel_rfl) (by kernel_rfl) (by kernel_rfl) (fun _ _ _ h => h) ?yu2t4x7 (by assumption) ?ru2t4x7
            case yu2t4x7 => (intro w' hSw; (try dsimp only at hSw); go_simp; try (with_reducible rfl))
            simp only [List.setIfInBounds_toArray, List.set_cons_zero, List.set_cons_succ]
            refine take_op (v := ?vu2t4x8) 8 (Op.indexAddr 36 (Operand.tmp 42) (Operand.tmp 44)) 0 rfl rfl rfl rfl rfl (by kernel_rfl) (by kernel_rfl) (by kernel_rfl) (fun _ _ _ h => h) ?yu2t4x8 (by assumption) ?ru2t4x8
            case yu2t4x8 => (intro w' hSw; (try dsimp only at hSw); go_simp; try (with_reducible rfl))
            simp only [List.setIfInBounds_toArray, List.set_cons_zero, List.set_cons_succ]
            refine take_movev (v := ?vu2t4x10) 10 (Operand.tmp 0) rfl rfl (by first | exact .inl rfl | exact .inr rfl) rfl (by kernel_rfl) (by kernel_rfl) (by kernel_rfl) (fun _ _ _ h => h) (by assumption) ?yu2t4x10 ?ru2t4x10
            case yu2t4x10 => (go_simp; try (with_reducible rfl))
            simp only [List.setIfInBounds_toArray, List.set_cons_zero, List.set_cons_succ]
            refine take_movev (v := ?vu2t4x11) 11 (Operand.tmp 9) rfl rfl (by first | exact .inl rfl | exact .inr rfl) rfl (by kernel_rfl) (by kernel_rfl) (by kernel_rfl) (fun _ _ _ h => h) (by assumption) ?yu2t4x11 ?ru2t4x11
            case yu2t4x11 => (go_simp; try (with_reducible rfl))
            simp only [List.setIfInBounds_toArray, List.set_cons_zero, List.set_cons_succ]
            refine take_op (v := ?vu2t4x12) 12 (Op.indexAddr 36 (Operand.tmp 47) (Operand.tmp 48)) 0 rfl rfl rfl rfl rfl (by kernel_rfl) (by kernel_rfl) (by kernel_rfl) (fun _ _ _ h => h) ?yu2t4x12 (by assumption) ?ru2t4x12
            case yu2t4x12 => (intro w' hSw; (try dsimp only at hSw); go_simp; try (with_reducible rfl))
            simp only [List.setIfInBounds_toArray, List.set_cons_zero, List.set_cons_succ]
            refine wpAnyH_ready (rs := [9, 13]) (by kernel_rfl) (by simp) (AllReadyH.cons rfl (fun K9 hK9 => ?ku2t4x9) (AllReadyH.cons rfl (fun K13 hK13 => ?ku2t4x13) AllReadyH.nil))
            case ku2t4x9 =>
              refine take_any 9 (Op.load 39 (Operand.tmp 45)) 39 rfl rfl rfl (by kernel_rfl) (v := .agg #[.int .i64 y1, .int .i64 y2]) (by have k1 : w14.cell? ⟨g, i * 2, none⟩ = _ := own_cell o2 _ Q1.out; have k2 : w14.cell? ⟨g, i * 2 + 1, none⟩ = _ := own_cell o2 _ Q2.out; go_simp; try (with_reducible rfl)) ?_
              refine hK9.out _ _ ?su2t4xb1x9 (fun hHeld => ?ru2t4xb1x9)
              case su2t4xb1x9 => ((try dsimp only); try trivial)
              try simp only [List.setIfInBounds_toArray, List.set_cons_zero, List.set_cons_succ]
              refine wpAnyH_ready (rs := [13]) (by kernel_rfl) (by simp) (AllReadyH.cons rfl (fun K13 hK13 => ?ku2t4xb1x13) AllReadyH.nil)
              refine take_any 13 (Op.load 39 (Operand.tmp 49)) 39 rfl rfl rfl (by kernel_rfl) (v := .agg #[.int .i64 x1, .int .i64 x2]) (by have k1 : w14.cell? ⟨g, (i + 1) * 2, none⟩ = _ := own_cell o2 _ Q3.out; have k2 : w14.cell? ⟨g, (i + 1) * 2 + 1, none⟩ = _ := own_cell o2 _ Q4.out; go_simp; try (with_reducible rfl)) ?_
              refine hK13.out _ _ ?su2t4xb1x13 (fun hHeld => ?ru2t4xb1x13)
              case su2t4xb1x13 => ((try dsimp only); try trivial)
              try simp only [List.setIfInBounds_toArray, List.set_cons_zero, List.set_cons_succ]
              refine take_op (v := ?vu2t4xb1x14) 14 (Op.indexAddr 36 (Operand.tmp 37) (Operand.tmp 38)) 0 rfl rfl rfl rfl rfl (by kernel_rfl) (by kernel_rfl) (by kernel_rfl) (fun _ _ _ h => h) ?yu2t4xb1x14 (by assumption) ?ru2t4xb1x14
              case yu2t4xb1x14 => (intro w' hSw; (try dsimp only at hSw); go_simp; try (with_reducible rfl))
              simp only [List.setIfInBounds_toArray, List.set_cons_zero, List.set_cons_succ]
              refine wpAnyH_ready (rs := [15]) (by kernel_rfl) (by simp) (AllReadyH.cons rfl (fun K15 hK15 => ?ku2t4xb1x15) AllReadyH.nil)
              refine take_store 15 (Op.store 39 (Operand.tmp 51) (Operand.tmp 46)) 0 rfl rfl rfl (by kernel_rfl) (w' := (w14.drew.setCell ⟨g, (i + 1) * 2, none⟩ (.int .i64 y1)).setCell ⟨g, (i + 1) * 2 + 1, none⟩ (.int .i64 y2)) (by have f := own_thaw o2; have hfl := o2.len; obtain ⟨v1, hv1⟩ : ∃ v1, _ := own_has o2 ((i + 1) * 2) (by omega); obtain ⟨v2, hv2⟩ : ∃ v2, _ := own_has o2 ((i + 1) * 2 + 1) (by omega); (try simp only [World.cell?_drew, World.frozen?_drew] at f hv1 hv2); go_simp; try (with_reducible rfl)) ?_
              refine hK15.out _ _ (trivial) (fun hHeld => ?_)
              replace o2 := (o2.set (k := (i + 1) * 2) (.int .i64 y1)).set (k := (i + 1) * 2 + 1) (.int .i64 y2)
              replace HB := (HB.setCell (p := ⟨g, (i + 1) * 2, none⟩) hg0 (.int .i64 y1)).setCell (p := ⟨g, (i + 1) * 2 + 1, none⟩) hg0 (.int .i64 y2)
              generalize ((w14.drew.setCell ⟨g, (i + 1) * 2, none⟩ (.int .i64 y1)).setCell ⟨g, (i + 1) * 2 + 1, none⟩ (.int .i64 y2)) = wq at *
              refine take_op (v := ?vu2t4xb1x16) 16 (Op.indexAddr 36 (Operand.tmp 39) (Operand.tmp 41)) 0 rfl rfl rfl rfl rfl (by kernel_rfl) (by kernel_rfl) (by kernel_rfl) (fun _ _ _ h => h) ?yu2t4xb1x16 (by assumption) ?ru2t4xb1x16
              case yu2t4xb1x16 => (intro w' hSw; (try dsimp only at hSw); go_simp; try (with_reducible rfl))
              simp only [List.setIfInBounds_toArray, List.set_cons_zero, List.set_cons_succ]
              refine wpAnyH_ready (rs := [17]) (by kernel_rfl) (by simp) (AllReadyH.cons rfl (fun K17 hK17 => ?ku2t4xb1x17) AllReadyH.nil)
              refine take_store 17 (Op.store 39 (Operand.tmp 52) (Operand.tmp 50)) 0 rfl rfl rfl (by kernel_rfl) (w' := (wq.setCell ⟨g, i * 2, none⟩ (.int .i64 x1)).setCell ⟨g, i * 2 + 1, none⟩ (.int .i64 x2)) (by have f := own_thaw o2; have hfl := o2.len; obtain ⟨v1, hv1⟩ : ∃ v1, _ := own_has o2 (i * 2) (by omega); obtain ⟨v2, hv2⟩ : ∃ v2, _ := own_has o2 (i * 2 + 1) (by omega); (try simp only [World.cell?_drew, World.frozen?_drew] at f hv1 hv2); go_simp; try (with_reducible rfl)) ?_
              refine hK17.out _ _ (trivial) (fun hHeld => ?_)
              replace o2 := (o2.set (k := i * 2) (.int .i64 x1)).set (k := i * 2 + 1) (.int .i64 x2)
              replace HB := (HB.setCell (p := ⟨g, i * 2, none⟩) hg0 (.int .i64 x1)).setCell (p := ⟨g, i * 2 + 1, none⟩) hg0 (.int .i64 x2)
              generalize ((wq.setCell ⟨g, i * 2, none⟩ (.int .i64 x1)).setCell ⟨g, i * 2 + 1, none⟩ (.int .i64 x2)) = wq at *
              refine wpAnyH_done (by kernel_rfl) ?_ _
              clear hHeld
              have o3 : Own wq base 39 2 (some ⟨g, 0, none⟩) n c (fcells (P ++ A' ++ (x1, x2) :: (y1, y2) :: (B ++ D))) := by first | exact SW.out ▸ o2 | exact SW2.out ▸ o2
              have zq := HB.size
              go_wp2_with fail
              go_roundw
              case rel => exact ⟨A', (y1, y2) :: B, by rw [HIL.out], by rw [HQ.out]; simp, fun b hb => by simp at hb; subst hb; exact HXY.out, by simpa [List.append_assoc] using o3, HB, by omega⟩
              case measure => simp [intOf]; omega
            case ku2t4x13 =>
              refine take_any 13 (Op.load 39 (Operand.tmp 49)) 39 rfl rfl rfl (by kernel_rfl) (v := .agg #[.int .i64 x1, .int .i64 x2]) (by have k1 : w14.cell? ⟨g, (i + 1) * 2, none⟩ = _ := own_cell o2 _ Q3.out; have k2 : w14.cell? ⟨g, (i + 1) * 2 + 1, none⟩ = _ := own_cell o2 _ Q4.out; go_simp; try (with_reducible rfl)) ?_
              refine hK13.out _ _ ?su2t4xb5x13 (fun hHeld => ?ru2t4xb5x13)
              case su2t4xb5x13 => ((try dsimp only); try trivial)
              try simp only [List.setIfInBounds_toArray, List.set_cons_zero, List.set_cons_succ]
              refine wpAnyH_ready (rs := [9]) (by kernel_rfl) (by simp) (AllReadyH.cons rfl (fun K9 hK9 => ?ku2t4xb5x9) AllReadyH.nil)
              refine take_any 9 (Op.load 39 (Operand.tmp 45)) 39 rfl rfl rfl (by kernel_rfl) (v := .agg #[.int .i64 y1, .int .i64 y2]) (by have k1 : w14.cell? ⟨g, i * 2, none⟩ = _ := own_cell o2 _ Q1.out; have k2 : w14.cell? ⟨g, i * 2 + 1, none⟩ = _ := own_cell o2 _ Q2.out; go_simp; try (with_reducible rfl)) ?_
              refine hK9.out _ _ ?su2t4xb5x9 (fun hHeld => ?ru2t4xb5x9)
              case su2t4xb5x9 => ((try dsimp only); try trivial)
              try simp only [List.setIfInBounds_toArray, List.set_cons_zero, List.set_cons_succ]
              refine take_op (v := ?vu2t4xb5x14) 14 (Op.indexAddr 36 (Operand.tmp 37) (Operand.tmp 38)) 0 rfl rfl rfl rfl rfl (by kernel_rfl) (by kernel_rfl) (by kernel_rfl) (fun _ _ _ h => h) ?yu2t4xb5x14 (by assumption) ?ru2t4xb5x14
              case yu2t4xb5x14 => (intro w' hSw; (try dsimp only at hSw); go_simp; try (with_reducible rfl))
              simp only [List.setIfInBounds_toArray, List.set_cons_zero, List.set_cons_succ]
              refine wpAnyH_ready (rs := [15]) (by kernel_rfl) (by simp) (AllReadyH.cons rfl (fun K15 hK15 => ?ku2t4xb5x15) AllReadyH.nil)
              refine take_store 15 (Op.store 39 (Operand.tmp 51) (Operand.tmp 46)) 0 rfl rfl rfl (by kernel_rfl) (w' := (w14.drew.setCell ⟨g, (i + 1) * 2, none⟩ (.int .i64 y1)).setCell ⟨g, (i + 1) * 2 + 1, none⟩ (.int .i64 y2)) (by have f := own_thaw o2; have hfl := o2.len; obtain ⟨v1, hv1⟩ : ∃ v1, _ := own_has o2 ((i + 1) * 2) (by omega); obtain ⟨v2, hv2⟩ : ∃ v2, _ := own_has o2 ((i + 1) * 2 + 1) (by omega); (try simp only [World.cell?_drew, World.frozen?_drew] at f hv1 hv2); go_simp; try (with_reducible rfl)) ?_
              refine hK15.out _ _ (trivial) (fun hHeld => ?_)
              replace o2 := (o2.set (k := (i + 1) * 2) (.int .i64 y1)).set (k := (i + 1) * 2 + 1) (.int .i64 y2)
              replace HB := (HB.setCell (p := ⟨g, (i + 1) * 2, none⟩) hg0 (.int .i64 y1)).setCell (p := ⟨g, (i + 1) * 2 + 1, none⟩) hg0 (.int .i64 y2)
              generalize ((w14.drew.setCell ⟨g, (i + 1) * 2, none⟩ (.int .i64 y1)).setCell ⟨g, (i + 1) * 2 + 1, none⟩ (.int .i64 y2)) = wq at *
              refine take_op (v := ?vu2t4xb5x16) 16 (Op.indexAddr 36 (Operand.tmp 39) (Operand.tmp 41)) 0 rfl rfl rfl rfl rfl (by kernel_rfl) (by kernel_rfl) (by kernel_rfl) (fun _ _ _ h => h) ?yu2t4xb5x16 (by assumption) ?ru2t4xb5x16
              case yu2t4xb5x16 => (intro w' hSw; (try dsimp only at hSw); go_simp; try (with_reducible rfl))
              simp only [List.setIfInBounds_toArray, List.set_cons_zero, List.set_cons_succ]
              refine wpAnyH_ready (rs := [17]) (by kernel_rfl) (by simp) (AllReadyH.cons rfl (fun K17 hK17 => ?ku2t4xb5x17) AllReadyH.nil)
              refine take_store 17 (Op.store 39 (Operand.tmp 52) (Operand.tmp 50)) 0 rfl rfl rfl (by kernel_rfl) (w' := (wq.setCell ⟨g, i * 2, none⟩ (.int .i64 x1)).setCell ⟨g, i * 2 + 1, none⟩ (.int .i64 x2)) (by have f := own_thaw o2; have hfl := o2.len; obtain ⟨v1, hv1⟩ : ∃ v1, _ := own_has o2 (i * 2) (by omega); obtain ⟨v2, hv2⟩ : ∃ v2, _ := own_has o2 (i * 2 + 1) (by omega); (try simp only [World.cell?_drew, World.frozen?_drew] at f hv1 hv2); go_simp; try (with_reducible rfl)) ?_
              refine hK17.out _ _ (trivial) (fun hHeld => ?_)
              replace o2 := (o2.set (k := i * 2) (.int .i64 x1)).set (k := i * 2 + 1) (.int .i64 x2)
              replace HB := (HB.setCell (p := ⟨g, i * 2, none⟩) hg0 (.int .i64 x1)).setCell (p := ⟨g, i * 2 + 1, none⟩) hg0 (.int .i64 x2)
              generalize ((wq.setCell ⟨g, i * 2, none⟩ (.int .i64 x1)).setCell ⟨g, i * 2 + 1, none⟩ (.int .i64 x2)) = wq at *
              refine wpAnyH_done (by kernel_rfl) ?_ _
              clear hHeld
              have o3 : Own wq base 39 2 (some ⟨g, 0, none⟩) n c (fcells (P ++ A' ++ (x1, x2) :: (y1, y2) :: (B ++ D))) := by first | exact SW.out ▸ o2 | exact SW2.out ▸ o2
              have zq := HB.size
              go_wp2_with fail
              go_roundw
              case rel => exact ⟨A', (y1, y2) :: B, by rw [HIL.out], by rw [HQ.out]; simp, fun b hb => by simp at hb; subst hb; exact HXY.out, by simpa [List.append_assoc] using o3, HB, by omega⟩
              case measure => simp [intOf]; omega
          · have hv0 : ¬ v < 0 := fun e => hlt2 (HVL.out.1 e)
            have HP := Lib.hid (HPL.out (A' ++ [(y1, y2)]) B HQ.out HB'.out (fun z hz => by simp at hz; subst hz; dsimp only; omega))
            clear hlt2
            go_wp2_with fail
            have HB := hb2
            refine wp_region_held_drew (S := (fun w' => w'.cell? ⟨g, i * 2, none⟩ = some (.int .i64 y1) ∧ w'.cell? ⟨g, i * 2 + 1, none⟩ = some (.int .i64 y2) ∧ w'.cell? ⟨g, (i + 1) * 2, none⟩ = some (.int .i64 x1) ∧ w'.cell? ⟨g, (i + 1) * 2 + 1, none⟩ = some (.int .i64 x2))) (by kernel_rfl) ?_ (fun hHeld => ?_)
            · replace HB := Below.drew HB; replace o2 := Own.drew o2; (try dsimp only); exact ⟨own_cell o2 _ Q1.out, own_cell o2 _ Q2.out, own_cell o2 _ Q3.out, own_cell o2 _ Q4.out⟩
            replace HB := Below.drew HB
            replace o2 := Own.drew o2
            have zHB := HB.size
            refine take_movev (v := ?vu3x0) 0 (Operand.tmp 9) rfl rfl (by first | exact .inl rfl | exact .inr rfl) rfl (by kernel_rfl) (by kernel_rfl) (by kernel_rfl) (fun _ _ _ h => h) (by assumption) ?yu3x0 ?ru3x0
            case yu3x0 => (go_simp; try (with_reducible rfl))
            simp only [List.setIfInBounds_toArray, List.set_cons_zero, List.set_cons_succ]
            refine take_movev (v := ?vu3x1) 1 (Operand.tmp 1) rfl rfl (by first | exact .inl rfl | exact .inr rfl) rfl (by kernel_rfl) (by kernel_rfl) (by kernel_rfl) (fun _ _ _ h => h) (by assumption) ?yu3x1 ?ru3x1
            case yu3x1 => (go_simp; try (with_reducible rfl))
            simp only [List.setIfInBounds_toArray, List.set_cons_zero, List.set_cons_succ]
            refine take_op (v := ?vu3x2) 2 (Op.binOp BinOp.gtr 3 (Operand.tmp 18) (Operand.tmp 19) 3) 4 rfl rfl rfl rfl rfl (by kernel_rfl) (by kernel_rfl) (by kernel_rfl) (fun _ _ _ h => h) ?yu3x2 (by assumption) ?ru3x2
            case yu3x2 => (intro w' hSw; (try dsimp only at hSw); go_simp; try (with_reducible rfl))
            simp only [List.setIfInBounds_toArray, List.set_cons_zero, List.set_cons_succ]
            refine take_movev (v := ?vu3x3) 3 (Operand.tmp 20) rfl rfl (by first | exact .inl rfl | exact .inr rfl) rfl (by kernel_rfl) (by kernel_rfl) (by kernel_rfl) (fun _ _ _ h => h) (by assumption) ?yu3x3 ?ru3x3
            case yu3x3 => (go_simp; try (with_reducible rfl))
            simp only [List.setIfInBounds_toArray, List.set_cons_zero, List.set_cons_succ]
            refine take_movev (v := ?vu3x4) 4 (Operand.tmp 3) rfl rfl (by first | exact .inl rfl | exact .inr rfl) rfl (by kernel_rfl) (by kernel_rfl) (by kernel_rfl) (fun _ _ _ h => h) (by assumption) ?yu3x4 ?ru3x4
            case yu3x4 => (go_simp; try (with_reducible rfl))
            simp only [List.setIfInBounds_toArray, List.set_cons_zero, List.set_cons_succ]
            refine take_movev (v := ?vu3x5) 5 (Operand.tmp 0) rfl rfl (by first | exact .inl rfl | exact .inr rfl) rfl (by kernel_rfl) (by kernel_rfl) (by kernel_rfl) (fun _ _ _ h => h) (by assumption) ?yu3x5 ?ru3x5
            case yu3x5 => (go_simp; try (with_reducible rfl))
            simp only [List.setIfInBounds_toArray, List.set_cons_zero, List.set_cons_succ]
            refine take_movev (v := ?vu3x6) 6 (Operand.tmp 9) rfl rfl (by first | exact .inl rfl | exact .inr rfl) rfl (by kernel_rfl) (by kernel_rfl) (by kernel_rfl) (fun _ _ _ h => h) (by assumption) ?yu3x6 ?ru3x6
            case yu3x6 => (go_simp; try (with_reducible rfl))
            simp only [List.setIfInBounds_toArray, List.set_cons_zero, List.set_cons_succ]
            refine take_op (v := ?vu3x7) 7 (Op.indexAddr 36 (Operand.tmp 23) (Operand.tmp 24)) 0 rfl rfl rfl rfl rfl (by kernel_rfl) (by kernel_rfl) (by kernel_rfl) (fun _ _ _ h => h) ?yu3x7 (by assumption) ?ru3x7
            case yu3x7 => (intro w' hSw; (try dsimp only at hSw); go_simp; try (with_reducible rfl))
            simp only [List.setIfInBounds_toArray, List.set_cons_zero, List.set_cons_succ]
            refine take_op (v := ?vu3x8) 8 (Op.load 39 (Operand.tmp 25)) 39 rfl rfl rfl rfl rfl (by kernel_rfl) (by kernel_rfl) (by kernel_rfl) (fun _ _ _ h => h) ?yu3x8 (by assumption) ?ru3x8
            case yu3x8 => (intro w' hSw; (try dsimp only at hSw); go_simp; try (with_reducible rfl))
            simp only [List.setIfInBounds_toArray, List.set_cons_zero, List.set_cons_succ]
            refine take_movev (v := ?vu3x9) 9 (Operand.tmp 0) rfl rfl (by first | exact .inl rfl | exact .inr rfl) rfl (by kernel_rfl) (by kernel_rfl) (by kernel_rfl) (fun _ _ _ h => h) (by assumption) ?yu3x9 ?ru3x9
            case yu3x9 => (go_simp; try (with_reducible rfl))
            simp only [List.setIfInBounds_toArray, List.set_cons_zero, List.set_cons_succ]
            refine take_movev (v := ?vu3x10) 10 (Operand.tmp 9) rfl rfl (by first | exact .inl rfl | exact .inr rfl) rfl (by kernel_rfl) (by kernel_rfl) (by kernel_rfl) (fun _ _ _ h => h) (by assumption) ?yu3x10 ?ru3x10
            case yu3x10 => (go_simp; try (with_reducible rfl))
            simp only [List.setIfInBounds_toArray, List.set_cons_zero, List.set_cons_succ]
            refine take_op (v := ?vu3x11) 11 (Op.binOp BinOp.sub 3 (Operand.tmp 28) (Operand.const (Value.int IntKind.i64 1)) 3) 3 rfl rfl rfl rfl rfl (by kernel_rfl) (by kernel_rfl) (by kernel_rfl) (fun _ _ _ h => h) ?yu3x11 (by assumption) ?ru3x11
            case yu3x11 => (intro w' hSw; (try dsimp only at hSw); go_simp; try (with_reducible rfl))
            simp only [List.setIfInBounds_toArray, List.set_cons_zero, List.set_cons_succ]
            refine take_op (v := ?vu3x12) 12 (Op.indexAddr 36 (Operand.tmp 27) (Operand.tmp 29)) 0 rfl rfl rfl rfl rfl (by kernel_rfl) (by kernel_rfl) (by kernel_rfl) (fun _ _ _ h => h) ?yu3x12 (by assumption) ?ru3x12
            case yu3x12 => (intro w' hSw; (try dsimp only at hSw); go_simp; try (with_reducible rfl))
            simp only [List.setIfInBounds_toArray, List.set_cons_zero, List.set_cons_succ]
            refine take_op (v := ?vu3x13) 13 (Op.load 39 (Operand.tmp 30)) 39 rfl rfl rfl rfl rfl (by kernel_rfl) (by kernel_rfl) (by kernel_rfl) (fun _ _ _ h => h) ?yu3x13 (by assumption) ?ru3x13
            case yu3x13 => (intro w' hSw; (try dsimp only at hSw); go_simp; try (with_reducible rfl))
            simp only [List.setIfInBounds_toArray, List.set_cons_zero, List.set_cons_succ]
            refine wpAnyH_ready (rs := [14]) (by kernel_rfl) (by simp) (AllReadyH.cons rfl (fun K14 hK14 => ?ku3x14) AllReadyH.nil)
            refine take_callv 14 30 22 [Operand.tmp 26, Operand.tmp 31] #[39, 39] rfl rfl (by kernel_rfl) rfl (fun args w => run_enter Try.func30 (by kernel_rfl) rfl args w) ?_
            refine (against_any x1 x2 y1 y2 _ v hv).mono ?_
            rintro e w14 ⟨rfl, hb14⟩
            refine ⟨_, rfl, ?_⟩
            have z14 := hb14.size
            try simp only [World.size_drew] at z14
            replace HB := HB.trans (hb14.mono (by first | exact HB.size | omega))
            have zHB14 := HB.size
            replace o2 := Own.below o2 hb14
            refine hK14.out _ _ ?su3x14 (fun hHeld => ?ru3x14)
            case su3x14 => ((try dsimp only); exact ⟨own_cell o2 _ Q1.out, own_cell o2 _ Q2.out, own_cell o2 _ Q3.out, own_cell o2 _ Q4.out⟩)
            try simp only [List.setIfInBounds_toArray, List.set_cons_zero, List.set_cons_succ]
            refine take_op (v := ?vu3x15) 15 (Op.binOp BinOp.lss 3 (Operand.tmp 32) (Operand.const (Value.int IntKind.i64 0)) 3) 4 rfl rfl rfl rfl rfl (by kernel_rfl) (by kernel_rfl) (by kernel_rfl) (fun _ _ _ h => h) ?yu3x15 (by assumption) ?ru3x15
            case yu3x15 => (intro w' hSw; (try dsimp only at hSw); go_simp; try (with_reducible rfl))
            simp only [List.setIfInBounds_toArray, List.set_cons_zero, List.set_cons_succ]
            refine take_op (v := ?vu3x16) 16 (Op.pick (Operand.tmp 21) (Operand.tmp 33) (Operand.const (Value.bool false))) 4 rfl rfl rfl rfl rfl (by kernel_rfl) (by kernel_rfl) (by kernel_rfl) (fun _ _ _ h => h) ?yu3x16 (by assumption) ?ru3x16
            case yu3x16 => (intro w' hSw; (try dsimp only at hSw); go_simp; try (with_reducible rfl))
            simp only [List.setIfInBounds_toArray, List.set_cons_zero, List.set_cons_succ]
            refine wpAnyH_done (by kernel_rfl) ?_ _
            clear hHeld hb2
            have zq := HB.size
            go_wp2_with fail
            go_roundw
            case rel => exact ⟨k + 1, by rw [show a + (k + 1) = q + 1 by omega]; go_num, by omega, by omega, by rw [HP.out]; simpa [List.append_assoc, ← HDD.out] using o2, HB, by omega⟩
            case measure => simp [intOf]; omega
    · have hge : ¬ ((q : Int) < (b : Int)) := by omega
      go_wp2_with fail
      go_end0
      refine ⟨rfl, ?_, hbw⟩
      have e1 : M.take k = M := List.take_of_length_le (by omega)
      have e2 : M.drop k = [] := List.drop_eq_nil_of_le (by omega)
      rw [e1, e2] at o1
      simpa [List.append_assoc] using o1
end LenW
end Go.Proofs.Ytpnccehaomikbaa
