/- The walks of package lens: two rows as one. -/
import Derived.Test.YtpnccehaomikbaaLenF
namespace Go.Proofs.Ytpnccehaomikbaa
set_option linter.unusedVariables false
set_option linter.unusedSimpArgs false
set_option linter.unnecessarySimpa false
open Go.RowKit
namespace LenW

/-- 'make([]T, 0, n)'. -/
theorem wp_make {P : Program} {w : World} {t e size bytes : Nat} (hE : El P t e size bytes) {ops : Array Oper} {rest : List Oper} {o : Oper} {a : Act} {Q : Exit → Act → World → Prop} (hgd : o.guard = none) {l c : Operand}
    (ho : o.op = .makeSlice t l c) (base : Nat) (n : Nat) {kl kc : IntKind} {C : Int} (hl : a.eval l = .int kl 0) (hc : a.eval c = .int kc C) (hC : C = (n : Int)) (hb : bytes * n ≤ 281474976710656) (hn : n ≤ maxLen) (hbase : base ≤ w.heap.size)
    (h : ∀ w', Own w' base e size (some ⟨w.heap.size, 0, none⟩) 0 n [] → w.grownBy w' none → wpList P ops Q rest (a.put o.dst (.slice (some ⟨w.heap.size, 0, none⟩) 0 n)) w') : wpList P ops Q (o :: rest) a w := by
  obtain ⟨i, z, hi, hz, hsize, hby, hzs⟩ := hE.inf
  exact wpList_make_own w hgd l c t ho base e i z size hE.und hi hz hsize kl kc C n hl hc hC (by rw [hby]; exact hb) hn hbase h
def lenV : Value → Nat
  | .slice _ n _ => n
  | _ => 0
theorem rd_tail {w : World} {B : Nat} {A : Option Addr} {n cap : Nat} {x : Int × Int} {P : List (Int × Int)} (h : Rd w B 2 A n (fcells (x :: P))) (hc : n ≤ cap) (h1 : 1 ≤ n) : Rd w B 2 (if cap = 1 then A else A.map (·.add 2)) (n - 1) (fcells P) := by
  have := h.cut (k := 1) (cap := cap) h1 hc
  simpa [fcells_cons] using this
set_option maxRecDepth 100000 in
set_option maxHeartbeats 4000000 in
theorem merged_any (A1 A2 : Option Addr) (n1 c1 n2 c2 : Nat) (a b : List (Int × Int)) (w : World) (h1 : Rd w w.heap.size 2 A1 n1 (fcells a)) (h2 : Rd w w.heap.size 2 A2 n2 (fcells b)) (hn1 : n1 ≤ 1000) (hn2 : n2 ≤ 1000) (hc1 : n1 ≤ c1) (hc2 : n2 ≤ c2) :
    Calls Try.prog 20 #[.slice A1 n1 c1, .slice A2 n2 c2] w fun e w' => ∃ A c, e = .returned (.slice A (n1 + n2) c) ∧ Own w' w.heap.size 39 2 A (n1 + n2) c (fcells (mrg a b)) ∧ Below w.heap.size w w' := by
  have hw12 : IntKind.i64.wrap ((n1 : Int) + (n2 : Int)) = (n1 : Int) + (n2 : Int) := w64k (by omega) (by omega)
  go_enter Try.func20, Try.ntmps20
  go_wp2_with (at_make; refine wp_make El_w rfl rfl w.heap.size (n1 + n2) rfl rfl (by simp) (by omega) (by unfold maxLen; omega) (Nat.le_refl _) ?_; intro w2 hown2 hg2)
  have hb2 := below_grow (Below.refl w.heap.size w) hg2
  have hz2 := hb2.size
  go_loopw [0, 1, 5] (fun s0 s1 out wr => ∃ (P Q R : List (Int × Int)) (B1 B2 B3 : Option Addr) (m1 m2 m3 d1 d2 d3 : Nat), s0 = .slice B1 m1 d1 ∧ s1 = .slice B2 m2 d2 ∧ out = .slice B3 m3 d3 ∧ Rd wr w.heap.size 2 B1 m1 (fcells P) ∧ Rd wr w.heap.size 2 B2 m2 (fcells Q) ∧ m1 ≤ d1 ∧ m2 ≤ d2 ∧ Own wr w.heap.size 39 2 B3 m3 d3 (fcells R) ∧ R ++ mrg P Q = mrg a b ∧ m1 + m2 + m3 = n1 + n2 ∧ Below w.heap.size w wr) (fun s0 s1 _ _ => lenV s0 + lenV s1)
  case atStart => exact ⟨a, b, [], A1, A2, _, n1, n2, 0, c1, c2, _, rfl, rfl, rfl, h1.below hb2, h2.below hb2, hc1, hc2, by simpa [fcells] using hown2, rfl, by omega, hb2⟩
  case round =>
    clear h1 h2 hown2 hg2 hb2 hz2
    obtain ⟨P, Q, R, B1, B2, B3, m1, m2, m3, d1, d2, d3, rfl, rfl, rfl, r1, r2, hd1, hd2, o3, hR, hN, HB⟩ := hrel
    have hP := rd_flen r1
    have hQ := rd_flen r2
    have hz := HB.size
    have HR := Lib.hid hR
    have hN1 : m1 + m2 + m3 ≤ n1 + n2 := Nat.le_of_eq hN
    have HN := Lib.hid hN
    clear hR hN
    match P, Q, hP, hQ, r1, r2, HR with
    | [], Q, hP, hQ, r1, r2, HR =>
      obtain rfl : m1 = 0 := by simpa using hP.symm
      have HN2 := Lib.hid (show m3 + 0 + m2 = n1 + n2 by have := HN.out; omega)
      go_wp2_with (at_builtin; first | (with_reducible refine wp_append El_w rfl (s := .tmp 44) (x := .tmp 45) rfl rfl o3 rfl r1 (fcells_one _) (by unfold maxLen; omega) (by omega) hz ?_; intro A4 c4 w4 o4 hg4 hat4; have r2b := r2.grownOwn hg4 o3 (Nat.le_refl _) hz; have z4 := hg4.size; have HB4 := below_grown HB hg4 o3 (Nat.le_refl _); have hz4 := HB4.size) | (with_reducible refine wp_append El_w rfl (s := .tmp 46) (x := .tmp 47) rfl rfl o4 rfl r2b (fcells_one _) (by unfold maxLen; omega) (by omega) hz4 ?_; intro A5 c5 w5 o5 hg5 hat5; have HB5 := below_grown HB4 hg5 o4 (Nat.le_refl _)))
      try rw [Exit.noGoto_ret]
      go_ret
      refine ⟨A5, c5, by rw [← HN2.out]; try rfl, ?_, HB5⟩
      rw [← HN2.out, ← HR.out, mrg_nil, fcells_app]
      simpa [fcells] using o5
    | x :: P, [], hP, hQ, r1, r2, HR =>
      obtain rfl : m2 = 0 := by simpa using hQ.symm
      have h0 : 0 < m1 := by simp at hP; omega
      have h0' : (0 : Int) < (m1 : Int) := by omega
      have HN2 := Lib.hid (show m3 + m1 + 0 = n1 + n2 by have := HN.out; omega)
      go_wp2_with (at_builtin; first | (with_reducible refine wp_append El_w rfl (s := .tmp 44) (x := .tmp 45) rfl rfl o3 rfl r1 (fcells_one _) (by unfold maxLen; omega) (by omega) hz ?_; intro A4 c4 w4 o4 hg4 hat4; have r2b := r2.grownOwn hg4 o3 (Nat.le_refl _) hz; have z4 := hg4.size; have HB4 := below_grown HB hg4 o3 (Nat.le_refl _); have hz4 := HB4.size) | (with_reducible refine wp_append El_w rfl (s := .tmp 46) (x := .tmp 47) rfl rfl o4 rfl r2b (fcells_one _) (by unfold maxLen; omega) (by omega) hz4 ?_; intro A5 c5 w5 o5 hg5 hat5; have HB5 := below_grown HB4 hg5 o4 (Nat.le_refl _)))
      try rw [Exit.noGoto_ret]
      go_ret
      refine ⟨A5, c5, by rw [← HN2.out]; try rfl, ?_, HB5⟩
      rw [← HN2.out, ← HR.out, mrg_right, fcells_app]
      simpa [fcells] using o5
    | x :: P, y :: Q, hP, hQ, r1, r2, HR =>
      simp only [List.length_cons] at hP hQ
      have h0 : 0 < m1 := by omega
      have h0' : (0 : Int) < (m1 : Int) := by omega
      have h1 : 0 < m2 := by omega
      have h1' : (0 : Int) < (m2 : Int) := by omega
      have k1 : d1 ≠ 0 := by omega
      have k2 : d2 ≠ 0 := by omega
      have k3 : 1 ≤ d1 := by omega
      have k4 : 1 ≤ d2 := by omega
      have k5 : 1 ≤ m1 := by omega
      have k6 : 1 ≤ m2 := by omega
      have t1 := rd_tail r1 hd1 h0
      have t2 := rd_tail r2 hd2 h1
      obtain ⟨b1, o1, rfl, hb1, hc1'⟩ := rd_fcells r1 h0
      obtain ⟨b2, o2, rfl, hb2, hc2'⟩ := rd_fcells r2 h1
      obtain ⟨e1, e2⟩ := hc1' 0 (by simp)
      obtain ⟨e3, e4⟩ := hc2' 0 (by simp)
      simp only [Nat.zero_mul, Nat.add_zero, List.getElem_cons_zero] at e1 e2 e3 e4
      obtain ⟨x1, x2⟩ := x
      obtain ⟨y1, y2⟩ := y
      dsimp only at e1 e2 e3 e4
      have E := Lib.hid (And.intro ((HB.cell hb1).symm.trans e1) (And.intro ((HB.cell hb1).symm.trans e2) (And.intro ((HB.cell hb2).symm.trans e3) ((HB.cell hb2).symm.trans e4))))
      have T1 := (show Rd wr w.heap.size 2 (if d1 = 1 then some ⟨b1, o1, none⟩ else some ⟨b1, o1 + 2, none⟩) (m1 - 1) (fcells P) by simpa [add_lit] using t1)
      have T2 := (show Rd wr w.heap.size 2 (if d2 = 1 then some ⟨b2, o2, none⟩ else some ⟨b2, o2 + 2, none⟩) (m2 - 1) (fcells Q) by simpa [add_lit] using t2)
      have R1 := r1
      have R2 := r2
      have k7 : (1 : Int) ≤ (m1 : Int) := by omega
      have k8 : (1 : Int) ≤ (m2 : Int) := by omega
      have HKK := Lib.hid (fun (w' : World) (hb : Below w.heap.size w w') => (show w'.cell? ⟨b1, o1, none⟩ = some (.int .i64 x1) ∧ w'.cell? ⟨b1, o1 + 1, none⟩ = some (.int .i64 x2) ∧ w'.cell? ⟨b2, o2, none⟩ = some (.int .i64 y1) ∧ w'.cell? ⟨b2, o2 + 1, none⟩ = some (.int .i64 y2) from
        ⟨(hb.cell hb1).trans E.out.1, (hb.cell hb1).trans E.out.2.1, (hb.cell hb2).trans E.out.2.2.1, (hb.cell hb2).trans E.out.2.2.2⟩))
      obtain ⟨v, hv⟩ : ∃ v, cmpV x1 y1 = v := ⟨_, rfl⟩
      have hvl := cmpV_le x1 y1
      rw [hv] at hvl
      clear hc1' hc2' e1 e2 e3 e4 t1 t2 r1 r2
      by_cases hv0 : v ≤ 0
      · have hxy := hvl.1 hv0
        have HM := Lib.hid (show (R ++ [(x1, x2)]) ++ mrg P ((y1, y2) :: Q) = mrg a b by rw [← HR.out, mrg_cons, if_pos hxy]; simp)
        have HNN := Lib.hid (show (m1 - 1) + m2 + (m3 + 1) = n1 + n2 by have := HN.out; omega)
        clear hvl hxy
        go_wp2_with fail
        refine wp_region_held_drew (S := (fun w' => w'.cell? ⟨b1, o1, none⟩ = some (.int .i64 x1) ∧ w'.cell? ⟨b1, o1 + 1, none⟩ = some (.int .i64 x2) ∧ w'.cell? ⟨b2, o2, none⟩ = some (.int .i64 y1) ∧ w'.cell? ⟨b2, o2 + 1, none⟩ = some (.int .i64 y2))) (by kernel_rfl) ?_ (fun hHeld => ?_)
        · replace HB := Below.drew HB; replace o3 := Own.drew o3; replace T1 := Rd.drew T1; replace T2 := Rd.drew T2; replace R1 := Rd.drew R1; replace R2 := Rd.drew R2; (try dsimp only); exact HKK.out _ HB
        replace HB := Below.drew HB
        replace o3 := Own.drew o3
        replace T1 := Rd.drew T1
        replace T2 := Rd.drew T2
        replace R1 := Rd.drew R1
        replace R2 := Rd.drew R2
        have zHB := HB.size
        refine take_movev (v := ?vu3x0) 0 (Operand.tmp 0) rfl rfl (by first | exact .inl rfl | exact .inr rfl) rfl (by kernel_rfl) (by kernel_rfl) (by kernel_rfl) (fun _ _ _ h => h) (by assumption) ?yu3x0 ?ru3x0
        case yu3x0 => (go_simp; try (with_reducible rfl))
        simp only [List.setIfInBounds_toArray, List.set_cons_zero, List.set_cons_succ]
        refine take_op (v := ?vu3x1) 1 (Op.indexAddr 36 (Operand.tmp 20) (Operand.const (Value.int IntKind.i64 0))) 0 rfl rfl rfl rfl rfl (by kernel_rfl) (by kernel_rfl) (by kernel_rfl) (fun _ _ _ h => h) ?yu3x1 (by assumption) ?ru3x1
        case yu3x1 => (intro w' hSw; (try dsimp only at hSw); go_simp; try (with_reducible rfl))
        simp only [List.setIfInBounds_toArray, List.set_cons_zero, List.set_cons_succ]
        refine take_op (v := ?vu3x2) 2 (Op.load 39 (Operand.tmp 21)) 39 rfl rfl rfl rfl rfl (by kernel_rfl) (by kernel_rfl) (by kernel_rfl) (fun _ _ _ h => h) ?yu3x2 (by assumption) ?ru3x2
        case yu3x2 => (intro w' hSw; (try dsimp only at hSw); go_simp; try (with_reducible rfl))
        simp only [List.setIfInBounds_toArray, List.set_cons_zero, List.set_cons_succ]
        refine take_movev (v := ?vu3x3) 3 (Operand.tmp 1) rfl rfl (by first | exact .inl rfl | exact .inr rfl) rfl (by kernel_rfl) (by kernel_rfl) (by kernel_rfl) (fun _ _ _ h => h) (by assumption) ?yu3x3 ?ru3x3
        case yu3x3 => (go_simp; try (with_reducible rfl))
        simp only [List.setIfInBounds_toArray, List.set_cons_zero, List.set_cons_succ]
        refine take_op (v := ?vu3x4) 4 (Op.indexAddr 36 (Operand.tmp 23) (Operand.const (Value.int IntKind.i64 0))) 0 rfl rfl rfl rfl rfl (by kernel_rfl) (by kernel_rfl) (by kernel_rfl) (fun _ _ _ h => h) ?yu3x4 (by assumption) ?ru3x4
        case yu3x4 => (intro w' hSw; (try dsimp only at hSw); go_simp; try (with_reducible rfl))
        simp only [List.setIfInBounds_toArray, List.set_cons_zero, List.set_cons_succ]
        refine take_op (v := ?vu3x5) 5 (Op.load 39 (Operand.tmp 24)) 39 rfl rfl rfl rfl rfl (by kernel_rfl) (by kernel_rfl) (by kernel_rfl) (fun _ _ _ h => h) ?yu3x5 (by assumption) ?ru3x5
        case yu3x5 => (intro w' hSw; (try dsimp only at hSw); go_simp; try (with_reducible rfl))
        simp only [List.setIfInBounds_toArray, List.set_cons_zero, List.set_cons_succ]
        refine wpAnyH_ready (rs := [6]) (by kernel_rfl) (by simp) (AllReadyH.cons rfl (fun K6 hK6 => ?ku3x6) AllReadyH.nil)
        refine take_calls 6 30 [Operand.tmp 22, Operand.tmp 25] #[39, 39] rfl rfl (by kernel_rfl) (fun args w => run_enter Try.func30 (by kernel_rfl) rfl args w) ?_
        refine (against_any x1 x2 y1 y2 _ v hv).mono ?_
        rintro e w6 ⟨rfl, hb6⟩
        refine ⟨_, rfl, ?_⟩
        have z6 := hb6.size
        try simp only [World.size_drew] at z6
        replace HB := HB.trans (hb6.mono (by first | exact HB.size | omega))
        have zHB6 := HB.size
        replace o3 := Own.below o3 hb6
        replace T1 := Rd.below T1 (hb6.mono (by first | exact Nat.le_refl _ | (simp only [World.size_alloc, World.size_setCell, World.size_drew] at *; omega) | omega))
        replace T2 := Rd.below T2 (hb6.mono (by first | exact Nat.le_refl _ | (simp only [World.size_alloc, World.size_setCell, World.size_drew] at *; omega) | omega))
        replace R1 := Rd.below R1 (hb6.mono (by first | exact Nat.le_refl _ | (simp only [World.size_alloc, World.size_setCell, World.size_drew] at *; omega) | omega))
        replace R2 := Rd.below R2 (hb6.mono (by first | exact Nat.le_refl _ | (simp only [World.size_alloc, World.size_setCell, World.size_drew] at *; omega) | omega))
        refine hK6.out _ _ ?su3x6 (fun hHeld => ?ru3x6)
        case su3x6 => ((try dsimp only); exact HKK.out _ HB)
        try simp only [List.setIfInBounds_toArray, List.set_cons_zero, List.set_cons_succ]
        refine take_op (v := ?vu3x7) 7 (Op.binOp BinOp.leq 3 (Operand.tmp 26) (Operand.const (Value.int IntKind.i64 0)) 3) 4 rfl rfl rfl rfl rfl (by kernel_rfl) (by kernel_rfl) (by kernel_rfl) (fun _ _ _ h => h) ?yu3x7 (by assumption) ?ru3x7
        case yu3x7 => (intro w' hSw; (try dsimp only at hSw); go_simp; try (with_reducible rfl))
        simp only [List.setIfInBounds_toArray, List.set_cons_zero, List.set_cons_succ]
        refine wpAnyH_done (by kernel_rfl) ?_ _
        clear hHeld
        go_wp2_with fail
        refine wp_region_held_drew (S := (fun w' => w'.cell? ⟨b1, o1, none⟩ = some (.int .i64 x1) ∧ w'.cell? ⟨b1, o1 + 1, none⟩ = some (.int .i64 x2) ∧ w'.cell? ⟨b2, o2, none⟩ = some (.int .i64 y1) ∧ w'.cell? ⟨b2, o2 + 1, none⟩ = some (.int .i64 y2))) (by kernel_rfl) ?_ (fun hHeld => ?_)
        · replace HB := Below.drew HB; replace o3 := Own.drew o3; replace T1 := Rd.drew T1; replace T2 := Rd.drew T2; replace R1 := Rd.drew R1; replace R2 := Rd.drew R2; (try dsimp only); exact HKK.out _ HB
        replace HB := Below.drew HB
        replace o3 := Own.drew o3
        replace T1 := Rd.drew T1
        replace T2 := Rd.drew T2
        replace R1 := Rd.drew R1
        replace R2 := Rd.drew R2
        have zHB := HB.size
        refine take_movev (v := ?vu1t3x0) 0 (Operand.tmp 5) rfl rfl (by first | exact .inl rfl | exact .inr rfl) rfl (by kernel_rfl) (by kernel_rfl) (by kernel_rfl) (fun _ _ _ h => h) (by assumption) ?yu1t3x0 ?ru1t3x0
        case yu1t3x0 => (go_simp; try (with_reducible rfl))
        simp only [List.setIfInBounds_toArray, List.set_cons_zero, List.set_cons_succ]
        refine take_movev (v := ?vu1t3x1) 1 (Operand.tmp 0) rfl rfl (by first | exact .inl rfl | exact .inr rfl) rfl (by kernel_rfl) (by kernel_rfl) (by kernel_rfl) (fun _ _ _ h => h) (by assumption) ?yu1t3x1 ?ru1t3x1
        case yu1t3x1 => (go_simp; try (with_reducible rfl))
        simp only [List.setIfInBounds_toArray, List.set_cons_zero, List.set_cons_succ]
        refine take_op (v := ?vu1t3x2) 2 (Op.indexAddr 36 (Operand.tmp 29) (Operand.const (Value.int IntKind.i64 0))) 0 rfl rfl rfl rfl rfl (by kernel_rfl) (by kernel_rfl) (by kernel_rfl) (fun _ _ _ h => h) ?yu1t3x2 (by assumption) ?ru1t3x2
        case yu1t3x2 => (intro w' hSw; (try dsimp only at hSw); go_simp; try (with_reducible rfl))
        simp only [List.setIfInBounds_toArray, List.set_cons_zero, List.set_cons_succ]
        refine take_op (v := ?vu1t3x3) 3 (Op.load 39 (Operand.tmp 30)) 39 rfl rfl rfl rfl rfl (by kernel_rfl) (by kernel_rfl) (by kernel_rfl) (fun _ _ _ h => h) ?yu1t3x3 (by assumption) ?ru1t3x3
        case yu1t3x3 => (intro w' hSw; (try dsimp only at hSw); go_simp; try (with_reducible rfl))
        simp only [List.setIfInBounds_toArray, List.set_cons_zero, List.set_cons_succ]
        refine take_movev (v := ?vu1t3x6) 6 (Operand.tmp 0) rfl rfl (by first | exact .inl rfl | exact .inr rfl) rfl (by kernel_rfl) (by kernel_rfl) (by kernel_rfl) (fun _ _ _ h => h) (by assumption) ?yu1t3x6 ?ru1t3x6
        case yu1t3x6 => (go_simp; try (with_reducible rfl))
        simp only [List.setIfInBounds_toArray, List.set_cons_zero, List.set_cons_succ]
        refine take_op (v := ?vu1t3x7) 7 (Op.slice 36 (Operand.tmp 34) (some (Operand.const (Value.int IntKind.i64 1))) none none) 36 rfl rfl rfl rfl rfl (by kernel_rfl) (by kernel_rfl) (by kernel_rfl) (fun _ _ _ h => h) ?yu1t3x7 (by assumption) ?ru1t3x7
        case yu1t3x7 => (intro w' hSw; (try dsimp only at hSw); go_simp; try (with_reducible rfl))
        simp only [List.setIfInBounds_toArray, List.set_cons_zero, List.set_cons_succ]
        refine wpAnyH_ready (rs := [4]) (by kernel_rfl) (by simp) (AllReadyH.cons rfl (fun K4 hK4 => ?ku1t3x4) AllReadyH.nil)
        refine take_build (e := 39) (len := 1) (size := 2) (w.heap.size) (fcells [(x1, x2)]) 4 (Op.buildSlice 36 1 #[(0, Operand.tmp 31)]) 36 rfl rfl rfl (by kernel_rfl) ?eu1t3x4 (by rfl) (by decide) (by first | exact Nat.le_refl _ | (simp only [World.size_alloc, World.size_setCell, World.size_drew] at *; omega) | omega) ?_
        case eu1t3x4 => (go_simp; try (first | with_reducible rfl | (simp [rcells, rcell]; done) | (simp [fcells]; done) | (simp [tcells]; done) | rfl))
        intro gx4 w4 o4 gr4 l4 m4
        have z4 := gr4.size
        try simp only [World.size_drew] at z4
        replace HB := below_grow HB gr4
        have zHB4 := HB.size
        replace o3 := Own.grow0 o3 gr4
        replace T1 := Rd.grow0 T1 gr4 (by first | exact Nat.le_refl _ | (simp only [World.size_alloc, World.size_setCell, World.size_drew] at *; omega) | omega)
        replace T2 := Rd.grow0 T2 gr4 (by first | exact Nat.le_refl _ | (simp only [World.size_alloc, World.size_setCell, World.size_drew] at *; omega) | omega)
        replace R1 := Rd.grow0 R1 gr4 (by first | exact Nat.le_refl _ | (simp only [World.size_alloc, World.size_setCell, World.size_drew] at *; omega) | omega)
        replace R2 := Rd.grow0 R2 gr4 (by first | exact Nat.le_refl _ | (simp only [World.size_alloc, World.size_setCell, World.size_drew] at *; omega) | omega)
        refine hK4.out _ _ ?su1t3x4 (fun hHeld => ?ru1t3x4)
        case su1t3x4 => ((try dsimp only); exact HKK.out _ HB)
        try simp only [List.setIfInBounds_toArray, List.set_cons_zero, List.set_cons_succ]
        refine wpAnyH_ready (rs := [5]) (by kernel_rfl) (by simp) (AllReadyH.cons rfl (fun K5 hK5 => ?ku1t3x5) AllReadyH.nil)
        refine take_app El_w 5 (Operand.tmp 28) (Operand.tmp 32) 36 rfl rfl rfl (by kernel_rfl) o3 rfl (o4.rd) rfl (fcells_one _) (by unfold maxLen; omega) (by omega) (by first | exact Nat.le_refl _ | (simp only [World.size_alloc, World.size_setCell, World.size_drew] at *; omega) | omega) ?_
        intro A5 c5 w5 o5 gr5 at5
        have z5 := gr5.size
        try simp only [World.size_drew] at z5
        replace HB := below_grown HB gr5 o3 (by first | exact Nat.le_refl _ | (simp only [World.size_alloc, World.size_setCell, World.size_drew] at *; omega) | omega)
        have zHB5 := HB.size
        replace T1 := Rd.grownOwn T1 gr5 o3 (by first | exact Nat.le_refl _ | (simp only [World.size_alloc, World.size_setCell, World.size_drew] at *; omega) | omega) (by first | exact Nat.le_refl _ | (simp only [World.size_alloc, World.size_setCell, World.size_drew] at *; omega) | omega)
        replace T2 := Rd.grownOwn T2 gr5 o3 (by first | exact Nat.le_refl _ | (simp only [World.size_alloc, World.size_setCell, World.size_drew] at *; omega) | omega) (by first | exact Nat.le_refl _ | (simp only [World.size_alloc, World.size_setCell, World.size_drew] at *; omega) | omega)
        replace R1 := Rd.grownOwn R1 gr5 o3 (by first | exact Nat.le_refl _ | (simp only [World.size_alloc, World.size_setCell, World.size_drew] at *; omega) | omega) (by first | exact Nat.le_refl _ | (simp only [World.size_alloc, World.size_setCell, World.size_drew] at *; omega) | omega)
        replace R2 := Rd.grownOwn R2 gr5 o3 (by first | exact Nat.le_refl _ | (simp only [World.size_alloc, World.size_setCell, World.size_drew] at *; omega) | omega) (by first | exact Nat.le_refl _ | (simp only [World.size_alloc, World.size_setCell, World.size_drew] at *; omega) | omega)
        refine hK5.out _ _ ?su1t3x5 (fun hHeld => ?ru1t3x5)
        case su1t3x5 => ((try dsimp only); exact HKK.out _ HB)
        try simp only [List.setIfInBounds_toArray, List.set_cons_zero, List.set_cons_succ]
        refine take_op (v := ?vu1t3x8) 8 (Op.assign (Operand.tmp 33)) 36 rfl rfl rfl rfl rfl (by kernel_rfl) (by kernel_rfl) (by kernel_rfl) (fun _ _ _ h => h) ?yu1t3x8 (by assumption) ?ru1t3x8
        case yu1t3x8 => (intro w' hSw; (try dsimp only at hSw); go_simp; try (with_reducible rfl))
        simp only [List.setIfInBounds_toArray, List.set_cons_zero, List.set_cons_succ]
        refine take_op (v := ?vu1t3x9) 9 (Op.assign (Operand.tmp 35)) 36 rfl rfl rfl rfl rfl (by kernel_rfl) (by kernel_rfl) (by kernel_rfl) (fun _ _ _ h => h) ?yu1t3x9 (by assumption) ?ru1t3x9
        case yu1t3x9 => (intro w' hSw; (try dsimp only at hSw); go_simp; try (with_reducible rfl))
        simp only [List.setIfInBounds_toArray, List.set_cons_zero, List.set_cons_succ]
        refine wpAnyH_done (by kernel_rfl) ?_ _
        clear hHeld
        go_wp2_with fail
        go_roundw
        case rel => exact ⟨P, (y1, y2) :: Q, R ++ [(x1, x2)], _, _, A5, m1 - 1, m2, m3 + 1, d1 - 1, d2, c5, rfl, rfl, rfl, T1, R2, by omega, hd2, by rw [fcells_app]; exact o5, HM.out, HNN.out, HB⟩
        case measure => simp [lenV]; omega
      · have hxy : ¬ x1 ≤ y1 := fun e => hv0 (hvl.2 e)
        have HM := Lib.hid (show (R ++ [(y1, y2)]) ++ mrg ((x1, x2) :: P) Q = mrg a b by rw [← HR.out, mrg_cons, if_neg hxy]; simp)
        have HNN := Lib.hid (show m1 + (m2 - 1) + (m3 + 1) = n1 + n2 by have := HN.out; omega)
        clear hvl hxy
        go_wp2_with fail
        refine wp_region_held_drew (S := (fun w' => w'.cell? ⟨b1, o1, none⟩ = some (.int .i64 x1) ∧ w'.cell? ⟨b1, o1 + 1, none⟩ = some (.int .i64 x2) ∧ w'.cell? ⟨b2, o2, none⟩ = some (.int .i64 y1) ∧ w'.cell? ⟨b2, o2 + 1, none⟩ = some (.int .i64 y2))) (by kernel_rfl) ?_ (fun hHeld => ?_)
        · replace HB := Below.drew HB; replace o3 := Own.drew o3; replace T1 := Rd.drew T1; replace T2 := Rd.drew T2; replace R1 := Rd.drew R1; replace R2 := Rd.drew R2; (try dsimp only); exact HKK.out _ HB
        replace HB := Below.drew HB
        replace o3 := Own.drew o3
        replace T1 := Rd.drew T1
        replace T2 := Rd.drew T2
        replace R1 := Rd.drew R1
        replace R2 := Rd.drew R2
        have zHB := HB.size
        refine take_movev (v := ?vu4x0) 0 (Operand.tmp 0) rfl rfl (by first | exact .inl rfl | exact .inr rfl) rfl (by kernel_rfl) (by kernel_rfl) (by kernel_rfl) (fun _ _ _ h => h) (by assumption) ?yu4x0 ?ru4x0
        case yu4x0 => (go_simp; try (with_reducible rfl))
        simp only [List.setIfInBounds_toArray, List.set_cons_zero, List.set_cons_succ]
        refine take_op (v := ?vu4x1) 1 (Op.indexAddr 36 (Operand.tmp 20) (Operand.const (Value.int IntKind.i64 0))) 0 rfl rfl rfl rfl rfl (by kernel_rfl) (by kernel_rfl) (by kernel_rfl) (fun _ _ _ h => h) ?yu4x1 (by assumption) ?ru4x1
        case yu4x1 => (intro w' hSw; (try dsimp only at hSw); go_simp; try (with_reducible rfl))
        simp only [List.setIfInBounds_toArray, List.set_cons_zero, List.set_cons_succ]
        refine take_op (v := ?vu4x2) 2 (Op.load 39 (Operand.tmp 21)) 39 rfl rfl rfl rfl rfl (by kernel_rfl) (by kernel_rfl) (by kernel_rfl) (fun _ _ _ h => h) ?yu4x2 (by assumption) ?ru4x2
        case yu4x2 => (intro w' hSw; (try dsimp only at hSw); go_simp; try (with_reducible rfl))
        simp only [List.setIfInBounds_toArray, List.set_cons_zero, List.set_cons_succ]
        refine take_movev (v := ?vu4x3) 3 (Operand.tmp 1) rfl rfl (by first | exact .inl rfl | exact .inr rfl) rfl (by kernel_rfl) (by kernel_rfl) (by kernel_rfl) (fun _ _ _ h => h) (by assumption) ?yu4x3 ?ru4x3
        case yu4x3 => (go_simp; try (with_reducible rfl))
        simp only [List.setIfInBounds_toArray, List.set_cons_zero, List.set_cons_succ]
        refine take_op (v := ?vu4x4) 4 (Op.indexAddr 36 (Operand.tmp 23) (Operand.const (Value.int IntKind.i64 0))) 0 rfl rfl rfl rfl rfl (by kernel_rfl) (by kernel_rfl) (by kernel_rfl) (fun _ _ _ h => h) ?yu4x4 (by assumption) ?ru4x4
        case yu4x4 => (intro w' hSw; (try dsimp only at hSw); go_simp; try (with_reducible rfl))
        simp only [List.setIfInBounds_toArray, List.set_cons_zero, List.set_cons_succ]
        refine take_op (v := ?vu4x5) 5 (Op.load 39 (Operand.tmp 24)) 39 rfl rfl rfl rfl rfl (by kernel_rfl) (by kernel_rfl) (by kernel_rfl) (fun _ _ _ h => h) ?yu4x5 (by assumption) ?ru4x5
        case yu4x5 => (intro w' hSw; (try dsimp only at hSw); go_simp; try (with_reducible rfl))
        simp only [List.setIfInBounds_toArray, List.set_cons_zero, List.set_cons_succ]
        refine wpAnyH_ready (rs := [6]) (by kernel_rfl) (by simp) (AllReadyH.cons rfl (fun K6 hK6 => ?ku4x6) AllReadyH.nil)
        refine take_calls 6 30 [Operand.tmp 22, Operand.tmp 25] #[39, 39] rfl rfl (by kernel_rfl) (fun args w => run_enter Try.func30 (by kernel_rfl) rfl args w) ?_
        refine (against_any x1 x2 y1 y2 _ v hv).mono ?_
        rintro e w6 ⟨rfl, hb6⟩
        refine ⟨_, rfl, ?_⟩
        have z6 := hb6.size
        try simp only [World.size_drew] at z6
        replace HB := HB.trans (hb6.mono (by first | exact HB.size | omega))
        have zHB6 := HB.size
        replace o3 := Own.below o3 hb6
        replace T1 := Rd.below T1 (hb6.mono (by first | exact Nat.le_refl _ | (simp only [World.size_alloc, World.size_setCell, World.size_drew] at *; omega) | omega))
        replace T2 := Rd.below T2 (hb6.mono (by first | exact Nat.le_refl _ | (simp only [World.size_alloc, World.size_setCell, World.size_drew] at *; omega) | omega))
        replace R1 := Rd.below R1 (hb6.mono (by first | exact Nat.le_refl _ | (simp only [World.size_alloc, World.size_setCell, World.size_drew] at *; omega) | omega))
        replace R2 := Rd.below R2 (hb6.mono (by first | exact Nat.le_refl _ | (simp only [World.size_alloc, World.size_setCell, World.size_drew] at *; omega) | omega))
        refine hK6.out _ _ ?su4x6 (fun hHeld => ?ru4x6)
        case su4x6 => ((try dsimp only); exact HKK.out _ HB)
        try simp only [List.setIfInBounds_toArray, List.set_cons_zero, List.set_cons_succ]
        refine take_op (v := ?vu4x7) 7 (Op.binOp BinOp.leq 3 (Operand.tmp 26) (Operand.const (Value.int IntKind.i64 0)) 3) 4 rfl rfl rfl rfl rfl (by kernel_rfl) (by kernel_rfl) (by kernel_rfl) (fun _ _ _ h => h) ?yu4x7 (by assumption) ?ru4x7
        case yu4x7 => (intro w' hSw; (try dsimp only at hSw); go_simp; try (with_reducible rfl))
        simp only [List.setIfInBounds_toArray, List.set_cons_zero, List.set_cons_succ]
        refine wpAnyH_done (by kernel_rfl) ?_ _
        clear hHeld
        go_wp2_with fail
        refine wp_region_held_drew (S := (fun w' => w'.cell? ⟨b1, o1, none⟩ = some (.int .i64 x1) ∧ w'.cell? ⟨b1, o1 + 1, none⟩ = some (.int .i64 x2) ∧ w'.cell? ⟨b2, o2, none⟩ = some (.int .i64 y1) ∧ w'.cell? ⟨b2, o2 + 1, none⟩ = some (.int .i64 y2))) (by kernel_rfl) ?_ (fun hHeld => ?_)
        · replace HB := Below.drew HB; replace o3 := Own.drew o3; replace T1 := Rd.drew T1; replace T2 := Rd.drew T2; replace R1 := Rd.drew R1; replace R2 := Rd.drew R2; (try dsimp only); exact HKK.out _ HB
        replace HB := Below.drew HB
        replace o3 := Own.drew o3
        replace T1 := Rd.drew T1
        replace T2 := Rd.drew T2
        replace R1 := Rd.drew R1
        replace R2 := Rd.drew R2
        have zHB := HB.size
        refine take_movev (v := ?vu2t4x0) 0 (Operand.tmp 5) rfl rfl (by first | exact .inl rfl | exact .inr rfl) rfl (by kernel_rfl) (by kernel_rfl) (by kernel_rfl) (fun _ _ _ h => h) (by assumption) ?yu2t4x0 ?ru2t4x0
        case yu2t4x0 => (go_simp; try (with_reducible rfl))
        simp only [List.setIfInBounds_toArray, List.set_cons_zero, List.set_cons_succ]
        refine take_movev (v := ?vu2t4x1) 1 (Operand.tmp 1) rfl rfl (by first | exact .inl rfl | exact .inr rfl) rfl (by kernel_rfl) (by kernel_rfl) (by kernel_rfl) (fun _ _ _ h => h) (by assumption) ?yu2t4x1 ?ru2t4x1
        case yu2t4x1 => (go_simp; try (with_reducible rfl))
        simp only [List.setIfInBounds_toArray, List.set_cons_zero, List.set_cons_succ]
        refine take_op (v := ?vu2t4x2) 2 (Op.indexAddr 36 (Operand.tmp 37) (Operand.const (Value.int IntKind.i64 0))) 0 rfl rfl rfl rfl rfl (by kernel_rfl) (by kernel_rfl) (by kernel_rfl) (fun _ _ _ h => h) ?yu2t4x2 (by assumption) ?ru2t4x2
        case yu2t4x2 => (intro w' hSw; (try dsimp only at hSw); go_simp; try (with_reducible rfl))
        simp only [List.setIfInBounds_toArray, List.set_cons_zero, List.set_cons_succ]
        refine take_op (v := ?vu2t4x3) 3 (Op.load 39 (Operand.tmp 38)) 39 rfl rfl rfl rfl rfl (by kernel_rfl) (by kernel_rfl) (by kernel_rfl) (fun _ _ _ h => h) ?yu2t4x3 (by assumption) ?ru2t4x3
        case yu2t4x3 => (intro w' hSw; (try dsimp only at hSw); go_simp; try (with_reducible rfl))
        simp only [List.setIfInBounds_toArray, List.set_cons_zero, List.set_cons_succ]
        refine take_movev (v := ?vu2t4x6) 6 (Operand.tmp 1) rfl rfl (by first | exact .inl rfl | exact .inr rfl) rfl (by kernel_rfl) (by kernel_rfl) (by kernel_rfl) (fun _ _ _ h => h) (by assumption) ?yu2t4x6 ?ru2t4x6
        case yu2t4x6 => (go_simp; try (with_reducible rfl))
        simp only [List.setIfInBounds_toArray, List.set_cons_zero, List.set_cons_succ]
        refine take_op (v := ?vu2t4x7) 7 (Op.slice 36 (Operand.tmp 42) (some (Operand.const (Value.int IntKind.i64 1))) none none) 36 rfl rfl rfl rfl rfl (by kernel_rfl) (by kernel_rfl) (by kernel_rfl) (fun _ _ _ h => h) ?yu2t4x7 (by assumption) ?ru2t4x7
        case yu2t4x7 => (intro w' hSw; (try dsimp only at hSw); go_simp; try (with_reducible rfl))
        simp only [List.setIfInBounds_toArray, List.set_cons_zero, List.set_cons_succ]
        refine wpAnyH_ready (rs := [4]) (by kernel_rfl) (by simp) (AllReadyH.cons rfl (fun K4 hK4 => ?ku2t4x4) AllReadyH.nil)
        refine take_build (e := 39) (len := 1) (size := 2) (w.heap.size) (fcells [(y1, y2)]) 4 (Op.buildSlice 36 1 #[(0, Operand.tmp 39)]) 36 rfl rfl rfl (by kernel_rfl) ?eu2t4x4 (by rfl) (by decide) (by first | exact Nat.le_refl _ | (simp only [World.size_alloc, World.size_setCell, World.size_drew] at *; omega) | omega) ?_
        case eu2t4x4 => (go_simp; try (first | with_reducible rfl | (simp [rcells, rcell]; done) | (simp [fcells]; done) | (simp [tcells]; done) | rfl))
        intro gx4 w4 o4 gr4 l4 m4
        have z4 := gr4.size
        try simp only [World.size_drew] at z4
        replace HB := below_grow HB gr4
        have zHB4 := HB.size
        replace o3 := Own.grow0 o3 gr4
        replace T1 := Rd.grow0 T1 gr4 (by first | exact Nat.le_refl _ | (simp only [World.size_alloc, World.size_setCell, World.size_drew] at *; omega) | omega)
        replace T2 := Rd.grow0 T2 gr4 (by first | exact Nat.le_refl _ | (simp only [World.size_alloc, World.size_setCell, World.size_drew] at *; omega) | omega)
        replace R1 := Rd.grow0 R1 gr4 (by first | exact Nat.le_refl _ | (simp only [World.size_alloc, World.size_setCell, World.size_drew] at *; omega) | omega)
        replace R2 := Rd.grow0 R2 gr4 (by first | exact Nat.le_refl _ | (simp only [World.size_alloc, World.size_setCell, World.size_drew] at *; omega) | omega)
        refine hK4.out _ _ ?su2t4x4 (fun hHeld => ?ru2t4x4)
        case su2t4x4 => ((try dsimp only); exact HKK.out _ HB)
        try simp only [List.setIfInBounds_toArray, List.set_cons_zero, List.set_cons_succ]
        refine wpAnyH_ready (rs := [5]) (by kernel_rfl) (by simp) (AllReadyH.cons rfl (fun K5 hK5 => ?ku2t4x5) AllReadyH.nil)
        refine take_app El_w 5 (Operand.tmp 36) (Operand.tmp 40) 36 rfl rfl rfl (by kernel_rfl) o3 rfl (o4.rd) rfl (fcells_one _) (by unfold maxLen; omega) (by omega) (by first | exact Nat.le_refl _ | (simp only [World.size_alloc, World.size_setCell, World.size_drew] at *; omega) | omega) ?_
        intro A5 c5 w5 o5 gr5 at5
        have z5 := gr5.size
        try simp only [World.size_drew] at z5
        replace HB := below_grown HB gr5 o3 (by first | exact Nat.le_refl _ | (simp only [World.size_alloc, World.size_setCell, World.size_drew] at *; omega) | omega)
        have zHB5 := HB.size
        replace T1 := Rd.grownOwn T1 gr5 o3 (by first | exact Nat.le_refl _ | (simp only [World.size_alloc, World.size_setCell, World.size_drew] at *; omega) | omega) (by first | exact Nat.le_refl _ | (simp only [World.size_alloc, World.size_setCell, World.size_drew] at *; omega) | omega)
        replace T2 := Rd.grownOwn T2 gr5 o3 (by first | exact Nat.le_refl _ | (simp only [World.size_alloc, World.size_setCell, World.size_drew] at *; omega) | omega) (by first | exact Nat.le_refl _ | (simp only [World.size_alloc, World.size_setCell, World.size_drew] at *; omega) | omega)
        replace R1 := Rd.grownOwn R1 gr5 o3 (by first | exact Nat.le_refl _ | (simp only [World.size_alloc, World.size_setCell, World.size_drew] at *; omega) | omega) (by first | exact Nat.le_refl _ | (simp only [World.size_alloc, World.size_setCell, World.size_drew] at *; omega) | omega)
        replace R2 := Rd.grownOwn R2 gr5 o3 (by first | exact Nat.le_refl _ | (simp only [World.size_alloc, World.size_setCell, World.size_drew] at *; omega) | omega) (by first | exact Nat.le_refl _ | (simp only [World.size_alloc, World.size_setCell, World.size_drew] at *; omega) | omega)
        refine hK5.out _ _ ?su2t4x5 (fun hHeld => ?ru2t4x5)
        case su2t4x5 => ((try dsimp only); exact HKK.out _ HB)
        try simp only [List.setIfInBounds_toArray, List.set_cons_zero, List.set_cons_succ]
        refine take_op (v := ?vu2t4x8) 8 (Op.assign (Operand.tmp 41)) 36 rfl rfl rfl rfl rfl (by kernel_rfl) (by kernel_rfl) (by kernel_rfl) (fun _ _ _ h => h) ?yu2t4x8 (by assumption) ?ru2t4x8
        case yu2t4x8 => (intro w' hSw; (try dsimp only at hSw); go_simp; try (with_reducible rfl))
        simp only [List.setIfInBounds_toArray, List.set_cons_zero, List.set_cons_succ]
        refine take_op (v := ?vu2t4x9) 9 (Op.assign (Operand.tmp 43)) 36 rfl rfl rfl rfl rfl (by kernel_rfl) (by kernel_rfl) (by kernel_rfl) (fun _ _ _ h => h) ?yu2t4x9 (by assumption) ?ru2t4x9
        case yu2t4x9 => (intro w' hSw; (try dsimp only at hSw); go_simp; try (with_reducible rfl))
        simp only [List.setIfInBounds_toArray, List.set_cons_zero, List.set_cons_succ]
        refine wpAnyH_done (by kernel_rfl) ?_ _
        clear hHeld
        go_wp2_with fail
        go_roundw
        case rel => exact ⟨(x1, x2) :: P, Q, R ++ [(y1, y2)], _, _, A5, m1, m2 - 1, m3 + 1, d1, d2 - 1, c5, rfl, rfl, rfl, R1, T2, hd1, by omega, by rw [fcells_app]; exact o5, HM.out, HNN.out, HB⟩
        case measure => simp [lenV]; omega
end LenW
end Go.Proofs.Ytpnccehaomikbaa
