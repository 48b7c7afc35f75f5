/- The walks of the reference of package lens: the row behind a row. -/
import Derived.Test.YtpnccehaomikbaaLfC
namespace Go.Proofs.Ytpnccehaomikbaa
set_option linter.unusedVariables false
set_option linter.unusedSimpArgs false
set_option linter.unnecessarySimpa false
open Go.RowKit
namespace LenW

def pksP : List PT → List PT
  | a :: b :: r => (a.1 + b.1, a.2.1 ++ b.2.1, false) :: pksP r
  | _ => []
def putsP (l : List PT) (r : List PT) : List PT := l.foldl (fun r x => putP x r) r
def nextP (row leaves : List PT) : List PT := putsP leaves (putsP (pksP row) [])
theorem putsP_snoc (l : List PT) (x : PT) (r : List PT) : putsP (l ++ [x]) r = putP x (putsP l r) := by simp [putsP]
theorem pksP_len (r : List PT) : (pksP r).length = r.length / 2 := by
  suffices ∀ n (r : List PT), r.length ≤ n → (pksP r).length = r.length / 2 from this _ r (Nat.le_refl _)
  intro n
  induction n with
  | zero => intro r h; obtain rfl := List.length_eq_zero_iff.1 (Nat.le_zero.1 h); rfl
  | succ n ih =>
    intro r h
    match r with
    | [] => rfl
    | [a] => simp [pksP]
    | a :: b :: r =>
      simp only [List.length_cons] at h
      rw [pksP, List.length_cons, ih r (by omega)]
      simp only [List.length_cons]
      omega
theorem pksP_get (r : List PT) : ∀ (k : Nat) (h : 2 * k + 1 < r.length), (pksP r)[k]? = some ((r[2 * k]'(by omega)).1 + (r[2 * k + 1]'(by omega)).1, (r[2 * k]'(by omega)).2.1 ++ (r[2 * k + 1]'(by omega)).2.1, false) := by
  suffices ∀ n (r : List PT), r.length ≤ n → ∀ (k : Nat) (h : 2 * k + 1 < r.length), (pksP r)[k]? = some ((r[2 * k]'(by omega)).1 + (r[2 * k + 1]'(by omega)).1, (r[2 * k]'(by omega)).2.1 ++ (r[2 * k + 1]'(by omega)).2.1, false) from this _ r (Nat.le_refl _)
  intro n
  induction n with
  | zero => intro r hr k h; omega
  | succ n ih =>
    intro r hr k h
    match r, hr, h with
    | [], _, h => simp at h
    | [a], _, h => simp at h
    | a :: b :: r, hr, h =>
      simp only [List.length_cons] at hr h
      rw [pksP]
      cases k with
      | zero => simp
      | succ k =>
        rw [List.getElem?_cons_succ, ih r (by omega) k (by omega)]
        rfl
theorem own_ne_blk {w : World} {base e size n c g t : Nat} {A : Option Addr} {xs : List Value} {cs : Array Value} (ho : Own w base e size A n c xs) (hb : Blk w g t cs) (hne : e ≠ t) : blkOf A ≠ some g := by
  intro hA
  rcases ho.2 with ⟨hv, _⟩ | ⟨g', cap, cur, hv, _, hg, _⟩
  · simp only [Value.slice.injEq] at hv
    rw [hv.1] at hA
    simp [blkOf] at hA
  · simp only [Value.slice.injEq] at hv
    obtain ⟨rfl, _, rfl⟩ := hv
    simp only [blkOf, Option.map_some, Option.some.injEq] at hA
    subst hA
    unfold Blk at hb
    rw [hg] at hb
    simp only [Option.some.injEq, Obj.cells.injEq] at hb
    exact hne hb.2.1
theorem El_i : El Try.prog 22 3 1 8 := El.mk' Try.underlying22 (z := .int .i64 0) (by kernel_rfl) rfl (by decide)
theorem ints_cat (a b : List Int) : ints (a ++ b) = ints a ++ ints b := by simp [ints]
set_option maxRecDepth 100000 in
set_option maxHeartbeats 16000000 in
theorem next_any (X : Nat → Prop) (A : Option Addr) (n c : Nat) (ts : List TT) (A2 : Option Addr) (n2 c2 : Nat) (ls : List TT) (w : World) (B : Int) (M : Nat) (h : RowX X w A n c ts) (h2 : RowX X w A2 n2 c2 ls) (hX : ∀ k, w.heap.size ≤ k → X k) (hn : n ≤ 600) (hn2 : n2 ≤ 300)
    (hB : ∀ t ∈ ts, 0 ≤ t.w ∧ t.w ≤ B) (hB2 : B ≤ 1000000000000000) (hM : ∀ t ∈ ts, t.s.length ≤ M) (hM2 : M ≤ 100000) :
    Calls Try.prog 25 #[.slice A n c, .slice A2 n2 c2] w fun e w' => ∃ A3 c3 ts3, e = .returned (.slice A3 (n / 2 + n2) c3) ∧ RowX X w' A3 (n / 2 + n2) c3 ts3 ∧ ts3.map TT.abs = nextP (ts.map TT.abs) (ls.map TT.abs) ∧ Below w.heap.size w w' := by
  have hl := rd_tlen h.rd
  have hl2 := rd_tlen h2.rd
  have HPL := Lib.hid (show (pksP (ts.map TT.abs)).length = n / 2 by rw [pksP_len, List.length_map, hl])
  have HXX := Lib.hid hX
  have HBB := Lib.hid hB
  have HMM := Lib.hid hM
  clear hX hB hM
  go_enter Try.func25, Try.ntmps25
  go_wp2_with fail
  go_loopw [5, 6] (fun out i wr => ∃ (k i' c3 : Nat) (A3 : Option Addr) (ts3 : List TT), i = .int .i64 i' ∧ i' ≤ 2 * k ∧ 2 * k ≤ i' ∧ out = .slice A3 k c3 ∧ i' ≤ n ∧ RowX X wr A3 k c3 ts3 ∧ ts3.map TT.abs = putsP ((pksP (ts.map TT.abs)).take k) [] ∧ Below w.heap.size w wr) (fun _ i _ => n - (intOf i).toNat)
  case atStart => exact ⟨0, 0, 0, none, [], rfl, by omega, by omega, rfl, by omega, RowX.nil _ _, rfl, Below.refl _ _⟩
  case round =>
    obtain ⟨k, i, c3, A3, ts3, rfl, hik1, hik2, rfl, hi, R3, hT, HB⟩ := hrel
    have HT := Lib.hid hT
    have hsz := HB.size
    have hr := h.below HB
    clear hT
    by_cases hlt : i + 1 < n
    · have hil : i < ts.length := by omega
      have hil2 : i + 1 < ts.length := by omega
      obtain ⟨b, o, rfl, hbb, hcc⟩ := rd_tcells hr.rd (by omega)
      obtain ⟨d0, d1, -⟩ := hcc i hil
      obtain ⟨d3, d4, -⟩ := hcc (i + 1) hil2
      have s1 := hr.sym _ (List.getElem_mem hil)
      have s2 := hr.sym _ (List.getElem_mem hil2)
      have w1 := HBB.out _ (List.getElem_mem hil)
      have w2 := HBB.out _ (List.getElem_mem hil2)
      have m1 := HMM.out _ (List.getElem_mem hil)
      have m2 := HMM.out _ (List.getElem_mem hil2)
      have HPG := Lib.hid (show (pksP (ts.map TT.abs)).take (k + 1) = (pksP (ts.map TT.abs)).take k ++ [(ts[i].w + ts[i + 1].w, ts[i].s ++ ts[i + 1].s, false)] by
        have hk : i = 2 * k := by omega
        subst hk
        rw [List.take_add_one, pksP_get _ k (by rw [List.length_map]; omega)]
        simp [TT.abs])
      obtain ⟨x, hx⟩ : ∃ x, ts[i] = x := ⟨_, rfl⟩
      obtain ⟨y, hy⟩ : ∃ y, ts[i + 1] = y := ⟨_, rfl⟩
      rw [hx] at d0 d1 s1 w1 m1 HPG
      rw [hy] at d3 d4 s2 w2 m2 HPG
      obtain ⟨xw, xA, xn, xc, xl, xs⟩ := x
      obtain ⟨yw, yA, yn, yc, yl, ys⟩ := y
      dsimp only at d0 d1 d3 d4 w1 w2 m1 m2 HPG
      have C0 := Lib.hid (And.intro (And.intro d0 d1) (And.intro d3 d4))
      have r1 : Rd wr wr.heap.size 1 xA xn (ints xs) := s1.rd
      have r2 : Rd wr wr.heap.size 1 yA yn (ints ys) := s2.rd
      have hxn : xs.length = xn := rd_len r1
      have hyn : ys.length = yn := rd_len r2
      have hx6 : xn ≤ 100000 := by omega
      have hy6 : yn ≤ 100000 := by omega
      have HXN := Lib.hid hxn
      have HYN := Lib.hid hyn
      have hww : IntKind.i64.wrap (xw + yw) = xw + yw := w64k (by omega) (by omega)
      have hi0 : (0 : Int) ≤ (i : Int) := by omega
      have hi1 : (0 : Int) ≤ (i : Int) + 1 := by omega
      have hi2 : (i : Int) + 1 < (n : Int) := by omega
      have hi3 : (i : Int) < (n : Int) := by omega
      have hadd : IntKind.i64.wrap ((i : Int) + 1) = (i : Int) + 1 := w64k (by omega) (by omega)
      have hadd2 : IntKind.i64.wrap ((i : Int) + 2) = (i : Int) + 2 := w64k (by omega) (by omega)
      have HW := Below.refl wr.heap.size wr
      have HR := Lib.hid hr
      clear hcc hx hy d0 d1 d3 d4 s1 s2 w1 w2 m1 m2 hxn hyn hr
      go_wp2_with fail
      refine wp_region_held_drew (S := (fun w' => (w'.cell? ⟨b, o + i * 3, none⟩ = some (.int .i64 xw) ∧ w'.cell? ⟨b, o + i * 3 + 1, none⟩ = some (.slice xA xn xc)) ∧ (w'.cell? ⟨b, o + (i + 1) * 3, none⟩ = some (.int .i64 yw) ∧ w'.cell? ⟨b, o + (i + 1) * 3 + 1, none⟩ = some (.slice yA yn yc)))) (by kernel_rfl) ?_ (fun hHeld => ?_)
      · replace HW := Below.drew HW; replace r1 := Rd.drew r1; replace r2 := Rd.drew r2; (try dsimp only); exact ⟨⟨(HW.cell hbb).trans C0.out.1.1, (HW.cell hbb).trans C0.out.1.2⟩, ⟨(HW.cell hbb).trans C0.out.2.1, (HW.cell hbb).trans C0.out.2.2⟩⟩
      replace HW := Below.drew HW
      replace r1 := Rd.drew r1
      replace r2 := Rd.drew r2
      have zHW := HW.size
      refine take_movev (v := ?vu1x0) 0 (Operand.tmp 0) rfl rfl (by first | exact .inl rfl | exact .inr rfl) rfl (by kernel_rfl) (by kernel_rfl) (by kernel_rfl) (fun _ _ _ h => h) (by assumption) ?yu1x0 ?ru1x0
      case yu1x0 => (go_simp; try (with_reducible rfl))
      simp only [List.setIfInBounds_toArray, List.set_cons_zero, List.set_cons_succ]
      refine take_movev (v := ?vu1x1) 1 (Operand.tmp 6) rfl rfl (by first | exact .inl rfl | exact .inr rfl) rfl (by kernel_rfl) (by kernel_rfl) (by kernel_rfl) (fun _ _ _ h => h) (by assumption) ?yu1x1 ?ru1x1
      case yu1x1 => (go_simp; try (with_reducible rfl))
      simp only [List.setIfInBounds_toArray, List.set_cons_zero, List.set_cons_succ]
      refine take_op (v := ?vu1x2) 2 (Op.indexAddr 44 (Operand.tmp 16) (Operand.tmp 17)) 0 rfl rfl rfl rfl rfl (by kernel_rfl) (by kernel_rfl) (by kernel_rfl) (fun _ _ _ h => h) ?yu1x2 (by assumption) ?ru1x2
      case yu1x2 => (intro w' hSw; (try dsimp only at hSw); go_simp; try (with_reducible rfl))
      simp only [List.setIfInBounds_toArray, List.set_cons_zero, List.set_cons_succ]
      refine take_op (v := ?vu1x3) 3 (Op.fieldAddr 48 (Operand.tmp 18) 0) 0 rfl rfl rfl rfl rfl (by kernel_rfl) (by kernel_rfl) (by kernel_rfl) (fun _ _ _ h => h) ?yu1x3 (by assumption) ?ru1x3
      case yu1x3 => (intro w' hSw; (try dsimp only at hSw); go_simp; try (with_reducible rfl))
      simp only [List.setIfInBounds_toArray, List.set_cons_zero, List.set_cons_succ]
      refine take_op (v := ?vu1x4) 4 (Op.load 3 (Operand.tmp 19)) 3 rfl rfl rfl rfl rfl (by kernel_rfl) (by kernel_rfl) (by kernel_rfl) (fun _ _ _ h => h) ?yu1x4 (by assumption) ?ru1x4
      case yu1x4 => (intro w' hSw; (try dsimp only at hSw); go_simp; try (with_reducible rfl))
      simp only [List.setIfInBounds_toArray, List.set_cons_zero, List.set_cons_succ]
      refine take_movev (v := ?vu1x5) 5 (Operand.tmp 0) rfl rfl (by first | exact .inl rfl | exact .inr rfl) rfl (by kernel_rfl) (by kernel_rfl) (by kernel_rfl) (fun _ _ _ h => h) (by assumption) ?yu1x5 ?ru1x5
      case yu1x5 => (go_simp; try (with_reducible rfl))
      simp only [List.setIfInBounds_toArray, List.set_cons_zero, List.set_cons_succ]
      refine take_movev (v := ?vu1x6) 6 (Operand.tmp 6) rfl rfl (by first | exact .inl rfl | exact .inr rfl) rfl (by kernel_rfl) (by kernel_rfl) (by kernel_rfl) (fun _ _ _ h => h) (by assumption) ?yu1x6 ?ru1x6
      case yu1x6 => (go_simp; try (with_reducible rfl))
      simp only [List.setIfInBounds_toArray, List.set_cons_zero, List.set_cons_succ]
      refine take_op (v := ?vu1x7) 7 (Op.binOp BinOp.add 3 (Operand.tmp 22) (Operand.const (Value.int IntKind.i64 1)) 3) 3 rfl rfl rfl rfl rfl (by kernel_rfl) (by kernel_rfl) (by kernel_rfl) (fun _ _ _ h => h) ?yu1x7 (by assumption) ?ru1x7
      case yu1x7 => (intro w' hSw; (try dsimp only at hSw); go_simp; try (with_reducible rfl))
      simp only [List.setIfInBounds_toArray, List.set_cons_zero, List.set_cons_succ]
      refine take_op (v := ?vu1x8) 8 (Op.indexAddr 44 (Operand.tmp 21) (Operand.tmp 23)) 0 rfl rfl rfl rfl rfl (by kernel_rfl) (by kernel_rfl) (by kernel_rfl) (fun _ _ _ h => h) ?yu1x8 (by assumption) ?ru1x8
      case yu1x8 => (intro w' hSw; (try dsimp only at hSw); go_simp; try (with_reducible rfl))
      simp only [List.setIfInBounds_toArray, List.set_cons_zero, List.set_cons_succ]
      refine take_op (v := ?vu1x9) 9 (Op.fieldAddr 48 (Operand.tmp 24) 0) 0 rfl rfl rfl rfl rfl (by kernel_rfl) (by kernel_rfl) (by kernel_rfl) (fun _ _ _ h => h) ?yu1x9 (by assumption) ?ru1x9
      case yu1x9 => (intro w' hSw; (try dsimp only at hSw); go_simp; try (with_reducible rfl))
      simp only [List.setIfInBounds_toArray, List.set_cons_zero, List.set_cons_succ]
      refine take_op (v := ?vu1x10) 10 (Op.load 3 (Operand.tmp 25)) 3 rfl rfl rfl rfl rfl (by kernel_rfl) (by kernel_rfl) (by kernel_rfl) (fun _ _ _ h => h) ?yu1x10 (by assumption) ?ru1x10
      case yu1x10 => (intro w' hSw; (try dsimp only at hSw); go_simp; try (with_reducible rfl))
      simp only [List.setIfInBounds_toArray, List.set_cons_zero, List.set_cons_succ]
      refine take_op (v := ?vu1x11) 11 (Op.binOp BinOp.add 3 (Operand.tmp 20) (Operand.tmp 26) 3) 3 rfl rfl rfl rfl rfl (by kernel_rfl) (by kernel_rfl) (by kernel_rfl) (fun _ _ _ h => h) ?yu1x11 (by assumption) ?ru1x11
      case yu1x11 => (intro w' hSw; (try dsimp only at hSw); go_simp; try (with_reducible rfl))
      simp only [List.setIfInBounds_toArray, List.set_cons_zero, List.set_cons_succ]
      refine take_movev (v := ?vu1x13) 13 (Operand.tmp 0) rfl rfl (by first | exact .inl rfl | exact .inr rfl) rfl (by kernel_rfl) (by kernel_rfl) (by kernel_rfl) (fun _ _ _ h => h) (by assumption) ?yu1x13 ?ru1x13
      case yu1x13 => (go_simp; try (with_reducible rfl))
      simp only [List.setIfInBounds_toArray, List.set_cons_zero, List.set_cons_succ]
      refine take_movev (v := ?vu1x14) 14 (Operand.tmp 6) rfl rfl (by first | exact .inl rfl | exact .inr rfl) rfl (by kernel_rfl) (by kernel_rfl) (by kernel_rfl) (fun _ _ _ h => h) (by assumption) ?yu1x14 ?ru1x14
      case yu1x14 => (go_simp; try (with_reducible rfl))
      simp only [List.setIfInBounds_toArray, List.set_cons_zero, List.set_cons_succ]
      refine take_op (v := ?vu1x15) 15 (Op.indexAddr 44 (Operand.tmp 29) (Operand.tmp 30)) 0 rfl rfl rfl rfl rfl (by kernel_rfl) (by kernel_rfl) (by kernel_rfl) (fun _ _ _ h => h) ?yu1x15 (by assumption) ?ru1x15
      case yu1x15 => (intro w' hSw; (try dsimp only at hSw); go_simp; try (with_reducible rfl))
      simp only [List.setIfInBounds_toArray, List.set_cons_zero, List.set_cons_succ]
      refine take_op (v := ?vu1x16) 16 (Op.fieldAddr 48 (Operand.tmp 31) 1) 0 rfl rfl rfl rfl rfl (by kernel_rfl) (by kernel_rfl) (by kernel_rfl) (fun _ _ _ h => h) ?yu1x16 (by assumption) ?ru1x16
      case yu1x16 => (intro w' hSw; (try dsimp only at hSw); go_simp; try (with_reducible rfl))
      simp only [List.setIfInBounds_toArray, List.set_cons_zero, List.set_cons_succ]
      refine take_op (v := ?vu1x17) 17 (Op.load 22 (Operand.tmp 32)) 22 rfl rfl rfl rfl rfl (by kernel_rfl) (by kernel_rfl) (by kernel_rfl) (fun _ _ _ h => h) ?yu1x17 (by assumption) ?ru1x17
      case yu1x17 => (intro w' hSw; (try dsimp only at hSw); go_simp; try (with_reducible rfl))
      simp only [List.setIfInBounds_toArray, List.set_cons_zero, List.set_cons_succ]
      refine take_movev (v := ?vu1x19) 19 (Operand.tmp 0) rfl rfl (by first | exact .inl rfl | exact .inr rfl) rfl (by kernel_rfl) (by kernel_rfl) (by kernel_rfl) (fun _ _ _ h => h) (by assumption) ?yu1x19 ?ru1x19
      case yu1x19 => (go_simp; try (with_reducible rfl))
      simp only [List.setIfInBounds_toArray, List.set_cons_zero, List.set_cons_succ]
      refine take_movev (v := ?vu1x20) 20 (Operand.tmp 6) rfl rfl (by first | exact .inl rfl | exact .inr rfl) rfl (by kernel_rfl) (by kernel_rfl) (by kernel_rfl) (fun _ _ _ h => h) (by assumption) ?yu1x20 ?ru1x20
      case yu1x20 => (go_simp; try (with_reducible rfl))
      simp only [List.setIfInBounds_toArray, List.set_cons_zero, List.set_cons_succ]
      refine take_op (v := ?vu1x21) 21 (Op.binOp BinOp.add 3 (Operand.tmp 36) (Operand.const (Value.int IntKind.i64 1)) 3) 3 rfl rfl rfl rfl rfl (by kernel_rfl) (by kernel_rfl) (by kernel_rfl) (fun _ _ _ h => h) ?yu1x21 (by assumption) ?ru1x21
      case yu1x21 => (intro w' hSw; (try dsimp only at hSw); go_simp; try (with_reducible rfl))
      simp only [List.setIfInBounds_toArray, List.set_cons_zero, List.set_cons_succ]
      refine take_op (v := ?vu1x22) 22 (Op.indexAddr 44 (Operand.tmp 35) (Operand.tmp 37)) 0 rfl rfl rfl rfl rfl (by kernel_rfl) (by kernel_rfl) (by kernel_rfl) (fun _ _ _ h => h) ?yu1x22 (by assumption) ?ru1x22
      case yu1x22 => (intro w' hSw; (try dsimp only at hSw); go_simp; try (with_reducible rfl))
      simp only [List.setIfInBounds_toArray, List.set_cons_zero, List.set_cons_succ]
      refine take_op (v := ?vu1x23) 23 (Op.fieldAddr 48 (Operand.tmp 38) 1) 0 rfl rfl rfl rfl rfl (by kernel_rfl) (by kernel_rfl) (by kernel_rfl) (fun _ _ _ h => h) ?yu1x23 (by assumption) ?ru1x23
      case yu1x23 => (intro w' hSw; (try dsimp only at hSw); go_simp; try (with_reducible rfl))
      simp only [List.setIfInBounds_toArray, List.set_cons_zero, List.set_cons_succ]
      refine take_op (v := ?vu1x24) 24 (Op.load 22 (Operand.tmp 39)) 22 rfl rfl rfl rfl rfl (by kernel_rfl) (by kernel_rfl) (by kernel_rfl) (fun _ _ _ h => h) ?yu1x24 (by assumption) ?ru1x24
      case yu1x24 => (intro w' hSw; (try dsimp only at hSw); go_simp; try (with_reducible rfl))
      simp only [List.setIfInBounds_toArray, List.set_cons_zero, List.set_cons_succ]
      refine wpAnyH_ready (rs := [12, 27]) (by kernel_rfl) (by simp) (AllReadyH.cons rfl (fun K12 hK12 => ?ku1x12) (AllReadyH.cons rfl (fun K27 hK27 => ?ku1x27) AllReadyH.nil))
      case ku1x12 =>
        refine take_build (e := 3) (len := 0) (size := 1) (wr.heap.size) (([] : List Value)) 12 (Op.buildSlice 22 0 #[]) 22 rfl rfl rfl (by kernel_rfl) ?eu1xb1x12 (by rfl) (by decide) (by first | exact Nat.le_refl _ | (simp only [World.size_alloc, World.size_setCell, World.size_drew] at *; omega) | omega) ?_
        case eu1xb1x12 => (go_simp; try (first | with_reducible rfl | (simp [rcells, rcell]; done) | (simp [fcells]; done) | (simp [tcells]; done) | rfl))
        intro gx12 w12 o12 gr12 l12 m12
        have z12 := gr12.size
        try simp only [World.size_drew] at z12
        replace HW := below_grow HW gr12
        have zHW12 := HW.size
        replace r1 := Rd.grow0 r1 gr12 (by first | exact Nat.le_refl _ | (simp only [World.size_alloc, World.size_setCell, World.size_drew] at *; omega) | omega)
        replace r2 := Rd.grow0 r2 gr12 (by first | exact Nat.le_refl _ | (simp only [World.size_alloc, World.size_setCell, World.size_drew] at *; omega) | omega)
        refine hK12.out _ _ ?su1xb1x12 (fun hHeld => ?ru1xb1x12)
        case su1xb1x12 => ((try dsimp only); exact ⟨⟨(HW.cell hbb).trans C0.out.1.1, (HW.cell hbb).trans C0.out.1.2⟩, ⟨(HW.cell hbb).trans C0.out.2.1, (HW.cell hbb).trans C0.out.2.2⟩⟩)
        try simp only [List.setIfInBounds_toArray, List.set_cons_zero, List.set_cons_succ]
        refine wpAnyH_ready (rs := [18, 27]) (by kernel_rfl) (by simp) (AllReadyH.cons rfl (fun K18 hK18 => ?ku1xb1x18) (AllReadyH.cons rfl (fun K27 hK27 => ?ku1xb1x27) AllReadyH.nil))
        case ku1xb1x18 =>
          refine take_app El_i 18 (Operand.tmp 28) (Operand.tmp 33) 22 rfl rfl rfl (by kernel_rfl) o12 rfl (r1) rfl (ints_one _) (by unfold maxLen; omega) (by omega) (by first | exact Nat.le_refl _ | (simp only [World.size_alloc, World.size_setCell, World.size_drew] at *; omega) | omega) ?_
          intro A18 c18 w18 o18 gr18 at18
          have z18 := gr18.size
          try simp only [World.size_drew] at z18
          replace HW := below_grown HW gr18 o12 (by first | exact Nat.le_refl _ | (simp only [World.size_alloc, World.size_setCell, World.size_drew] at *; omega) | omega)
          have zHW18 := HW.size
          replace r1 := Rd.grownOwn r1 gr18 o12 (by first | exact Nat.le_refl _ | (simp only [World.size_alloc, World.size_setCell, World.size_drew] at *; omega) | omega) (by first | exact Nat.le_refl _ | (simp only [World.size_alloc, World.size_setCell, World.size_drew] at *; omega) | omega)
          replace r2 := Rd.grownOwn r2 gr18 o12 (by first | exact Nat.le_refl _ | (simp only [World.size_alloc, World.size_setCell, World.size_drew] at *; omega) | omega) (by first | exact Nat.le_refl _ | (simp only [World.size_alloc, World.size_setCell, World.size_drew] at *; omega) | omega)
          refine hK18.out _ _ ?su1xb1xb2x18 (fun hHeld => ?ru1xb1xb2x18)
          case su1xb1xb2x18 => ((try dsimp only); exact ⟨⟨(HW.cell hbb).trans C0.out.1.1, (HW.cell hbb).trans C0.out.1.2⟩, ⟨(HW.cell hbb).trans C0.out.2.1, (HW.cell hbb).trans C0.out.2.2⟩⟩)
          try simp only [List.setIfInBounds_toArray, List.set_cons_zero, List.set_cons_succ]
          refine wpAnyH_ready (rs := [25, 27]) (by kernel_rfl) (by simp) (AllReadyH.cons rfl (fun K25 hK25 => ?ku1xb1xb2x25) (AllReadyH.cons rfl (fun K27 hK27 => ?ku1xb1xb2x27) AllReadyH.nil))
          case ku1xb1xb2x25 =>
            refine take_app El_i 25 (Operand.tmp 34) (Operand.tmp 40) 22 rfl rfl rfl (by kernel_rfl) o18 rfl (r2) rfl (ints_one _) (by unfold maxLen; omega) (by omega) (by first | exact Nat.le_refl _ | (simp only [World.size_alloc, World.size_setCell, World.size_drew] at *; omega) | omega) ?_
            intro A25 c25 w25 o25 gr25 at25
            have z25 := gr25.size
            try simp only [World.size_drew] at z25
            replace HW := below_grown HW gr25 o18 (by first | exact Nat.le_refl _ | (simp only [World.size_alloc, World.size_setCell, World.size_drew] at *; omega) | omega)
            have zHW25 := HW.size
            replace r1 := Rd.grownOwn r1 gr25 o18 (by first | exact Nat.le_refl _ | (simp only [World.size_alloc, World.size_setCell, World.size_drew] at *; omega) | omega) (by first | exact Nat.le_refl _ | (simp only [World.size_alloc, World.size_setCell, World.size_drew] at *; omega) | omega)
            replace r2 := Rd.grownOwn r2 gr25 o18 (by first | exact Nat.le_refl _ | (simp only [World.size_alloc, World.size_setCell, World.size_drew] at *; omega) | omega) (by first | exact Nat.le_refl _ | (simp only [World.size_alloc, World.size_setCell, World.size_drew] at *; omega) | omega)
            refine hK25.out _ _ ?su1xb1xb2xb3x25 (fun hHeld => ?ru1xb1xb2xb3x25)
            case su1xb1xb2xb3x25 => ((try dsimp only); exact ⟨⟨(HW.cell hbb).trans C0.out.1.1, (HW.cell hbb).trans C0.out.1.2⟩, ⟨(HW.cell hbb).trans C0.out.2.1, (HW.cell hbb).trans C0.out.2.2⟩⟩)
            try simp only [List.setIfInBounds_toArray, List.set_cons_zero, List.set_cons_succ]
            refine take_op (v := ?vu1xb1xb2xb3x26) 26 (Op.build 48 #[(0, Operand.tmp 27), (1, Operand.tmp 41)]) 48 rfl rfl rfl rfl rfl (by kernel_rfl) (by kernel_rfl) (by kernel_rfl) (fun _ _ _ h => h) ?yu1xb1xb2xb3x26 (by assumption) ?ru1xb1xb2xb3x26
            case yu1xb1xb2xb3x26 => (intro w' hSw; (try dsimp only at hSw); go_simp; try (with_reducible rfl))
            simp only [List.setIfInBounds_toArray, List.set_cons_zero, List.set_cons_succ]
            refine wpAnyH_ready (rs := [27]) (by kernel_rfl) (by simp) (AllReadyH.cons rfl (fun K27 hK27 => ?ku1xb1xb2xb3x27) AllReadyH.nil)
            refine take_new (t := 48) (cs := #[.int .i64 0, .slice none 0 0, .bool false]) 27 (Op.alloc 48) 0 rfl rfl rfl (by kernel_rfl) ?eu1xb1xb2xb3x27 ?_
            case eu1xb1xb2xb3x27 => (go_simp; try (first | with_reducible rfl | rfl))
            intro g27 w27 b27 gr27 l27 m27
            have z27 := gr27.size
            try simp only [World.size_drew] at z27
            try simp only [World.size_drew, World.size_alloc] at l27
            replace HW := below_grow HW gr27
            have zHW27 := HW.size
            replace r1 := Rd.grow0 r1 gr27 (by first | exact Nat.le_refl _ | (simp only [World.size_alloc, World.size_setCell, World.size_drew] at *; omega) | omega)
            replace r2 := Rd.grow0 r2 gr27 (by first | exact Nat.le_refl _ | (simp only [World.size_alloc, World.size_setCell, World.size_drew] at *; omega) | omega)
            replace o25 := Own.grow0 o25 gr27
            refine hK27.out _ _ ?su1xb1xb2xb3x27 (fun hHeld => ?ru1xb1xb2xb3x27)
            case su1xb1xb2xb3x27 => ((try dsimp only); exact ⟨⟨(HW.cell hbb).trans C0.out.1.1, (HW.cell hbb).trans C0.out.1.2⟩, ⟨(HW.cell hbb).trans C0.out.2.1, (HW.cell hbb).trans C0.out.2.2⟩⟩)
            try simp only [List.setIfInBounds_toArray, List.set_cons_zero, List.set_cons_succ]
            refine wpAnyH_ready (rs := [28]) (by kernel_rfl) (by simp) (AllReadyH.cons rfl (fun K28 hK28 => ?ku1xb1xb2xb3x28) AllReadyH.nil)
            refine take_store 28 (Op.store 48 (Operand.tmp 7) (Operand.tmp 42)) 0 rfl rfl rfl (by kernel_rfl) (w' := ((w27.setCell ⟨g27, 0, none⟩ (.int .i64 (xw + yw))).setCell ⟨g27, 1, none⟩ (.slice A25 (0 + xn + yn) c25)).setCell ⟨g27, 2, none⟩ (.bool false)) (by obtain ⟨k0, k1, k2, f0, f1, f2, _⟩ := blk3 b27; go_simp; try (with_reducible rfl)) ?_
            refine hK28.out _ _ ((fun (HW' : Below wr.heap.size wr _) => ⟨⟨(HW'.cell hbb).trans C0.out.1.1, (HW'.cell hbb).trans C0.out.1.2⟩, ⟨(HW'.cell hbb).trans C0.out.2.1, (HW'.cell hbb).trans C0.out.2.2⟩⟩) (((HW.setCell (p := ⟨g27, 0, none⟩) (by dsimp only; omega) (.int .i64 (xw + yw))).setCell (p := ⟨g27, 1, none⟩) (by dsimp only; omega) (.slice A25 (0 + xn + yn) c25)).setCell (p := ⟨g27, 2, none⟩) (by dsimp only; omega) (.bool false))) (fun hHeld => ?_)
            have hnb := own_ne_blk o25 b27 (by decide)
            replace o25 := ((o25.far (p := ⟨g27, 0, none⟩) hnb (.int .i64 (xw + yw))).far (p := ⟨g27, 1, none⟩) hnb (.slice A25 (0 + xn + yn) c25)).far (p := ⟨g27, 2, none⟩) hnb (.bool false)
            replace b27 := ((b27.set 0 (.int .i64 (xw + yw))).set 1 (.slice A25 (0 + xn + yn) c25)).set 2 (.bool false)
            replace HW := ((HW.setCell (p := ⟨g27, 0, none⟩) (by dsimp only; omega) (.int .i64 (xw + yw))).setCell (p := ⟨g27, 1, none⟩) (by dsimp only; omega) (.slice A25 (0 + xn + yn) c25)).setCell (p := ⟨g27, 2, none⟩) (by dsimp only; omega) (.bool false)
            generalize (((w27.setCell ⟨g27, 0, none⟩ (.int .i64 (xw + yw))).setCell ⟨g27, 1, none⟩ (.slice A25 (0 + xn + yn) c25)).setCell ⟨g27, 2, none⟩ (.bool false)) = wz at *
            refine wpAnyH_done (by kernel_rfl) ?_ _
            clear hHeld
            have hzz := HW.size
            have b28 : Blk wz g27 48 #[.int .i64 (xw + yw), .slice A25 (xn + yn) c25, .bool false] := by simpa using b27
            have e0 := b28.cell_ 0 rfl
            have e1 := b28.cell_ 1 rfl
            have e2 := b28.cell_ 2 rfl
            have o26 : Own wz wr.heap.size 3 1 A25 (xn + yn) c25 (ints (xs ++ ys)) := by rw [ints_cat]; simpa using o25
            have hSx : SymX X wz ⟨xw + yw, A25, xn + yn, c25, false, xs ++ ys⟩ := ⟨o26.rd, o26.cap, fun k' hk' => ⟨(o26.blk k' hk').2, HXX.out _ (Nat.le_trans hsz (o26.blk k' hk').1)⟩⟩
            have C := put_row X A3 k c3 ts3 ⟨xw + yw, A25, xn + yn, c25, false, xs ++ ys⟩ wz (R3.below HW) hSx (fun k' hk' => HXX.out _ (by omega)) (by omega)
            unfold TT.val at C
            dsimp only at C
            have HC := Lib.hid C
            have HW2 := HW
            clear C hSx o26 o25 b28 b27
            go_wp2_with fail
            refine HC.out.mono ?_
            rintro e w4 ⟨A4, c4, rfl, R4, hb4⟩
            have HB4 := HB.trans ((HW2.trans (hb4.mono HW2.size)).mono hsz)
            go_wp2_with fail
            go_roundw
            case rel => exact ⟨k + 1, i + 2, c4, A4, _, by go_num, by omega, by omega, rfl, by omega, R4, by rw [put_abs, HT.out, HPG.out, putsP_snoc]; rfl, HB4⟩
            case measure => simp [intOf]; omega
          case ku1xb1xb2x27 =>
            refine take_new (t := 48) (cs := #[.int .i64 0, .slice none 0 0, .bool false]) 27 (Op.alloc 48) 0 rfl rfl rfl (by kernel_rfl) ?eu1xb1xb2xb6x27 ?_
            case eu1xb1xb2xb6x27 => (go_simp; try (first | with_reducible rfl | rfl))
            intro g27 w27 b27 gr27 l27 m27
            have z27 := gr27.size
            try simp only [World.size_drew] at z27
            try simp only [World.size_drew, World.size_alloc] at l27
            replace HW := below_grow HW gr27
            have zHW27 := HW.size
            replace r1 := Rd.grow0 r1 gr27 (by first | exact Nat.le_refl _ | (simp only [World.size_alloc, World.size_setCell, World.size_drew] at *; omega) | omega)
            replace r2 := Rd.grow0 r2 gr27 (by first | exact Nat.le_refl _ | (simp only [World.size_alloc, World.size_setCell, World.size_drew] at *; omega) | omega)
            replace o18 := Own.grow0 o18 gr27
            refine hK27.out _ _ ?su1xb1xb2xb6x27 (fun hHeld => ?ru1xb1xb2xb6x27)
            case su1xb1xb2xb6x27 => ((try dsimp only); exact ⟨⟨(HW.cell hbb).trans C0.out.1.1, (HW.cell hbb).trans C0.out.1.2⟩, ⟨(HW.cell hbb).trans C0.out.2.1, (HW.cell hbb).trans C0.out.2.2⟩⟩)
            try simp only [List.setIfInBounds_toArray, List.set_cons_zero, List.set_cons_succ]
            refine wpAnyH_ready (rs := [25]) (by kernel_rfl) (by simp) (AllReadyH.cons rfl (fun K25 hK25 => ?ku1xb1xb2xb6x25) AllReadyH.nil)
            refine take_app El_i 25 (Operand.tmp 34) (Operand.tmp 40) 22 rfl rfl rfl (by kernel_rfl) o18 rfl (r2) rfl (ints_one _) (by unfold maxLen; omega) (by omega) (by first | exact Nat.le_refl _ | (simp only [World.size_alloc, World.size_setCell, World.size_drew] at *; omega) | omega) ?_
            intro A25 c25 w25 o25 gr25 at25
            have z25 := gr25.size
            try simp only [World.size_drew] at z25
            replace HW := below_grown HW gr25 o18 (by first | exact Nat.le_refl _ | (simp only [World.size_alloc, World.size_setCell, World.size_drew] at *; omega) | omega)
            have zHW25 := HW.size
            replace r1 := Rd.grownOwn r1 gr25 o18 (by first | exact Nat.le_refl _ | (simp only [World.size_alloc, World.size_setCell, World.size_drew] at *; omega) | omega) (by first | exact Nat.le_refl _ | (simp only [World.size_alloc, World.size_setCell, World.size_drew] at *; omega) | omega)
            replace r2 := Rd.grownOwn r2 gr25 o18 (by first | exact Nat.le_refl _ | (simp only [World.size_alloc, World.size_setCell, World.size_drew] at *; omega) | omega) (by first | exact Nat.le_refl _ | (simp only [World.size_alloc, World.size_setCell, World.size_drew] at *; omega) | omega)
            replace b27 := Blk.grown b27 gr25 (fun e => own_ne_blk o18 b27 (by decide) e.symm)
            refine hK25.out _ _ ?su1xb1xb2xb6x25 (fun hHeld => ?ru1xb1xb2xb6x25)
            case su1xb1xb2xb6x25 => ((try dsimp only); exact ⟨⟨(HW.cell hbb).trans C0.out.1.1, (HW.cell hbb).trans C0.out.1.2⟩, ⟨(HW.cell hbb).trans C0.out.2.1, (HW.cell hbb).trans C0.out.2.2⟩⟩)
            try simp only [List.setIfInBounds_toArray, List.set_cons_zero, List.set_cons_succ]
            refine take_op (v := ?vu1xb1xb2xb6x26) 26 (Op.build 48 #[(0, Operand.tmp 27), (1, Operand.tmp 41)]) 48 rfl rfl rfl rfl rfl (by kernel_rfl) (by kernel_rfl) (by kernel_rfl) (fun _ _ _ h => h) ?yu1xb1xb2xb6x26 (by assumption) ?ru1xb1xb2xb6x26
            case yu1xb1xb2xb6x26 => (intro w' hSw; (try dsimp only at hSw); go_simp; try (with_reducible rfl))
            simp only [List.setIfInBounds_toArray, List.set_cons_zero, List.set_cons_succ]
            refine wpAnyH_ready (rs := [28]) (by kernel_rfl) (by simp) (AllReadyH.cons rfl (fun K28 hK28 => ?ku1xb1xb2xb6x28) AllReadyH.nil)
            refine take_store 28 (Op.store 48 (Operand.tmp 7) (Operand.tmp 42)) 0 rfl rfl rfl (by kernel_rfl) (w' := ((w25.setCell ⟨g27, 0, none⟩ (.int .i64 (xw + yw))).setCell ⟨g27, 1, none⟩ (.slice A25 (0 + xn + yn) c25)).setCell ⟨g27, 2, none⟩ (.bool false)) (by obtain ⟨k0, k1, k2, f0, f1, f2, _⟩ := blk3 b27; go_simp; try (with_reducible rfl)) ?_
            refine hK28.out _ _ ((fun (HW' : Below wr.heap.size wr _) => ⟨⟨(HW'.cell hbb).trans C0.out.1.1, (HW'.cell hbb).trans C0.out.1.2⟩, ⟨(HW'.cell hbb).trans C0.out.2.1, (HW'.cell hbb).trans C0.out.2.2⟩⟩) (((HW.setCell (p := ⟨g27, 0, none⟩) (by dsimp only; omega) (.int .i64 (xw + yw))).setCell (p := ⟨g27, 1, none⟩) (by dsimp only; omega) (.slice A25 (0 + xn + yn) c25)).setCell (p := ⟨g27, 2, none⟩) (by dsimp only; omega) (.bool false))) (fun hHeld => ?_)
            have hnb := own_ne_blk o25 b27 (by decide)
            replace o25 := ((o25.far (p := ⟨g27, 0, none⟩) hnb (.int .i64 (xw + yw))).far (p := ⟨g27, 1, none⟩) hnb (.slice A25 (0 + xn + yn) c25)).far (p := ⟨g27, 2, none⟩) hnb (.bool false)
            replace b27 := ((b27.set 0 (.int .i64 (xw + yw))).set 1 (.slice A25 (0 + xn + yn) c25)).set 2 (.bool false)
            replace HW := ((HW.setCell (p := ⟨g27, 0, none⟩) (by dsimp only; omega) (.int .i64 (xw + yw))).setCell (p := ⟨g27, 1, none⟩) (by dsimp only; omega) (.slice A25 (0 + xn + yn) c25)).setCell (p := ⟨g27, 2, none⟩) (by dsimp only; omega) (.bool false)
            generalize (((w25.setCell ⟨g27, 0, none⟩ (.int .i64 (xw + yw))).setCell ⟨g27, 1, none⟩ (.slice A25 (0 + xn + yn) c25)).setCell ⟨g27, 2, none⟩ (.bool false)) = wz at *
            refine wpAnyH_done (by kernel_rfl) ?_ _
            clear hHeld
            have hzz := HW.size
            have b28 : Blk wz g27 48 #[.int .i64 (xw + yw), .slice A25 (xn + yn) c25, .bool false] := by simpa using b27
            have e0 := b28.cell_ 0 rfl
            have e1 := b28.cell_ 1 rfl
            have e2 := b28.cell_ 2 rfl
            have o26 : Own wz wr.heap.size 3 1 A25 (xn + yn) c25 (ints (xs ++ ys)) := by rw [ints_cat]; simpa using o25
            have hSx : SymX X wz ⟨xw + yw, A25, xn + yn, c25, false, xs ++ ys⟩ := ⟨o26.rd, o26.cap, fun k' hk' => ⟨(o26.blk k' hk').2, HXX.out _ (Nat.le_trans hsz (o26.blk k' hk').1)⟩⟩
            have C := put_row X A3 k c3 ts3 ⟨xw + yw, A25, xn + yn, c25, false, xs ++ ys⟩ wz (R3.below HW) hSx (fun k' hk' => HXX.out _ (by omega)) (by omega)
            unfold TT.val at C
            dsimp only at C
            have HC := Lib.hid C
            have HW2 := HW
            clear C hSx o26 o25 b28 b27
            go_wp2_with fail
            refine HC.out.mono ?_
            rintro e w4 ⟨A4, c4, rfl, R4, hb4⟩
            have HB4 := HB.trans ((HW2.trans (hb4.mono HW2.size)).mono hsz)
            go_wp2_with fail
            go_roundw
            case rel => exact ⟨k + 1, i + 2, c4, A4, _, by go_num, by omega, by omega, rfl, by omega, R4, by rw [put_abs, HT.out, HPG.out, putsP_snoc]; rfl, HB4⟩
            case measure => simp [intOf]; omega
        case ku1xb1x27 =>
          refine take_new (t := 48) (cs := #[.int .i64 0, .slice none 0 0, .bool false]) 27 (Op.alloc 48) 0 rfl rfl rfl (by kernel_rfl) ?eu1xb1xb9x27 ?_
          case eu1xb1xb9x27 => (go_simp; try (first | with_reducible rfl | rfl))
          intro g27 w27 b27 gr27 l27 m27
          have z27 := gr27.size
          try simp only [World.size_drew] at z27
          try simp only [World.size_drew, World.size_alloc] at l27
          replace HW := below_grow HW gr27
          have zHW27 := HW.size
          replace r1 := Rd.grow0 r1 gr27 (by first | exact Nat.le_refl _ | (simp only [World.size_alloc, World.size_setCell, World.size_drew] at *; omega) | omega)
          replace r2 := Rd.grow0 r2 gr27 (by first | exact Nat.le_refl _ | (simp only [World.size_alloc, World.size_setCell, World.size_drew] at *; omega) | omega)
          replace o12 := Own.grow0 o12 gr27
          refine hK27.out _ _ ?su1xb1xb9x27 (fun hHeld => ?ru1xb1xb9x27)
          case su1xb1xb9x27 => ((try dsimp only); exact ⟨⟨(HW.cell hbb).trans C0.out.1.1, (HW.cell hbb).trans C0.out.1.2⟩, ⟨(HW.cell hbb).trans C0.out.2.1, (HW.cell hbb).trans C0.out.2.2⟩⟩)
          try simp only [List.setIfInBounds_toArray, List.set_cons_zero, List.set_cons_succ]
          refine wpAnyH_ready (rs := [18]) (by kernel_rfl) (by simp) (AllReadyH.cons rfl (fun K18 hK18 => ?ku1xb1xb9x18) AllReadyH.nil)
          refine take_app El_i 18 (Operand.tmp 28) (Operand.tmp 33) 22 rfl rfl rfl (by kernel_rfl) o12 rfl (r1) rfl (ints_one _) (by unfold maxLen; omega) (by omega) (by first | exact Nat.le_refl _ | (simp only [World.size_alloc, World.size_setCell, World.size_drew] at *; omega) | omega) ?_
          intro A18 c18 w18 o18 gr18 at18
          have z18 := gr18.size
          try simp only [World.size_drew] at z18
          replace HW := below_grown HW gr18 o12 (by first | exact Nat.le_refl _ | (simp only [World.size_alloc, World.size_setCell, World.size_drew] at *; omega) | omega)
          have zHW18 := HW.size
          replace r1 := Rd.grownOwn r1 gr18 o12 (by first | exact Nat.le_refl _ | (simp only [World.size_alloc, World.size_setCell, World.size_drew] at *; omega) | omega) (by first | exact Nat.le_refl _ | (simp only [World.size_alloc, World.size_setCell, World.size_drew] at *; omega) | omega)
          replace r2 := Rd.grownOwn r2 gr18 o12 (by first | exact Nat.le_refl _ | (simp only [World.size_alloc, World.size_setCell, World.size_drew] at *; omega) | omega) (by first | exact Nat.le_refl _ | (simp only [World.size_alloc, World.size_setCell, World.size_drew] at *; omega) | omega)
          replace b27 := Blk.grown b27 gr18 (fun e => own_ne_blk o12 b27 (by decide) e.symm)
          refine hK18.out _ _ ?su1xb1xb9x18 (fun hHeld => ?ru1xb1xb9x18)
          case su1xb1xb9x18 => ((try dsimp only); exact ⟨⟨(HW.cell hbb).trans C0.out.1.1, (HW.cell hbb).trans C0.out.1.2⟩, ⟨(HW.cell hbb).trans C0.out.2.1, (HW.cell hbb).trans C0.out.2.2⟩⟩)
          try simp only [List.setIfInBounds_toArray, List.set_cons_zero, List.set_cons_succ]
          refine wpAnyH_ready (rs := [25]) (by kernel_rfl) (by simp) (AllReadyH.cons rfl (fun K25 hK25 => ?ku1xb1xb9x25) AllReadyH.nil)
          refine take_app El_i 25 (Operand.tmp 34) (Operand.tmp 40) 22 rfl rfl rfl (by kernel_rfl) o18 rfl (r2) rfl (ints_one _) (by unfold maxLen; omega) (by omega) (by first | exact Nat.le_refl _ | (simp only [World.size_alloc, World.size_setCell, World.size_drew] at *; omega) | omega) ?_
          intro A25 c25 w25 o25 gr25 at25
          have z25 := gr25.size
          try simp only [World.size_drew] at z25
          replace HW := below_grown HW gr25 o18 (by first | exact Nat.le_refl _ | (simp only [World.size_alloc, World.size_setCell, World.size_drew] at *; omega) | omega)
          have zHW25 := HW.size
          replace r1 := Rd.grownOwn r1 gr25 o18 (by first | exact Nat.le_refl _ | (simp only [World.size_alloc, World.size_setCell, World.size_drew] at *; omega) | omega) (by first | exact Nat.le_refl _ | (simp only [World.size_alloc, World.size_setCell, World.size_drew] at *; omega) | omega)
          replace r2 := Rd.grownOwn r2 gr25 o18 (by first | exact Nat.le_refl _ | (simp only [World.size_alloc, World.size_setCell, World.size_drew] at *; omega) | omega) (by first | exact Nat.le_refl _ | (simp only [World.size_alloc, World.size_setCell, World.size_drew] at *; omega) | omega)
          replace b27 := Blk.grown b27 gr25 (fun e => own_ne_blk o18 b27 (by decide) e.symm)
          refine hK25.out _ _ ?su1xb1xb9x25 (fun hHeld => ?ru1xb1xb9x25)
          case su1xb1xb9x25 => ((try dsimp only); exact ⟨⟨(HW.cell hbb).trans C0.out.1.1, (HW.cell hbb).trans C0.out.1.2⟩, ⟨(HW.cell hbb).trans C0.out.2.1, (HW.cell hbb).trans C0.out.2.2⟩⟩)
          try simp only [List.setIfInBounds_toArray, List.set_cons_zero, List.set_cons_succ]
          refine take_op (v := ?vu1xb1xb9x26) 26 (Op.build 48 #[(0, Operand.tmp 27), (1, Operand.tmp 41)]) 48 rfl rfl rfl rfl rfl (by kernel_rfl) (by kernel_rfl) (by kernel_rfl) (fun _ _ _ h => h) ?yu1xb1xb9x26 (by assumption) ?ru1xb1xb9x26
          case yu1xb1xb9x26 => (intro w' hSw; (try dsimp only at hSw); go_simp; try (with_reducible rfl))
          simp only [List.setIfInBounds_toArray, List.set_cons_zero, List.set_cons_succ]
          refine wpAnyH_ready (rs := [28]) (by kernel_rfl) (by simp) (AllReadyH.cons rfl (fun K28 hK28 => ?ku1xb1xb9x28) AllReadyH.nil)
          refine take_store 28 (Op.store 48 (Operand.tmp 7) (Operand.tmp 42)) 0 rfl rfl rfl (by kernel_rfl) (w' := ((w25.setCell ⟨g27, 0, none⟩ (.int .i64 (xw + yw))).setCell ⟨g27, 1, none⟩ (.slice A25 (0 + xn + yn) c25)).setCell ⟨g27, 2, none⟩ (.bool false)) (by obtain ⟨k0, k1, k2, f0, f1, f2, _⟩ := blk3 b27; go_simp; try (with_reducible rfl)) ?_
          refine hK28.out _ _ ((fun (HW' : Below wr.heap.size wr _) => ⟨⟨(HW'.cell hbb).trans C0.out.1.1, (HW'.cell hbb).trans C0.out.1.2⟩, ⟨(HW'.cell hbb).trans C0.out.2.1, (HW'.cell hbb).trans C0.out.2.2⟩⟩) (((HW.setCell (p := ⟨g27, 0, none⟩) (by dsimp only; omega) (.int .i64 (xw + yw))).setCell (p := ⟨g27, 1, none⟩) (by dsimp only; omega) (.slice A25 (0 + xn + yn) c25)).setCell (p := ⟨g27, 2, none⟩) (by dsimp only; omega) (.bool false))) (fun hHeld => ?_)
          have hnb := own_ne_blk o25 b27 (by decide)
          replace o25 := ((o25.far (p := ⟨g27, 0, none⟩) hnb (.int .i64 (xw + yw))).far (p := ⟨g27, 1, none⟩) hnb (.slice A25 (0 + xn + yn) c25)).far (p := ⟨g27, 2, none⟩) hnb (.bool false)
          replace b27 := ((b27.set 0 (.int .i64 (xw + yw))).set 1 (.slice A25 (0 + xn + yn) c25)).set 2 (.bool false)
          replace HW := ((HW.setCell (p := ⟨g27, 0, none⟩) (by dsimp only; omega) (.int .i64 (xw + yw))).setCell (p := ⟨g27, 1, none⟩) (by dsimp only; omega) (.slice A25 (0 + xn + yn) c25)).setCell (p := ⟨g27, 2, none⟩) (by dsimp only; omega) (.bool false)
          generalize (((w25.setCell ⟨g27, 0, none⟩ (.int .i64 (xw + yw))).setCell ⟨g27, 1, none⟩ (.slice A25 (0 + xn + yn) c25)).setCell ⟨g27, 2, none⟩ (.bool false)) = wz at *
          refine wpAnyH_done (by kernel_rfl) ?_ _
          clear hHeld
          have hzz := HW.size
          have b28 : Blk wz g27 48 #[.int .i64 (xw + yw), .slice A25 (xn + yn) c25, .bool false] := by simpa using b27
          have e0 := b28.cell_ 0 rfl
          have e1 := b28.cell_ 1 rfl
          have e2 := b28.cell_ 2 rfl
          have o26 : Own wz wr.heap.size 3 1 A25 (xn + yn) c25 (ints (xs ++ ys)) := by rw [ints_cat]; simpa using o25
          have hSx : SymX X wz ⟨xw + yw, A25, xn + yn, c25, false, xs ++ ys⟩ := ⟨o26.rd, o26.cap, fun k' hk' => ⟨(o26.blk k' hk').2, HXX.out _ (Nat.le_trans hsz (o26.blk k' hk').1)⟩⟩
          have C := put_row X A3 k c3 ts3 ⟨xw + yw, A25, xn + yn, c25, false, xs ++ ys⟩ wz (R3.below HW) hSx (fun k' hk' => HXX.out _ (by omega)) (by omega)
          unfold TT.val at C
          dsimp only at C
          have HC := Lib.hid C
          have HW2 := HW
          clear C hSx o26 o25 b28 b27
          go_wp2_with fail
          refine HC.out.mono ?_
          rintro e w4 ⟨A4, c4, rfl, R4, hb4⟩
          have HB4 := HB.trans ((HW2.trans (hb4.mono HW2.size)).mono hsz)
          go_wp2_with fail
          go_roundw
          case rel => exact ⟨k + 1, i + 2, c4, A4, _, by go_num, by omega, by omega, rfl, by omega, R4, by rw [put_abs, HT.out, HPG.out, putsP_snoc]; rfl, HB4⟩
          case measure => simp [intOf]; omega
      case ku1x27 =>
        refine take_new (t := 48) (cs := #[.int .i64 0, .slice none 0 0, .bool false]) 27 (Op.alloc 48) 0 rfl rfl rfl (by kernel_rfl) ?eu1xb13x27 ?_
        case eu1xb13x27 => (go_simp; try (first | with_reducible rfl | rfl))
        intro g27 w27 b27 gr27 l27 m27
        have z27 := gr27.size
        try simp only [World.size_drew] at z27
        try simp only [World.size_drew, World.size_alloc] at l27
        replace HW := below_grow HW gr27
        have zHW27 := HW.size
        replace r1 := Rd.grow0 r1 gr27 (by first | exact Nat.le_refl _ | (simp only [World.size_alloc, World.size_setCell, World.size_drew] at *; omega) | omega)
        replace r2 := Rd.grow0 r2 gr27 (by first | exact Nat.le_refl _ | (simp only [World.size_alloc, World.size_setCell, World.size_drew] at *; omega) | omega)
        refine hK27.out _ _ ?su1xb13x27 (fun hHeld => ?ru1xb13x27)
        case su1xb13x27 => ((try dsimp only); exact ⟨⟨(HW.cell hbb).trans C0.out.1.1, (HW.cell hbb).trans C0.out.1.2⟩, ⟨(HW.cell hbb).trans C0.out.2.1, (HW.cell hbb).trans C0.out.2.2⟩⟩)
        try simp only [List.setIfInBounds_toArray, List.set_cons_zero, List.set_cons_succ]
        refine wpAnyH_ready (rs := [12]) (by kernel_rfl) (by simp) (AllReadyH.cons rfl (fun K12 hK12 => ?ku1xb13x12) AllReadyH.nil)
        refine take_build (e := 3) (len := 0) (size := 1) (wr.heap.size) (([] : List Value)) 12 (Op.buildSlice 22 0 #[]) 22 rfl rfl rfl (by kernel_rfl) ?eu1xb13x12 (by rfl) (by decide) (by first | exact Nat.le_refl _ | (simp only [World.size_alloc, World.size_setCell, World.size_drew] at *; omega) | omega) ?_
        case eu1xb13x12 => (go_simp; try (first | with_reducible rfl | (simp [rcells, rcell]; done) | (simp [fcells]; done) | (simp [tcells]; done) | rfl))
        intro gx12 w12 o12 gr12 l12 m12
        have z12 := gr12.size
        try simp only [World.size_drew] at z12
        replace HW := below_grow HW gr12
        have zHW12 := HW.size
        replace r1 := Rd.grow0 r1 gr12 (by first | exact Nat.le_refl _ | (simp only [World.size_alloc, World.size_setCell, World.size_drew] at *; omega) | omega)
        replace r2 := Rd.grow0 r2 gr12 (by first | exact Nat.le_refl _ | (simp only [World.size_alloc, World.size_setCell, World.size_drew] at *; omega) | omega)
        replace b27 := Blk.grow0 b27 gr12
        refine hK12.out _ _ ?su1xb13x12 (fun hHeld => ?ru1xb13x12)
        case su1xb13x12 => ((try dsimp only); exact ⟨⟨(HW.cell hbb).trans C0.out.1.1, (HW.cell hbb).trans C0.out.1.2⟩, ⟨(HW.cell hbb).trans C0.out.2.1, (HW.cell hbb).trans C0.out.2.2⟩⟩)
        try simp only [List.setIfInBounds_toArray, List.set_cons_zero, List.set_cons_succ]
        refine wpAnyH_ready (rs := [18]) (by kernel_rfl) (by simp) (AllReadyH.cons rfl (fun K18 hK18 => ?ku1xb13x18) AllReadyH.nil)
        refine take_app El_i 18 (Operand.tmp 28) (Operand.tmp 33) 22 rfl rfl rfl (by kernel_rfl) o12 rfl (r1) rfl (ints_one _) (by unfold maxLen; omega) (by omega) (by first | exact Nat.le_refl _ | (simp only [World.size_alloc, World.size_setCell, World.size_drew] at *; omega) | omega) ?_
        intro A18 c18 w18 o18 gr18 at18
        have z18 := gr18.size
        try simp only [World.size_drew] at z18
        replace HW := below_grown HW gr18 o12 (by first | exact Nat.le_refl _ | (simp only [World.size_alloc, World.size_setCell, World.size_drew] at *; omega) | omega)
        have zHW18 := HW.size
        replace r1 := Rd.grownOwn r1 gr18 o12 (by first | exact Nat.le_refl _ | (simp only [World.size_alloc, World.size_setCell, World.size_drew] at *; omega) | omega) (by first | exact Nat.le_refl _ | (simp only [World.size_alloc, World.size_setCell, World.size_drew] at *; omega) | omega)
        replace r2 := Rd.grownOwn r2 gr18 o12 (by first | exact Nat.le_refl _ | (simp only [World.size_alloc, World.size_setCell, World.size_drew] at *; omega) | omega) (by first | exact Nat.le_refl _ | (simp only [World.size_alloc, World.size_setCell, World.size_drew] at *; omega) | omega)
        replace b27 := Blk.grown b27 gr18 (fun e => own_ne_blk o12 b27 (by decide) e.symm)
        refine hK18.out _ _ ?su1xb13x18 (fun hHeld => ?ru1xb13x18)
        case su1xb13x18 => ((try dsimp only); exact ⟨⟨(HW.cell hbb).trans C0.out.1.1, (HW.cell hbb).trans C0.out.1.2⟩, ⟨(HW.cell hbb).trans C0.out.2.1, (HW.cell hbb).trans C0.out.2.2⟩⟩)
        try simp only [List.setIfInBounds_toArray, List.set_cons_zero, List.set_cons_succ]
        refine wpAnyH_ready (rs := [25]) (by kernel_rfl) (by simp) (AllReadyH.cons rfl (fun K25 hK25 => ?ku1xb13x25) AllReadyH.nil)
        refine take_app El_i 25 (Operand.tmp 34) (Operand.tmp 40) 22 rfl rfl rfl (by kernel_rfl) o18 rfl (r2) rfl (ints_one _) (by unfold maxLen; omega) (by omega) (by first | exact Nat.le_refl _ | (simp only [World.size_alloc, World.size_setCell, World.size_drew] at *; omega) | omega) ?_
        intro A25 c25 w25 o25 gr25 at25
        have z25 := gr25.size
        try simp only [World.size_drew] at z25
        replace HW := below_grown HW gr25 o18 (by first | exact Nat.le_refl _ | (simp only [World.size_alloc, World.size_setCell, World.size_drew] at *; omega) | omega)
        have zHW25 := HW.size
        replace r1 := Rd.grownOwn r1 gr25 o18 (by first | exact Nat.le_refl _ | (simp only [World.size_alloc, World.size_setCell, World.size_drew] at *; omega) | omega) (by first | exact Nat.le_refl _ | (simp only [World.size_alloc, World.size_setCell, World.size_drew] at *; omega) | omega)
        replace r2 := Rd.grownOwn r2 gr25 o18 (by first | exact Nat.le_refl _ | (simp only [World.size_alloc, World.size_setCell, World.size_drew] at *; omega) | omega) (by first | exact Nat.le_refl _ | (simp only [World.size_alloc, World.size_setCell, World.size_drew] at *; omega) | omega)
        replace b27 := Blk.grown b27 gr25 (fun e => own_ne_blk o18 b27 (by decide) e.symm)
        refine hK25.out _ _ ?su1xb13x25 (fun hHeld => ?ru1xb13x25)
        case su1xb13x25 => ((try dsimp only); exact ⟨⟨(HW.cell hbb).trans C0.out.1.1, (HW.cell hbb).trans C0.out.1.2⟩, ⟨(HW.cell hbb).trans C0.out.2.1, (HW.cell hbb).trans C0.out.2.2⟩⟩)
        try simp only [List.setIfInBounds_toArray, List.set_cons_zero, List.set_cons_succ]
        refine take_op (v := ?vu1xb13x26) 26 (Op.build 48 #[(0, Operand.tmp 27), (1, Operand.tmp 41)]) 48 rfl rfl rfl rfl rfl (by kernel_rfl) (by kernel_rfl) (by kernel_rfl) (fun _ _ _ h => h) ?yu1xb13x26 (by assumption) ?ru1xb13x26
        case yu1xb13x26 => (intro w' hSw; (try dsimp only at hSw); go_simp; try (with_reducible rfl))
        simp only [List.setIfInBounds_toArray, List.set_cons_zero, List.set_cons_succ]
        refine wpAnyH_ready (rs := [28]) (by kernel_rfl) (by simp) (AllReadyH.cons rfl (fun K28 hK28 => ?ku1xb13x28) AllReadyH.nil)
        refine take_store 28 (Op.store 48 (Operand.tmp 7) (Operand.tmp 42)) 0 rfl rfl rfl (by kernel_rfl) (w' := ((w25.setCell ⟨g27, 0, none⟩ (.int .i64 (xw + yw))).setCell ⟨g27, 1, none⟩ (.slice A25 (0 + xn + yn) c25)).setCell ⟨g27, 2, none⟩ (.bool false)) (by obtain ⟨k0, k1, k2, f0, f1, f2, _⟩ := blk3 b27; go_simp; try (with_reducible rfl)) ?_
        refine hK28.out _ _ ((fun (HW' : Below wr.heap.size wr _) => ⟨⟨(HW'.cell hbb).trans C0.out.1.1, (HW'.cell hbb).trans C0.out.1.2⟩, ⟨(HW'.cell hbb).trans C0.out.2.1, (HW'.cell hbb).trans C0.out.2.2⟩⟩) (((HW.setCell (p := ⟨g27, 0, none⟩) (by dsimp only; omega) (.int .i64 (xw + yw))).setCell (p := ⟨g27, 1, none⟩) (by dsimp only; omega) (.slice A25 (0 + xn + yn) c25)).setCell (p := ⟨g27, 2, none⟩) (by dsimp only; omega) (.bool false))) (fun hHeld => ?_)
        have hnb := own_ne_blk o25 b27 (by decide)
        replace o25 := ((o25.far (p := ⟨g27, 0, none⟩) hnb (.int .i64 (xw + yw))).far (p := ⟨g27, 1, none⟩) hnb (.slice A25 (0 + xn + yn) c25)).far (p := ⟨g27, 2, none⟩) hnb (.bool false)
        replace b27 := ((b27.set 0 (.int .i64 (xw + yw))).set 1 (.slice A25 (0 + xn + yn) c25)).set 2 (.bool false)
        replace HW := ((HW.setCell (p := ⟨g27, 0, none⟩) (by dsimp only; omega) (.int .i64 (xw + yw))).setCell (p := ⟨g27, 1, none⟩) (by dsimp only; omega) (.slice A25 (0 + xn + yn) c25)).setCell (p := ⟨g27, 2, none⟩) (by dsimp only; omega) (.bool false)
        generalize (((w25.setCell ⟨g27, 0, none⟩ (.int .i64 (xw + yw))).setCell ⟨g27, 1, none⟩ (.slice A25 (0 + xn + yn) c25)).setCell ⟨g27, 2, none⟩ (.bool false)) = wz at *
        refine wpAnyH_done (by kernel_rfl) ?_ _
        clear hHeld
        have hzz := HW.size
        have b28 : Blk wz g27 48 #[.int .i64 (xw + yw), .slice A25 (xn + yn) c25, .bool false] := by simpa using b27
        have e0 := b28.cell_ 0 rfl
        have e1 := b28.cell_ 1 rfl
        have e2 := b28.cell_ 2 rfl
        have o26 : Own wz wr.heap.size 3 1 A25 (xn + yn) c25 (ints (xs ++ ys)) := by rw [ints_cat]; simpa using o25
        have hSx : SymX X wz ⟨xw + yw, A25, xn + yn, c25, false, xs ++ ys⟩ := ⟨o26.rd, o26.cap, fun k' hk' => ⟨(o26.blk k' hk').2, HXX.out _ (Nat.le_trans hsz (o26.blk k' hk').1)⟩⟩
        have C := put_row X A3 k c3 ts3 ⟨xw + yw, A25, xn + yn, c25, false, xs ++ ys⟩ wz (R3.below HW) hSx (fun k' hk' => HXX.out _ (by omega)) (by omega)
        unfold TT.val at C
        dsimp only at C
        have HC := Lib.hid C
        have HW2 := HW
        clear C hSx o26 o25 b28 b27
        go_wp2_with fail
        refine HC.out.mono ?_
        rintro e w4 ⟨A4, c4, rfl, R4, hb4⟩
        have HB4 := HB.trans ((HW2.trans (hb4.mono HW2.size)).mono hsz)
        go_wp2_with fail
        go_roundw
        case rel => exact ⟨k + 1, i + 2, c4, A4, _, by go_num, by omega, by omega, rfl, by omega, R4, by rw [put_abs, HT.out, HPG.out, putsP_snoc]; rfl, HB4⟩
        case measure => simp [intOf]; omega
    · have hge : ¬ ((i : Int) + 1 < (n : Int)) := by omega
      have hk : k = n / 2 := by omega
      have hadd : IntKind.i64.wrap ((i : Int) + 1) = (i : Int) + 1 := w64k (by omega) (by omega)
      have e1 : (pksP (ts.map TT.abs)).take k = pksP (ts.map TT.abs) := List.take_of_length_le (by rw [HPL.out]; omega)
      have HT2 := Lib.hid (show ts3.map TT.abs = putsP ((ls.map TT.abs).take 0) (putsP (pksP (ts.map TT.abs)) []) by rw [HT.out, e1]; rfl)
      have HK := Lib.hid hk
      have hk6 : k ≤ 300 := by omega
      have hr2 := h2.below HB
      clear hk e1 HT
      go_wp2_with fail
      go_loopw [5, 8] (fun out s wr' => ∃ (j q c3 : Nat) (A3 : Option Addr) (ts3 : List TT), s = .int .i64 j ∧ out = .slice A3 q c3 ∧ q ≤ k + j ∧ k + j ≤ q ∧ j ≤ n2 ∧ RowX X wr' A3 q c3 ts3 ∧ ts3.map TT.abs = putsP ((ls.map TT.abs).take j) (putsP (pksP (ts.map TT.abs)) []) ∧ Below w.heap.size w wr') (fun _ s _ => n2 - (intOf s).toNat)
      case atStart => exact ⟨0, k, c3, A3, ts3, rfl, rfl, by omega, by omega, by omega, R3, HT2.out, HB⟩
      case round =>
        clear R3 HB HT2 hsz hr hr2
        obtain ⟨j, q, c3, A3, ts3, rfl, rfl, hq1, hq2, hj, R3, hT, HB⟩ := hrel
        have HT := Lib.hid hT
        have hsz := HB.size
        have hr := h2.below HB
        clear hT
        by_cases hlt2 : j < n2
        · have hjl : j < ls.length := by omega
          have hjI : (j : Int) < (n2 : Int) := by omega
          have hj0 : (0 : Int) ≤ (j : Int) := by omega
          have hadd3 : IntKind.i64.wrap ((j : Int) + 1) = (j : Int) + 1 := w64k (by omega) (by omega)
          obtain ⟨b, o, rfl, hbb, hcc⟩ := rd_tcells hr.rd (by omega)
          obtain ⟨d0, d1, d2⟩ := hcc j hjl
          have s1 := hr.sym _ (List.getElem_mem hjl)
          have HTK := Lib.hid (show (ls.map TT.abs).take (j + 1) = (ls.map TT.abs).take j ++ [TT.abs ls[j]] by rw [List.take_succ_eq_append_getElem (by rw [List.length_map]; exact hjl)]; simp)
          obtain ⟨x, hx⟩ : ∃ x, ls[j] = x := ⟨_, rfl⟩
          rw [hx] at d0 d1 d2 s1 HTK
          have C := put_row X A3 q c3 ts3 x wr R3 s1 (fun k' hk' => HXX.out _ (by omega)) (by omega)
          obtain ⟨xw, xA, xn, xc, xl, xs⟩ := x
          unfold TT.val at C
          dsimp only at d0 d1 d2 C
          have HC := Lib.hid C
          clear hcc hx s1 C
          go_wp2_with fail
          refine HC.out.mono ?_
          rintro e w4 ⟨A4, c4, rfl, R4, hb4⟩
          have HB4 := HB.trans (hb4.mono hsz)
          go_wp2_with fail
          go_roundw
          case rel => exact ⟨j + 1, q + 1, c4, A4, _, by go_num, rfl, by omega, by omega, by omega, R4, by rw [put_abs, HT.out, HTK.out, putsP_snoc], HB4⟩
          case measure => simp [intOf]; omega
        · have hjI : ¬ (j : Int) < (n2 : Int) := by omega
          obtain rfl : q = n / 2 + n2 := by have := HK.out; omega
          have HT2 := Lib.hid (show ts3.map TT.abs = nextP (ts.map TT.abs) (ls.map TT.abs) by rw [HT.out, List.take_of_length_le (by rw [List.length_map]; omega)]; rfl)
          go_wp2_with fail
          try rw [Exit.noGoto_ret]
          go_ret
          first | exact ⟨A3, c3, rfl, ts3, R3, HT2.out, HB⟩ | exact ⟨A3, c3, rfl, ⟨ts3, R3, HT2.out⟩, HB⟩
end LenW
end Go.Proofs.Ytpnccehaomikbaa
