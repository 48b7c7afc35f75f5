/- The walks of the reference of package lens: the row behind a row. The reference of package lens: what stands in its rows. -/
import Derived.Test.YtdfclgpkhfpkhaaLfA
import Derived.Deep.OwnRows
namespace Go.Proofs.Ytdfclgpkhfpkhaa
set_option linter.unusedVariables false
set_option linter.unusedSimpArgs false
set_option linter.unnecessarySimpa false
open Go.RowKit
namespace LenW

def pksP : List PT → List PT
  | a :: b :: r => (a.1 + b.1, a.2.1 ++ b.2.1, false) :: pksP r
  | _ => []
def putsP (l : List PT) (r : List PT) : List PT := l.foldl (fun r x => putP x r) r
def nextP (row leaves : List PT) : List PT := putsP leaves (putsP (pksP row) [])
theorem putsP_snoc (l : List PT) (x : PT) (r : List PT) : putsP (l ++ [x]) r = putP x (putsP l r) := by simp [putsP]
theorem pksP_len (r : List PT) : (pksP r).length = r.length / 2 := by
  suffices ∀ n (r : List PT), r.length ≤ n → (pksP r).length = r.length / 2 from this _ r (Nat.le_refl _)
  intro n
  induction n with
  | zero => intro r h; obtain rfl := List.length_eq_zero_iff.1 (Nat.le_zero.1 h); rfl
  | succ n ih =>
    intro r h
    match r with
    | [] => rfl
    | [a] => simp [pksP]
    | a :: b :: r =>
      simp only [List.length_cons] at h
      rw [pksP, List.length_cons, ih r (by omega)]
      simp only [List.length_cons]
      omega
theorem pksP_get (r : List PT) : ∀ (k : Nat) (h : 2 * k + 1 < r.length), (pksP r)[k]? = some ((r[2 * k]'(by omega)).1 + (r[2 * k + 1]'(by omega)).1, (r[2 * k]'(by omega)).2.1 ++ (r[2 * k + 1]'(by omega)).2.1, false) := by
  suffices ∀ n (r : List PT), r.length ≤ n → ∀ (k : Nat) (h : 2 * k + 1 < r.length), (pksP r)[k]? = some ((r[2 * k]'(by omega)).1 + (r[2 * k + 1]'(by omega)).1, (r[2 * k]'(by omega)).2.1 ++ (r[2 * k + 1]'(by omega)).2.1, false) from this _ r (Nat.le_refl _)
  intro n
  induction n with
  | zero => intro r hr k h; omega
  | succ n ih =>
    intro r hr k h
    match r, hr, h with
    | [], _, h => simp at h
    | [a], _, h => simp at h
    | a :: b :: r, hr, h =>
      simp only [List.length_cons] at hr h
      rw [pksP]
      cases k with
      | zero => simp
      | succ k =>
        rw [List.getElem?_cons_succ, ih r (by omega) k (by omega)]
        rfl
theorem own_ne_blk {w : World} {base e size n c g t : Nat} {A : Option Addr} {xs : List Value} {cs : Array Value} (ho : Own w base e size A n c xs) (hb : Blk w g t cs) (hne : e ≠ t) : blkOf A ≠ some g := by
  intro hA
  rcases ho.2 with ⟨hv, _⟩ | ⟨g', cap, cur, hv, _, hg, _⟩
  · simp only [Value.slice.injEq] at hv
    rw [hv.1] at hA
    simp [blkOf] at hA
  · simp only [Value.slice.injEq] at hv
    obtain ⟨rfl, _, rfl⟩ := hv
    simp only [blkOf, Option.map_some, Option.some.injEq] at hA
    subst hA
    unfold Blk at hb
    rw [hg] at hb
    simp only [Option.some.injEq, Obj.cells.injEq] at hb
    exact hne hb.2.1
theorem El_i : El Try.prog 22 3 1 8 := El.mk' Try.underlying22 (z := .int .i64 0) (by kernel_rfl) rfl (by decide)
theorem ints_cat (a b : List Int) : ints (a ++ b) = ints a ++ ints b := by simp [ints]
set_option maxRecDepth 100000 in
set_option maxHeartbeats 16000000 in
theorem next_any (X : Nat → Prop) (A : Option Addr) (n c : Nat) (ts : List TT) (A2 : Option Addr) (n2 c2 : Nat) (ls : List TT) (w : World) (B : Int) (M : Nat) (h : RowX X w A n c ts) (h2 : RowX X w A2 n2 c2 ls) (hX : ∀ k, w.heap.size ≤ k → X k) (hn : n ≤ 600) (hn2 : n2 ≤ 300)
    (hB : ∀ t ∈ ts, 0 ≤ t.w ∧ t.w ≤ B) (hB2 : B ≤ 1000000000000000) (hM : ∀ t ∈ ts, t.s.length ≤ M) (hM2 : M ≤ 100000) :
    Calls Try.prog 67 #[.slice A n c, .slice A2 n2 c2] w fun e w' => ∃ A3 c3 ts3, e = .returned (.slice A3 (n / 2 + n2) c3) ∧ RowX X w' A3 (n / 2 + n2) c3 ts3 ∧ ts3.map TT.abs = nextP (ts.map TT.abs) (ls.map TT.abs) ∧ Below w.heap.size w w' := by
  have hl := rd_tlen h.rd
  have hl2 := rd_tlen h2.rd
  have HPL := Lib.hid (show (pksP (ts.map TT.abs)).length = n / 2 by rw [pksP_len, List.length_map, hl])
  have HXX := Lib.hid hX
  have HBB := Lib.hid hB
  have HMM := Lib.hid hM
  clear hX hB hM
  go_enter Try.func67, Try.ntmps67
  go_wp2_with fail
  go_loopw [5, 6] (fun out i wr => ∃ (k i' c3 : Nat) (A3 : Option Addr) (ts3 : List TT), i = .int .i64 i' ∧ i' ≤ 2 * k ∧ 2 * k ≤ i' ∧ out = .slice A3 k c3 ∧ i' ≤ n ∧ RowX X wr A3 k c3 ts3 ∧ ts3.map TT.abs = putsP ((pksP (ts.map TT.abs)).take k) [] ∧ Below w.heap.size w wr) (fun _ i _ => n - (intOf i).toNat)
  case atStart => exact ⟨0, 0, 0, none, [], rfl, by omega, by omega, rfl, by omega, RowX.nil _ _, rfl, Below.refl _ _⟩
  case round =>
    obtain ⟨k, i, c3, A3, ts3, rfl, hik1, hik2, rfl, hi, R3, hT, HB⟩ := hrel
    have HT := Lib.hid hT
    have hsz := HB.size
    have hr := h.below HB
    clear hT
    by_cases hlt : i + 1 < n
    · have hil : i < ts.length := by omega
      have hil2 : i + 1 < ts.length := by omega
      obtain ⟨b, o, rfl, hbb, hcc⟩ := rd_tcells hr.rd (by omega)
      obtain ⟨d0, d1, -⟩ := hcc i hil
      obtain ⟨d3, d4, -⟩ := hcc (i + 1) hil2
      have s1 := hr.sym _ (List.getElem_mem hil)
      have s2 := hr.sym _ (List.getElem_mem hil2)
      have w1 := HBB.out _ (List.getElem_mem hil)
      have w2 := HBB.out _ (List.getElem_mem hil2)
      have m1 := HMM.out _ (List.getElem_mem hil)
      have m2 := HMM.out _ (List.getElem_mem hil2)
      have HPG := Lib.hid (show (pksP (ts.map TT.abs)).take (k + 1) = (pksP (ts.map TT.abs)).take k ++ [(ts[i].w + ts[i + 1].w, ts[i].s ++ ts[i + 1].s, false)] by
        have hk : i = 2 * k := by omega
        subst hk
        rw [List.take_add_one, pksP_get _ k (by rw [List.length_map]; omega)]
        simp [TT.abs])
      obtain ⟨x, hx⟩ : ∃ x, ts[i] = x := ⟨_, rfl⟩
      obtain ⟨y, hy⟩ : ∃ y, ts[i + 1] = y := ⟨_, rfl⟩
      rw [hx] at d0 d1 s1 w1 m1 HPG
      rw [hy] at d3 d4 s2 w2 m2 HPG
      obtain ⟨xw, xA, xn, xc, xl, xs⟩ := x
      obtain ⟨yw, yA, yn, yc, yl, ys⟩ := y
      dsimp only at d0 d1 d3 d4 w1 w2 m1 m2 HPG
      have C0 := Lib.hid (And.intro (And.intro d0 d1) (And.intro d3 d4))
      have r1 : Rd wr wr.heap.size 1 xA xn (ints xs) := s1.rd
      have r2 : Rd wr wr.heap.size 1 yA yn (ints ys) := s2.rd
      have hxn : xs.length = xn := rd_len r1
      have hyn : ys.length = yn := rd_len r2
      have hx6 : xn ≤ 100000 := by omega
      have hy6 : yn ≤ 100000 := by omega
      have HXN := Lib.hid hxn
      have HYN := Lib.hid hyn
      have hww : IntKind.i64.wrap (xw + yw) = xw + yw := w64k (by omega) (by omega)
      have hi0 : (0 : Int) ≤ (i : Int) := by omega
      have hi1 : (0 : Int) ≤ (i : Int) + 1 := by omega
      have hi2 : (i : Int) + 1 < (n : Int) := by omega
      have hi3 : (i : Int) < (n : Int) := by omega
      have hadd : IntKind.i64.wrap ((i : Int) + 1) = (i : Int) + 1 := w64k (by omega) (by omega)
      have hadd2 : IntKind.i64.wrap ((i : Int) + 2) = (i : Int) + 2 := w64k (by omega) (by omega)
      have HW := Below.refl wr.heap.size wr
      have HR := Lib.hid hr
      clear hcc hx hy d0 d1 d3 d4 s1 s2 w1 w2 m1 m2 hxn hyn hr
      go_wp2_with fail
      refine wp_region_held_drew (S := (fun w' => (w'.cell? ⟨b, o + i * 3, none⟩ = some (.int .i64 xw) ∧ w'.cell? ⟨b, o + i * 3 + 1, none⟩ = some (.slice xA xn xc)) ∧ (w'.cell? ⟨b, o + (i + 1) * 3, none⟩ = some (.int .i64 yw) ∧ w'.cell? ⟨b, o + (i + 1) * 3 + 1, none⟩ = some (.slice yA yn yc)))) (by kernel_rfl) ?_ (fun hHeld => ?_)
      · replace HW := Below.drew HW; replace r1 := Rd.drew r1; replace r2 := Rd.drew r2; (try dsimp only); exact ⟨⟨(HW.cell hbb).trans C0.out.1.1, (HW.cell hbb).trans C0.out.1.2⟩, ⟨(HW.cell hbb).trans C0.out.2.1, (HW.cell hbb).trans C0.out.2.2⟩⟩
      replace HW := Below.drew HW
      replace r1 := Rd.drew r1
      replace r2 := Rd.drew r2
      have zHW := HW.size
      refine take_movev (v := ?vu1x0) 0 (Operand.tmp 0) rfl rfl (by first | exact .inl rfl | exact .inr rfl) rfl (by kernel_rfl) (by kernel_rfl) (by kernel_rfl) (fun _ _ _ h => h) (by assumption) ?yu1x0 ?ru1x0
      case yu1x0 => (go_simp; try (with_reducible rfl))
      simp only [List.setIfInBounds_toArray, List.set_cons_zero, List.set_cons_succ]
      refine take_movev (v := ?vu1x1) 1 (Operand.tmp 6) rfl rfl (by first | exact .inl rfl | exact .inr rfl) rfl (by kernel_rfl) (by kernel_rfl) (by kernel_rfl) (fun _ _ _ h => h) (by assumption) ?yu1x1 ?ru1x1
      case yu1x1 => (go_simp; try (with_reducible rfl))
      simp only [List.setIfInBounds_toArray, List.set_cons_zero, List.set_cons_succ]
      refine take_op (v := ?vu1x2) 2 (Op.indexAddr 108 (Operand.tmp 16) (Operand.tmp 17)) 0 rfl rfl rfl rfl rfl (by kernel_rfl) (by kernel_rfl) (by kernel_rfl) (fun _ _ _ h => h) ?yu1x2 (by assumption) ?ru1x2
      case yu1x2 => (intro w' hSw; (try dsimp only at hSw); go_simp; try (with_reducible rfl))
      simp only [List.setIfInBounds_toArray, List.set_cons_zero, List.set_cons_succ]
      refine take_op (v := ?vu1x3) 3 (Op.fieldAddr 111 (Operand.tmp 18) 0) 0 rfl rfl rfl rfl rfl (by kernel_rfl) (by kernel_rfl) (by kernel_rfl) (fun _ _ _ h => h) ?yu1x3 (by assumption) ?ru1x3
      case yu1x3 => (intro w' hSw; (try dsimp only at hSw); go_simp; try (with_reducible rfl))
      simp only [List.setIfInBounds_toArray, List.set_cons_zero, List.set_cons_succ]
      refine take_op (v := ?vu1x4) 4 (Op.load 3 (Operand.tmp 19)) 3 rfl rfl rfl rfl rfl (by kernel_rfl) (by kernel_rfl) (by kernel_rfl) (fun _ _ _ h => h) ?yu1x4 (by assumption) ?ru1x4
      case yu1x4 => (intro w' hSw; (try dsimp only at hSw); go_simp; try (with_reducible rfl))
      simp only [List.setIfInBounds_toArray, List.set_cons_zero, List.set_cons_succ]
      refine take_movev (v := ?vu1x5) 5 (Operand.tmp 0) rfl rfl (by first | exact .inl rfl | exact .inr rfl) rfl (by kernel_rfl) (by kernel_rfl) (by kernel_rfl) (fun _ _ _ h => h) (by assumption) ?yu1x5 ?ru1x5
      case yu1x5 => (go_simp; try (with_reducible rfl))
      simp only [List.setIfInBounds_toArray, List.set_cons_zero, List.set_cons_succ]
      refine take_movev (v := ?vu1x6) 6 (Operand.tmp 6) rfl rfl (by first | exact .inl rfl | exact .inr rfl) rfl (by kernel_rfl) (by kernel_rfl) (by kernel_rfl) (fun _ _ _ h => h) (by assumption) ?yu1x6 ?ru1x6
      case yu1x6 => (go_simp; try (with_reducible rfl))
      simp only [List.setIfInBounds_toArray, List.set_cons_zero, List.set_cons_succ]
      refine take_op (v := ?vu1x7) 7 (Op.binOp BinOp.add 3 (Operand.tmp 22) (Operand.const (Value.int IntKind.i64 1)) 3) 3 rfl rfl rfl rfl rfl (by kernel_rfl) (by kernel_rfl) (by kernel_rfl) (fun _ _ _ h => h) ?yu1x7 (by assumption) ?ru1x7
      case yu1x7 => (intro w' hSw; (try dsimp only at hSw); go_simp; try (with_reducible rfl))
      simp only [List.setIfInBounds_toArray, List.set_cons_zero, List.set_cons_succ]
      refine take_op (v := ?vu1x8) 8 (Op.indexAddr 108 (Operand.tmp 21) (Operand.tmp 23)) 0 rfl rfl rfl rfl rfl (by kernel_rfl) (by kernel_rfl) (by kernel_rfl) (fun _ _ _ h => h) ?yu1x8 (by assumption) ?ru1x8
      case yu1x8 => (intro w' hSw; (try dsimp only at hSw); go_simp; try (with_reducible rfl))
      simp only [List.setIfInBounds_toArray, List.set_cons_zero, List.set_cons_succ]
      refine take_op (v := ?vu1x9) 9 (Op.fieldAddr 111 (Operand.tmp 24) 0) 0 rfl rfl rfl rfl rfl (by kernel_rfl) (by kernel_rfl) (by kernel_rfl) (fun _ _ _ h => h) ?yu1x9 (by assumption) ?ru1x9
      case yu1x9 => (intro w' hSw; (try dsimp only at hSw); go_simp; try (with_reducible rfl))
      simp only [List.setIfInBounds_toArray, List.set_cons_zero, List.set_cons_succ]
      refine take_op (v := ?vu1x10) 10 (Op.load 3 (Operand.tmp 25)) 3 rfl rfl rfl rfl rfl (by kernel_rfl) (by kernel_rfl) (by kernel_rfl) (fun _ _ _ h => h) ?yu1x10 (by assumption) ?ru1x10
      case yu1x10 => (intro w' hSw; (try dsimp only at hSw); go_simp; try (with_reducible rfl))
      simp only [List.setIfInBounds_toArray, List.set_cons_zero, List.set_cons_succ]
      refine take_op (v := ?vu1x11) 11 (Op.binOp BinOp.add 3 (Operand.tmp 20) (Operand.tmp 26) 3) 3 rfl rfl rfl rfl rfl (by kernel_rfl) (by kernel_rfl) (by kernel_rfl) (fun _ _ _ h => h) ?yu1x11 (by assumption) ?ru1x11
      case yu1x11 => (intro w' hSw; (try dsimp only at hSw); go_simp; try (with_reducible rfl))
      simp only [List.setIfInBounds_toArray, List.set_cons_zero, List.set_cons_succ]
      refine take_movev (v := ?vu1x13) 13 (Operand.tmp 0) rfl rfl (by first | exact .inl rfl | exact .inr rfl) rfl (by kernel_rfl) (by kernel_rfl) (by kernel_rfl) (fun _ _ _ h => h) (by assumption) ?yu1x13 ?ru1x13
      case yu1x13 => (go_simp; try (with_reducible rfl))
      simp only [List.setIfInBounds_toArray, List.set_cons_zero, List.set_cons_succ]
      refine take_movev (v := ?vu1x14) 14 (Operand.tmp 6) rfl rfl (by first | exact .inl rfl | exact .inr rfl) rfl (by kernel_rfl) (by kernel_rfl) (by kernel_rfl) (fun _ _ _ h => h) (by assumption) ?yu1x14 ?ru1x14
      case yu1x14 => (go_simp; try (with_reducible rfl))
      simp only [List.setIfInBounds_toArray, List.set_cons_zero, List.set_cons_succ]
      refine take_op (v := ?vu1x15) 15 (Op.indexAddr 108 (Operand.tmp 29) (Operand.tmp 30)) 0 rfl rfl rfl rfl rfl (by kernel_rfl) (by kernel_rfl) (by kernel_rfl) (fun _ _ _ h => h) ?yu1x15 (by assumption) ?ru1x15
      case yu1x15 => (intro w' hSw; (try dsimp only at hSw); go_simp; try (with_reducible rfl))
      simp only [List.setIfInBounds_toArray, List.set_cons_zero, List.set_cons_succ]
      refine take_op (v := ?vu1x16) 16 (Op.fieldAddr 111 (Operand.tmp 31) 1) 0 rfl rfl rfl rfl rfl (by kernel_rfl) (by kernel_rfl) (by kernel_rfl) (fun _ _ _ h => h) ?yu1x16 (by assumption) ?ru1x16
      case yu1x16 => (intro w' hSw; (try dsimp only at hSw); go_simp; try (with_reducible rfl))
      simp only [List.setIfInBounds_toArray, List.set_cons_zero, List.set_cons_succ]
      refine take_op (v := ?vu1x17) 17 (Op.load 22 (Operand.tmp 32)) 22 rfl rfl rfl rfl rfl (by kernel_rfl) (by kernel_rfl) (by kernel_rfl) (fun _ _ _ h => h) ?yu1x17 (by assumption) ?ru1x17
      case yu1x17 => (intro w' hSw; (try dsimp only at hSw); go_simp; try (with_reducible rfl))
      simp only [List.setIfInBounds_toArray, List.set_cons_zero, List.set_cons_succ]
      refine take_movev (v := ?vu1x19) 19 (Operand.tmp 0) rfl rfl (by first | exact .inl rfl | exact .inr rfl) rfl (by kernel_rfl) (by kernel_rfl) (by kernel_rfl) (fun _ _ _ h => h) (by assumption) ?yu1x19 ?ru1x19
      case yu1x19 => (go_simp; try (with_reducible rfl))
      simp only [List.setIfInBounds_toArray, List.set_cons_zero, List.set_cons_succ]
      refine take_movev (v := ?vu1x20) 20 (Operand.tmp 6) rfl rfl (by first | exact .inl rfl | exact .inr rfl) rfl (by kernel_rfl) (by kernel_rfl) (by kernel_rfl) (fun _ _ _ h => h) (by assumption) ?yu1x20 ?ru1x20
      case yu1x20 => (go_simp; try (with_reducible rfl))
      simp only [List.setIfInBounds_toArray, List.set_cons_zero, List.set_cons_succ]
      refine take_op (v := ?vu1x21) 21 (Op.binOp BinOp.add 3 (Operand.tmp 36) (Operand.const (Value.int IntKind.i64 1)) 3) 3 rfl rfl rfl rfl rfl (by kernel_rfl) (by kernel_rfl) (by kernel_rfl) (fun _ _ _ h => h) ?yu1x21 (by assumption) ?ru1x21
      case yu1x21 => (intro w' hSw; (try dsimp only at hSw); go_simp; try (with_reducible rfl))
      simp only [List.setIfInBounds_toArray, List.set_cons_zero, List.set_cons_succ]
      refine take_op (v := ?vu1x22) 22 (Op.indexAddr 108 (Operand.tmp 35) (Operand.tmp 37)) 0 rfl rfl rfl rfl rfl (by kernel_rfl) (by kernel_rfl) (by kernel_rfl) (fun _ _ _ h => h) ?yu1x22 (by assumption) ?ru1x22
      case yu1x22 => (intro w' hSw; (try dsimp only at hSw); go_simp; try (with_reducible rfl))
      simp only [List.setIfInBounds_toArray, List.set_cons_zero, List.set_cons_succ]
      refine take_op (v := ?vu1x23) 23 (Op.fieldAddr 111 (Operand.tmp 38) 1) 0 rfl rfl rfl rfl rfl (by kernel_rfl) (by kernel_rfl) (by kernel_rfl) (fun _ _ _ h => h) ?yu1x23 (by assumption) ?ru1x23
      case yu1x23 => (intro w' hSw; (try dsimp only at hSw); go_simp; try (with_reducible rfl))
      simp only [List.setIfInBounds_toArray, List.set_cons_zero, List.set_cons_succ]
      refine take_op (v := ?vu1x24) 24 (Op.load 22 (Operand.tmp 39)) 22 rfl rfl rfl rfl rfl (by kernel_rfl) (by kernel_rfl) (by kernel_rfl) (fun _ _ _ h => h) ?yu1x24 (by assumption) ?ru1x24
      case yu1x24 => (intro w' hSw; (try dsimp only at hSw); go_simp; try (with_reducible rfl))
      simp only [List.setIfInBounds_toArray, List.set_cons_zero, List.set_cons_succ]
      refine wpAnyH_ready (rs := [12, 27]) (by kernel_rfl) (by simp) (AllReadyH.cons rfl (fun K12 hK12 => ?ku1x12) (AllReadyH.cons rfl (fun K27 hK27 => ?ku1x27) AllReadyH.nil))
      case ku1x12 =>
        refine take_build (e := 3) (len := 0) (size := 1) (wr.heap.size) (([] : List Value)) 12 (Op.buildSlice 22 0 #[]) 22 rfl rfl rfl (by kernel_rfl) ?eu1xb1x12 (by rfl) (by decide) (by first | exact Nat.le_refl _ | (simp only [World.size_alloc, World.size_setCell, World.size_drew] at *; omega) | omega) ?_
        case eu1xb1x12 => (go_simp; try (first | with_reducible rfl | (simp [rcells, rcell]; done) | (simp [fcells]; done) | (simp [tcells]; done) | rfl))
        intro gx12 w12 o12 gr12 l12 m12
        have z12 := gr12.size
        try simp only [World.size_drew] at z12
        replace HW := below_grow HW gr12
        have zHW12 := HW.size
        replace r1 := Rd.grow0 r1 gr12 (by first | exact Nat.le_refl _ | (simp only [World.size_alloc, World.size_setCell, World.size_drew] at *; omega) | omega)
        replace r2 := Rd.grow0 r2 gr12 (by first | exact Nat.le_refl _ | (simp only [World.size_alloc, World.size_setCell, World.size_drew] at *; omega) | omega)
        refine hK12.out _ _ ?su1xb1x12 (fun hHeld => ?ru1xb1x12)
        case su1xb1x12 => ((try dsimp only); exact ⟨⟨(HW.cell hbb).trans C0.out.1.1, (HW.cell hbb).trans C0.out.1.2⟩, ⟨(HW.cell hbb).trans C0.out.2.1, (HW.cell hbb).trans C0.out.2.2⟩⟩)
        try simp only [List.setIfInBounds_toArray, List.set_cons_zero, List.set_cons_succ]
        refine wpAnyH_ready (rs := [18, 27]) (by kernel_rfl) (by simp) (AllReadyH.cons rfl (fun K18 hK18 => ?ku1xb1x18) (AllReadyH.cons rfl (fun K27 hK27 => ?ku1xb1x27) AllReadyH.nil))
        case ku1xb1x18 =>
          refine take_app El_i 18 (Operand.tmp 28) (Operand.tmp 33) 22 rfl rfl rfl (by kernel_rfl) o12 rfl (r1) rfl (ints_one _) (by unfold maxLen; omega) (by omega) (by first | exact Nat.le_refl _ | (simp only [World.size_alloc, World.size_setCell, World.size_drew] at *; omega) | omega) ?_
          intro A18 c18 w18 o18 gr18 at18
          have z18 := gr18.size
          try simp only [World.size_drew] at z18
          replace HW := below_grown HW gr18 o12 (by first | exact Nat.le_refl _ | (simp only [World.size_alloc, World.size_setCell, World.size_drew] at *; omega) | omega)
          have zHW18 := HW.size
          replace r1 := Rd.grownOwn r1 gr18 o12 (by first | exact Nat.le_refl _ | (simp only [World.size_alloc, World.size_setCell, World.size_drew] at *; omega) | omega) (by first | exact Nat.le_refl _ | (simp only [World.size_alloc, World.size_setCell, World.size_drew] at *; omega) | omega)
          replace r2 := Rd.grownOwn r2 gr18 o12 (by first | exact Nat.le_refl _ | (simp only [World.size_alloc, World.size_setCell, World.size_drew] at *; omega) | omega) (by first | exact Nat.le_refl _ | (simp only [World.size_alloc, World.size_setCell, World.size_drew] at *; omega) | omega)
          refine hK18.out _ _ ?su1xb1xb2x18 (fun hHeld => ?ru1xb1xb2x18)
          case su1xb1xb2x18 => ((try dsimp only); exact ⟨⟨(HW.cell hbb).trans C0.out.1.1, (HW.cell hbb).trans C0.out.1.2⟩, ⟨(HW.cell hbb).trans C0.out.2.1, (HW.cell hbb).trans C0.out.2.2⟩⟩)
          try simp only [List.setIfInBounds_toArray, List.set_cons_zero, List.set_cons_succ]
          refine wpAnyH_ready (rs := [25, 27]) (by kernel_rfl) (by simp) (AllReadyH.cons rfl (fun K25 hK25 => ?ku1xb1xb2x25) (AllReadyH.cons rfl (fun K27 hK27 => ?ku1xb1xb2x27) AllReadyH.nil))
          case ku1xb1xb2x25 =>
            refine take_app El_i 25 (Operand.tmp 34) (Operand.tmp 40) 22 rfl rfl rfl (by kernel_rfl) o18 rfl (r2) rfl (ints_one _) (by unfold maxLen; omega) (by omega) (by first | exact Nat.le_refl _ | (simp only [World.size_alloc, World.size_setCell, World.size_drew] at *; omega) | omega) ?_
            intro A25 c25 w25 o25 gr25 at25
            have z25 := gr25.size
            try simp only [World.size_drew] at z25
            replace HW := below_grown HW gr25 o18 (by first | exact Nat.le_refl _ | (simp only [World.size_alloc, World.size_setCell, World.size_drew] at *; omega) | omega)
            have zHW25 := HW.size
            replace r1 := Rd.grownOwn r1 gr25 o18 (by first | exact Nat.le_refl _ | (simp only [World.size_alloc, World.size_setCell, World.size_drew] at *; omega) | omega) (by first | exact Nat.le_refl _ | (simp only [World.size_alloc, World.size_setCell, World.size_drew] at *; omega) | omega)
            replace r2 := Rd.grownOwn r2 gr25 o18 (by first | exact Nat.le_refl _ | (simp only [World.size_alloc, World.size_setCell, World.size_drew] at *; omega) | omega) (by first | exact Nat.le_refl _ | (simp only [World.size_alloc, World.size_setCell, World.size_drew] at *; omega) | omega)
            refine hK25.out _ _ ?su1xb1xb2xb3x25 (fun hHeld => ?ru1xb1xb2xb3x25)
            case su1xb1xb2xb3x25 => ((try dsimp only); exact ⟨⟨(HW.cell hbb).trans C0.out.1.1, (HW.cell hbb).trans C0.out.1.2⟩, ⟨(HW.cell hbb).trans C0.out.2.1, (HW.cell hbb).trans C0.out.2.2⟩⟩)
            try simp only [List.setIfInBounds_toArray, List.set_cons_zero, List.set_cons_succ]
            refine take_op (v := ?vu1xb1xb2xb3x26) 26 (Op.build 111 #[(0, Operand.tmp 27), (1, Operand.tmp 41)]) 111 rfl rfl rfl rfl rfl (by kernel_rfl) (by kernel_rfl) (by kernel_rfl) (fun _ _ _ h => h) ?yu1xb1xb2xb3x26 (by assumption) ?ru1xb1xb2xb3x26
            case yu1xb1xb2xb3x26 => (intro w' hSw; (try dsimp only at hSw); go_simp; try (with_reducible rfl))
            simp only [List.setIfInBounds_toArray, List.set_cons_zero, List.set_cons_succ]
            refine wpAnyH_ready (rs := [27]) (by kernel_rfl) (by simp) (AllReadyH.cons rfl (fun K27 hK27 => ?ku1xb1xb2xb3x27) AllReadyH.nil)
            refine take_new (t := 111) (cs := #[.int .i64 0, .slice none 0 0, .bool false]) 27 (Op.alloc 111) 0 rfl rfl rfl (by kernel_rfl) ?eu1xb1xb2xb3x27 ?_
            case eu1xb1xb2xb3x27 => (go_simp; try (first | with_reducible rfl | rfl))
            intro g27 w27 b27 gr27 l27 m27
            have z27 := gr27.size
            try simp only [World.size_drew] at z27
            try simp only [World.size_drew, World.size_alloc] at l27
            replace HW := below_grow HW gr27
            have zHW27 := HW.size
            replace r1 := Rd.grow0 r1 gr27 (by first | exact Nat.le_refl _ | (simp only [World.size_alloc, World.size_setCell, World.size_drew] at *; omega) | omega)
            replace r2 := Rd.grow0 r2 gr27 (by first | exact Nat.le_refl _ | (simp only [World.size_alloc, World.size_setCell, World.size_drew] at *; omega) | omega)
            replace o25 := Own.grow0 o25 gr27
            refine hK27.out _ _ ?su1xb1xb2xb3x27 (fun hHeld => ?ru1xb1xb2xb3x27)
            case su1xb1xb2xb3x27 => ((try dsimp only); exact ⟨⟨(HW.cell hbb).trans C0.out.1.1, (HW.cell hbb).trans C0.out.1.2⟩, ⟨(HW.cell hbb).trans C0.out.2.1, (HW.cell hbb).trans C0.out.2.2⟩⟩)
            try simp only [List.setIfInBounds_toArray, List.set_cons_zero, List.set_cons_succ]
            refine wpAnyH_ready (rs := [28]) (by kernel_rfl) (by simp) (AllReadyH.cons rfl (fun K28 hK28 => ?ku1xb1xb2xb3x28) AllReadyH.nil)
            refine take_store 28 (Op.store 111 (Operand.tmp 7) (Operand.tmp 42)) 0 rfl rfl rfl (by kernel_rfl) (w' := ((w27.setCell ⟨g27, 0, none⟩ (.int .i64 (xw + yw))).setCell ⟨g27, 1, none⟩ (.slice A25 (0 + xn + yn) c25)).setCell ⟨g27, 2, none⟩ (.bool false)) (by obtain ⟨k0, k1, k2, f0, f1, f2, _⟩ := blk3 b27; go_simp; try (with_reducible rfl)) ?_
            refine hK28.out _ _ ((fun (HW' : Below wr.heap.size wr _) => ⟨⟨(HW'.cell hbb).trans C0.out.1.1, (HW'.cell hbb).trans C0.out.1.2⟩, ⟨(HW'.cell hbb).trans C0.out.2.1, (HW'.cell hbb).trans C0.out.2.2⟩⟩) (((HW.setCell (p := ⟨g27, 0, none⟩) (by dsimp only; omega) (.int .i64 (xw + yw))).setCell (p := ⟨g27, 1, none⟩) (by dsimp only; omega) (.slice A25 (0 + xn + yn) c25)).setCell (p := ⟨g27, 2, none⟩) (by dsimp only; omega) (.bool false))) (fun hHeld => ?_)
            have hnb := own_ne_blk o25 b27 (by decide)
            replace o25 := ((o25.far (p := ⟨g27, 0, none⟩) hnb (.int .i64 (xw + yw))).far (p := ⟨g27, 1, none⟩) hnb (.slice A25 (0 + xn + yn) c25)).far (p := ⟨g27, 2, none⟩) hnb (.bool false)
            replace b27 := ((b27.set 0 (.int .i64 (xw + yw))).set 1 (.slice A25 (0 + xn + yn) c25)).set 2 (.bool false)
            replace HW := ((HW.setCell (p := ⟨g27, 0, none⟩) (by dsimp only; omega) (.int .i64 (xw + yw))).setCell (p := ⟨g27, 1, none⟩) (by dsimp only; omega) (.slice A25 (0 + xn + yn) c25)).setCell (p := ⟨g27, 2, none⟩) (by dsimp only; omega) (.bool false)
            generalize (((w27.setCell ⟨g27, 0, none⟩ (.int .i64 (xw + yw))).setCell ⟨g27, 1, none⟩ (.slice A25 (0 + xn + yn) c25)).setCell ⟨g27, 2, none⟩ (.bool false)) = wz at *
            refine wpAnyH_done (by kernel_rfl) ?_ _
            clear hHeld
            have hzz := HW.size
            have b28 : Blk wz g27 111 #[.int .i64 (xw + yw), .slice A25 (xn + yn) c25, .bool false] := by simpa using b27
            have e0 := b28.cell_ 0 rfl
            have e1 := b28.cell_ 1 rfl
            have e2 := b28.cell_ 2 rfl
            have o26 : Own wz wr.heap.size 3 1 A25 (xn + yn) c25 (ints (xs ++ ys)) := by rw [ints_cat]; simpa using o25
            have hSx : SymX X wz ⟨xw + yw, A25, xn + yn, c25, false, xs ++ ys⟩ := ⟨o26.rd, o26.cap, fun k' hk' => ⟨(o26.blk k' hk').2, HXX.out _ (Nat.le_trans hsz (o26.blk k' hk').1)⟩⟩
            have C := put_row X A3 k c3 ts3 ⟨xw + yw, A25, xn + yn, c25, false, xs ++ ys⟩ wz (R3.below HW) hSx (fun k' hk' => HXX.out _ (by omega)) (by omega)
            unfold TT.val at C
            dsimp only at C
            have HC := Lib.hid C
            have HW2 := HW
            clear C hSx o26 o25 b28 b27
            go_wp2_with fail
            refine HC.out.mono ?_
            rintro e w4 ⟨A4, c4, rfl, R4, hb4⟩
            have HB4 := HB.trans ((HW2.trans (hb4.mono HW2.size)).mono hsz)
            go_wp2_with fail
            go_roundw
            case rel => exact ⟨k + 1, i + 2, c4, A4, _, by go_num, by omega, by omega, rfl, by omega, R4, by rw [put_abs, HT.out, HPG.out, putsP_snoc]; rfl, HB4⟩
            case measure => simp [intOf]; omega
          case ku1xb1xb2x27 =>
            refine take_new (t := 111) (cs := #[.int .i64 0, .slice none 0 0, .bool false]) 27 (Op.alloc 111) 0 rfl rfl rfl (by kernel_rfl) ?eu1xb1xb2xb6x27 ?_
            case eu1xb1xb2xb6x27 => (go_simp; try (first | with_reducible rfl | rfl))
            intro g27 w27 b27 gr27 l27 m27
            have z27 := gr27.size
            try simp only [World.size_drew] at z27
            try simp only [World.size_drew, World.size_alloc] at l27
            replace HW := below_grow HW gr27
            have zHW27 := HW.size
            replace r1 := Rd.grow0 r1 gr27 (by first | exact Nat.le_refl _ | (simp only [World.size_alloc, World.size_setCell, World.size_drew] at *; omega) | omega)
            replace r2 := Rd.grow0 r2 gr27 (by first | exact Nat.le_refl _ | (simp only [World.size_alloc, World.size_setCell, World.size_drew] at *; omega) | omega)
            replace o18 := Own.grow0 o18 gr27
            refine hK27.out _ _ ?su1xb1xb2xb6x27 (fun hHeld => ?ru1xb1xb2xb6x27)
            case su1xb1xb2xb6x27 => ((try dsimp only); exact ⟨⟨(HW.cell hbb).trans C0.out.1.1, (HW.cell hbb).trans C0.out.1.2⟩, ⟨(HW.cell hbb).trans C0.out.2.1, (HW.cell hbb).trans C0.out.2.2⟩⟩)
            try simp only [List.setIfInBounds_toArray, List.set_cons_zero, List.set_cons_succ]
            refine wpAnyH_ready (rs := [25]) (by kernel_rfl) (by simp) (AllReadyH.cons rfl (fun K25 hK25 => ?ku1xb1xb2xb6x25) AllReadyH.nil)
            refine take_app El_i 25 (Operand.tmp 34) (Operand.tmp 40) 22 rfl rfl rfl (by kernel_rfl) o18 rfl (r2) rfl (ints_one _) (by unfold maxLen; omega) (by omega) (by first | exact Nat.le_refl _ | (simp only [World.size_alloc, World.size_setCell, World.size_drew] at *; omega) | omega) ?_
            intro A25 c25 w25 o25 gr25 at25
            have z25 := gr25.size
            try simp only [World.size_drew] at z25
            replace HW := below_grown HW gr25 o18 (by first | exact Nat.le_refl _ | (simp only [World.size_alloc, World.size_setCell, World.size_drew] at *; omega) | omega)
            have zHW25 := HW.size
            replace r1 := Rd.grownOwn r1 gr25 o18 (by first | exact Nat.le_refl _ | (simp only [World.size_alloc, World.size_setCell, World.size_drew] at *; omega) | omega) (by first | exact Nat.le_refl _ | (simp only [World.size_alloc, World.size_setCell, World.size_drew] at *; omega) | omega)
            replace r2 := Rd.grownOwn r2 gr25 o18 (by first | exact Nat.le_refl _ | (simp only [World.size_alloc, World.size_setCell, World.size_drew] at *; omega) | omega) (by first | exact Nat.le_refl _ | (simp only [World.size_alloc, World.size_setCell, World.size_drew] at *; omega) | omega)
            replace b27 := Blk.grown b27 gr25 (fun e => own_ne_blk o18 b27 (by decide) e.symm)
            refine hK25.out _ _ ?su1xb1xb2xb6x25 (fun hHeld => ?ru1xb1xb2xb6x25)
            case su1xb1xb2xb6x25 => ((try dsimp only); exact ⟨⟨(HW.cell hbb).trans C0.out.1.1, (HW.cell hbb).trans C0.out.1.2⟩, ⟨(HW.cell hbb).trans C0.out.2.1, (HW.cell hbb).trans C0.out.2.2⟩⟩)
            try simp only [List.setIfInBounds_toArray, List.set_cons_zero, List.set_cons_succ]
            refine take_op (v := ?vu1xb1xb2xb6x26) 26 (Op.build 111 #[(0, Operand.tmp 27), (1, Operand.tmp 41)]) 111 rfl rfl rfl rfl rfl (by kernel_rfl) (by kernel_rfl) (by kernel_rfl) (fun _ _ _ h => h) ?yu1xb1xb2xb6x26 (by assumption) ?ru1xb1xb2xb6x26
            case yu1xb1xb2xb6x26 => (intro w' hSw; (try dsimp only at hSw); go_simp; try (with_reducible rfl))
            simp only [List.setIfInBounds_toArray, List.set_cons_zero, List.set_cons_succ]
            refine wpAnyH_ready (rs := [28]) (by kernel_rfl) (by simp) (AllReadyH.cons rfl (fun K28 hK28 => ?ku1xb1xb2xb6x28) AllReadyH.nil)
            refine take_store 28 (Op.store 111 (Operand.tmp 7) (Operand.tmp 42)) 0 rfl rfl rfl (by kernel_rfl) (w' := ((w25.setCell ⟨g27, 0, none⟩ (.int .i64 (xw + yw))).setCell ⟨g27, 1, none⟩ (.slice A25 (0 + xn + yn) c25)).setCell ⟨g27, 2, none⟩ (.bool false)) (by obtain ⟨k0, k1, k2, f0, f1, f2, _⟩ := blk3 b27; go_simp; try (with_reducible rfl)) ?_
            refine hK28.out _ _ ((fun (HW' : Below wr.heap.size wr _) => ⟨⟨(HW'.cell hbb).trans C0.out.1.1, (HW'.cell hbb).trans C0.out.1.2⟩, ⟨(HW'.cell hbb).trans C0.out.2.1, (HW'.cell hbb).trans C0.out.2.2⟩⟩) (((HW.setCell (p := ⟨g27, 0, none⟩) (by dsimp only; omega) (.int .i64 (xw + yw))).setCell (p := ⟨g27, 1, none⟩) (by dsimp only; omega) (.slice A25 (0 + xn + yn) c25)).setCell (p := ⟨g27, 2, none⟩) (by dsimp only; omega) (.bool false))) (fun hHeld => ?_)
            have hnb := own_ne_blk o25 b27 (by decide)
            replace o25 := ((o25.far (p := ⟨g27, 0, none⟩) hnb (.int .i64 (xw + yw))).far (p := ⟨g27, 1, none⟩) hnb (.slice A25 (0 + xn + yn) c25)).far (p := ⟨g27, 2, none⟩) hnb (.bool false)
            replace b27 := ((b27.set 0 (.int .i64 (xw + yw))).set 1 (.slice A25 (0 + xn + yn) c25)).set 2 (.bool false)
            replace HW := ((HW.setCell (p := ⟨g27, 0, none⟩) (by dsimp only; omega) (.int .i64 (xw + yw))).setCell (p := ⟨g27, 1, none⟩) (by dsimp only; omega) (.slice A25 (0 + xn + yn) c25)).setCell (p := ⟨g27, 2, none⟩) (by dsimp only; omega) (.bool false)
            generalize (((w25.setCell ⟨g27, 0, none⟩ (.int .i64 (xw + yw))).setCell ⟨g27, 1, none⟩ (.slice A25 (0 + xn + yn) c25)).setCell ⟨g27, 2, none⟩ (.bool false)) = wz at *
            refine wpAnyH_done (by kernel_rfl) ?_ _
            clear hHeld
            have hzz := HW.size
            have b28 : Blk wz g27 111 #[.int .i64 (xw + yw), .slice A25 (xn + yn) c25, .bool false] := by simpa using b27
            have e0 := b28.cell_ 0 rfl
            have e1 := b28.cell_ 1 rfl
            have e2 := b28.cell_ 2 rfl
            have o26 : Own wz wr.heap.size 3 1 A25 (xn + yn) c25 (ints (xs ++ ys)) := by rw [ints_cat]; simpa using o25
            have hSx : SymX X wz ⟨xw + yw, A25, xn + yn, c25, false, xs ++ ys⟩ := ⟨o26.rd, o26.cap, fun k' hk' => ⟨(o26.blk k' hk').2, HXX.out _ (Nat.le_trans hsz (o26.blk k' hk').1)⟩⟩
            have C := put_row X A3 k c3 ts3 ⟨xw + yw, A25, xn + yn, c25, false, xs ++ ys⟩ wz (R3.below HW) hSx (fun k' hk' => HXX.out _ (by omega)) (by omega)
            unfold TT.val at C
            dsimp only at C
            have HC := Lib.hid C
            have HW2 := HW
            clear C hSx o26 o25 b28 b27
            go_wp2_with fail
            refine HC.out.mono ?_
            rintro e w4 ⟨A4, c4, rfl, R4, hb4⟩
            have HB4 := HB.trans ((HW2.trans (hb4.mono HW2.size)).mono hsz)
            go_wp2_with fail
            go_roundw
            case rel => exact ⟨k + 1, i + 2, c4, A4, _, by go_num, by omega, by omega, rfl, by omega, R4, by rw [put_abs, HT.out, HPG.out, putsP_snoc]; rfl, HB4⟩
            case measure => simp [intOf]; omega
        case ku1xb1x27 =>
          refine take_new (t := 111) (cs := #[.int .i64 0, .slice none 0 0, .bool false]) 27 (Op.alloc 111) 0 rfl rfl rfl (by kernel_rfl) ?eu1xb1xb9x27 ?_
          case eu1xb1xb9x27 => (go_simp; try (first | with_reducible rfl | rfl))
          intro g27 w27 b27 gr27 l27 m27
          have z27 := gr27.size
          try simp only [World.size_drew] at z27
          try simp only [World.size_drew, World.size_alloc] at l27
          replace HW := below_grow HW gr27
          have zHW27 := HW.size
          replace r1 := Rd.grow0 r1 gr27 (by first | exact Nat.le_refl _ | (simp only [World.size_alloc, World.size_setCell, World.size_drew] at *; omega) | omega)
          replace r2 := Rd.grow0 r2 gr27 (by first | exact Nat.le_refl _ | (simp only [World.size_alloc, World.size_setCell, World.size_drew] at *; omega) | omega)
          replace o12 := Own.grow0 o12 gr27
          refine hK27.out _ _ ?su1xb1xb9x27 (fun hHeld => ?ru1xb1xb9x27)
          case su1xb1xb9x27 => ((try dsimp only); exact ⟨⟨(HW.cell hbb).trans C0.out.1.1, (HW.cell hbb).trans C0.out.1.2⟩, ⟨(HW.cell hbb).trans C0.out.2.1, (HW.cell hbb).trans C0.out.2.2⟩⟩)
          try simp only [List.setIfInBounds_toArray, List.set_cons_zero, List.set_cons_succ]
          refine wpAnyH_ready (rs := [18]) (by kernel_rfl) (by simp) (AllReadyH.cons rfl (fun K18 hK18 => ?ku1xb1xb9x18) AllReadyH.nil)
          refine take_app El_i 18 (Operand.tmp 28) (Operand.tmp 33) 22 rfl rfl rfl (by kernel_rfl) o12 rfl (r1) rfl (ints_one _) (by unfold maxLen; omega) (by omega) (by first | exact Nat.le_refl _ | (simp only [World.size_alloc, World.size_setCell, World.size_drew] at *; omega) | omega) ?_
          intro A18 c18 w18 o18 gr18 at18
          have z18 := gr18.size
          try simp only [World.size_drew] at z18
          replace HW := below_grown HW gr18 o12 (by first | exact Nat.le_refl _ | (simp only [World.size_alloc, World.size_setCell, World.size_drew] at *; omega) | omega)
          have zHW18 := HW.size
          replace r1 := Rd.grownOwn r1 gr18 o12 (by first | exact Nat.le_refl _ | (simp only [World.size_alloc, World.size_setCell, World.size_drew] at *; omega) | omega) (by first | exact Nat.le_refl _ | (simp only [World.size_alloc, World.size_setCell, World.size_drew] at *; omega) | omega)
          replace r2 := Rd.grownOwn r2 gr18 o12 (by first | exact Nat.le_refl _ | (simp only [World.size_alloc, World.size_setCell, World.size_drew] at *; omega) | omega) (by first | exact Nat.le_refl _ | (simp only [World.size_alloc, World.size_setCell, World.size_drew] at *; omega) | omega)
          replace b27 := Blk.grown b27 gr18 (fun e => own_ne_blk o12 b27 (by decide) e.symm)
          refine hK18.out _ _ ?su1xb1xb9x18 (fun hHeld => ?ru1xb1xb9x18)
          case su1xb1xb9x18 => ((try dsimp only); exact ⟨⟨(HW.cell hbb).trans C0.out.1.1, (HW.cell hbb).trans C0.out.1.2⟩, ⟨(HW.cell hbb).trans C0.out.2.1, (HW.cell hbb).trans C0.out.2.2⟩⟩)
          try simp only [List.setIfInBounds_toArray, List.set_cons_zero, List.set_cons_succ]
          refine wpAnyH_ready (rs := [25]) (by kernel_rfl) (by simp) (AllReadyH.cons rfl (fun K25 hK25 => ?ku1xb1xb9x25) AllReadyH.nil)
          refine take_app El_i 25 (Operand.tmp 34) (Operand.tmp 40) 22 rfl rfl rfl (by kernel_rfl) o18 rfl (r2) rfl (ints_one _) (by unfold maxLen; omega) (by omega) (by first | exact Nat.le_refl _ | (simp only [World.size_alloc, World.size_setCell, World.size_drew] at *; omega) | omega) ?_
          intro A25 c25 w25 o25 gr25 at25
          have z25 := gr25.size
          try simp only [World.size_drew] at z25
          replace HW := below_grown HW gr25 o18 (by first | exact Nat.le_refl _ | (simp only [World.size_alloc, World.size_setCell, World.size_drew] at *; omega) | omega)
          have zHW25 := HW.size
          replace r1 := Rd.grownOwn r1 gr25 o18 (by first | exact Nat.le_refl _ | (simp only [World.size_alloc, World.size_setCell, World.size_drew] at *; omega) | omega) (by first | exact Nat.le_refl _ | (simp only [World.size_alloc, World.size_setCell, World.size_drew] at *; omega) | omega)
          replace r2 := Rd.grownOwn r2 gr25 o18 (by first | exact Nat.le_refl _ | (simp only [World.size_alloc, World.size_setCell, World.size_drew] at *; omega) | omega) (by first | exact Nat.le_refl _ | (simp only [World.size_alloc, World.size_setCell, World.size_drew] at *; omega) | omega)
          replace b27 := Blk.grown b27 gr25 (fun e => own_ne_blk o18 b27 (by decide) e.symm)
          refine hK25.out _ _ ?su1xb1xb9x25 (fun hHeld => ?ru1xb1xb9x25)
          case su1xb1xb9x25 => ((try dsimp only); exact ⟨⟨(HW.cell hbb).trans C0.out.1.1, (HW.cell hbb).trans C0.out.1.2⟩, ⟨(HW.cell hbb).trans C0.out.2.1, (HW.cell hbb).trans C0.out.2.2⟩⟩)
          try simp only [List.setIfInBounds_toArray, List.set_cons_zero, List.set_cons_succ]
          refine take_op (v := ?vu1xb1xb9x26) 26 (Op.build 111 #[(0, Operand.tmp 27), (1, Operand.tmp 41)]) 111 rfl rfl rfl rfl rfl (by kernel_rfl) (by kernel_rfl) (by kernel_rfl) (fun _ _ _ h => h) ?yu1xb1xb9x26 (by assumption) ?ru1xb1xb9x26
          case yu1xb1xb9x26 => (intro w' hSw; (try dsimp only at hSw); go_simp; try (with_reducible rfl))
          simp only [List.setIfInBounds_toArray, List.set_cons_zero, List.set_cons_succ]
          refine wpAnyH_ready (rs := [28]) (by kernel_rfl) (by simp) (AllReadyH.cons rfl (fun K28 hK28 => ?ku1xb1xb9x28) AllReadyH.nil)
          refine take_store 28 (Op.store 111 (Operand.tmp 7) (Operand.tmp 42)) 0 rfl rfl rfl (by kernel_rfl) (w' := ((w25.setCell ⟨g27, 0, none⟩ (.int .i64 (xw + yw))).setCell ⟨g27, 1, none⟩ (.slice A25 (0 + xn + yn) c25)).setCell ⟨g27, 2, none⟩ (.bool false)) (by obtain ⟨k0, k1, k2, f0, f1, f2, _⟩ := blk3 b27; go_simp; try (with_reducible rfl)) ?_
          refine hK28.out _ _ ((fun (HW' : Below wr.heap.size wr _) => ⟨⟨(HW'.cell hbb).trans C0.out.1.1, (HW'.cell hbb).trans C0.out.1.2⟩, ⟨(HW'.cell hbb).trans C0.out.2.1, (HW'.cell hbb).trans C0.out.2.2⟩⟩) (((HW.setCell (p := ⟨g27, 0, none⟩) (by dsimp only; omega) (.int .i64 (xw + yw))).setCell (p := ⟨g27, 1, none⟩) (by dsimp only; omega) (.slice A25 (0 + xn + yn) c25)).setCell (p := ⟨g27, 2, none⟩) (by dsimp only; omega) (.bool false))) (fun hHeld => ?_)
          have hnb := own_ne_blk o25 b27 (by decide)
          replace o25 := ((o25.far (p := ⟨g27, 0, none⟩) hnb (.int .i64 (xw + yw))).far (p := ⟨g27, 1, none⟩) hnb (.slice A25 (0 + xn + yn) c25)).far (p := ⟨g27, 2, none⟩) hnb (.bool false)
          replace b27 := ((b27.set 0 (.int .i64 (xw + yw))).set 1 (.slice A25 (0 + xn + yn) c25)).set 2 (.bool false)
          replace HW := ((HW.setCell (p := ⟨g27, 0, none⟩) (by dsimp only; omega) (.int .i64 (xw + yw))).setCell (p := ⟨g27, 1, none⟩) (by dsimp only; omega) (.slice A25 (0 + xn + yn) c25)).setCell (p := ⟨g27, 2, none⟩) (by dsimp only; omega) (.bool false)
          generalize (((w25.setCell ⟨g27, 0, none⟩ (.int .i64 (xw + yw))).setCell ⟨g27, 1, none⟩ (.slice A25 (0 + xn + yn) c25)).setCell ⟨g27, 2, none⟩ (.bool false)) = wz at *
          refine wpAnyH_done (by kernel_rfl) ?_ _
          clear hHeld
          have hzz := HW.size
          have b28 : Blk wz g27 111 #[.int .i64 (xw + yw), .slice A25 (xn + yn) c25, .bool false] := by simpa using b27
          have e0 := b28.cell_ 0 rfl
          have e1 := b28.cell_ 1 rfl
          have e2 := b28.cell_ 2 rfl
          have o26 : Own wz wr.heap.size 3 1 A25 (xn + yn) c25 (ints (xs ++ ys)) := by rw [ints_cat]; simpa using o25
          have hSx : SymX X wz ⟨xw + yw, A25, xn + yn, c25, false, xs ++ ys⟩ := ⟨o26.rd, o26.cap, fun k' hk' => ⟨(o26.blk k' hk').2, HXX.out _ (Nat.le_trans hsz (o26.blk k' hk').1)⟩⟩
          have C := put_row X A3 k c3 ts3 ⟨xw + yw, A25, xn + yn, c25, false, xs ++ ys⟩ wz (R3.below HW) hSx (fun k' hk' => HXX.out _ (by omega)) (by omega)
          unfold TT.val at C
          dsimp only at C
          have HC := Lib.hid C
          have HW2 := HW
          clear C hSx o26 o25 b28 b27
          go_wp2_with fail
          refine HC.out.mono ?_
          rintro e w4 ⟨A4, c4, rfl, R4, hb4⟩
          have HB4 := HB.trans ((HW2.trans (hb4.mono HW2.size)).mono hsz)
          go_wp2_with fail
          go_roundw
          case rel => exact ⟨k + 1, i + 2, c4, A4, _, by go_num, by omega, by omega, rfl, by omega, R4, by rw [put_abs, HT.out, HPG.out, putsP_snoc]; rfl, HB4⟩
          case measure => simp [intOf]; omega
      case ku1x27 =>
        refine take_new (t := 111) (cs := #[.int .i64 0, .slice none 0 0, .bool false]) 27 (Op.alloc 111) 0 rfl rfl rfl (by kernel_rfl) ?eu1xb13x27 ?_
        case eu1xb13x27 => (go_simp; try (first | with_reducible rfl | rfl))
        intro g27 w27 b27 gr27 l27 m27
        have z27 := gr27.size
        try simp only [World.size_drew] at z27
        try simp only [World.size_drew, World.size_alloc] at l27
        replace HW := below_grow HW gr27
        have zHW27 := HW.size
        replace r1 := Rd.grow0 r1 gr27 (by first | exact Nat.le_refl _ | (simp only [World.size_alloc, World.size_setCell, World.size_drew] at *; omega) | omega)
        replace r2 := Rd.grow0 r2 gr27 (by first | exact Nat.le_refl _ | (simp only [World.size_alloc, World.size_setCell, World.size_drew] at *; omega) | omega)
        refine hK27.out _ _ ?su1xb13x27 (fun hHeld => ?ru1xb13x27)
        case su1xb13x27 => ((try dsimp only); exact ⟨⟨(HW.cell hbb).trans C0.out.1.1, (HW.cell hbb).trans C0.out.1.2⟩, ⟨(HW.cell hbb).trans C0.out.2.1, (HW.cell hbb).trans C0.out.2.2⟩⟩)
        try simp only [List.setIfInBounds_toArray, List.set_cons_zero, List.set_cons_succ]
        refine wpAnyH_ready (rs := [12]) (by kernel_rfl) (by simp) (AllReadyH.cons rfl (fun K12 hK12 => ?ku1xb13x12) AllReadyH.nil)
        refine take_build (e := 3) (len := 0) (size := 1) (wr.heap.size) (([] : List Value)) 12 (Op.buildSlice 22 0 #[]) 22 rfl rfl rfl (by kernel_rfl) ?eu1xb13x12 (by rfl) (by decide) (by first | exact Nat.le_refl _ | (simp only [World.size_alloc, World.size_setCell, World.size_drew] at *; omega) | omega) ?_
        case eu1xb13x12 => (go_simp; try (first | with_reducible rfl | (simp [rcells, rcell]; done) | (simp [fcells]; done) | (simp [tcells]; done) | rfl))
        intro gx12 w12 o12 gr12 l12 m12
        have z12 := gr12.size
        try simp only [World.size_drew] at z12
        replace HW := below_grow HW gr12
        have zHW12 := HW.size
        replace r1 := Rd.grow0 r1 gr12 (by first | exact Nat.le_refl _ | (simp only [World.size_alloc, World.size_setCell, World.size_drew] at *; omega) | omega)
        replace r2 := Rd.grow0 r2 gr12 (by first | exact Nat.le_refl _ | (simp only [World.size_alloc, World.size_setCell, World.size_drew] at *; omega) | omega)
        replace b27 := Blk.grow0 b27 gr12
        refine hK12.out _ _ ?su1xb13x12 (fun hHeld => ?ru1xb13x12)
        case su1xb13x12 => ((try dsimp only); exact ⟨⟨(HW.cell hbb).trans C0.out.1.1, (HW.cell hbb).trans C0.out.1.2⟩, ⟨(HW.cell hbb).trans C0.out.2.1, (HW.cell hbb).trans C0.out.2.2⟩⟩)
        try simp only [List.setIfInBounds_toArray, List.set_cons_zero, List.set_cons_succ]
        refine wpAnyH_ready (rs := [18]) (by kernel_rfl) (by simp) (AllReadyH.cons rfl (fun K18 hK18 => ?ku1xb13x18) AllReadyH.nil)
        refine take_app El_i 18 (Operand.tmp 28) (Operand.tmp 33) 22 rfl rfl rfl (by kernel_rfl) o12 rfl (r1) rfl (ints_one _) (by unfold maxLen; omega) (by omega) (by first | exact Nat.le_refl _ | (simp only [World.size_alloc, World.size_setCell, World.size_drew] at *; omega) | omega) ?_
        intro A18 c18 w18 o18 gr18 at18
        have z18 := gr18.size
        try simp only [World.size_drew] at z18
        replace HW := below_grown HW gr18 o12 (by first | exact Nat.le_refl _ | (simp only [World.size_alloc, World.size_setCell, World.size_drew] at *; omega) | omega)
        have zHW18 := HW.size
        replace r1 := Rd.grownOwn r1 gr18 o12 (by first | exact Nat.le_refl _ | (simp only [World.size_alloc, World.size_setCell, World.size_drew] at *; omega) | omega) (by first | exact Nat.le_refl _ | (simp only [World.size_alloc, World.size_setCell, World.size_drew] at *; omega) | omega)
        replace r2 := Rd.grownOwn r2 gr18 o12 (by first | exact Nat.le_refl _ | (simp only [World.size_alloc, World.size_setCell, World.size_drew] at *; omega) | omega) (by first | exact Nat.le_refl _ | (simp only [World.size_alloc, World.size_setCell, World.size_drew] at *; omega) | omega)
        replace b27 := Blk.grown b27 gr18 (fun e => own_ne_blk o12 b27 (by decide) e.symm)
        refine hK18.out _ _ ?su1xb13x18 (fun hHeld => ?ru1xb13x18)
        case su1xb13x18 => ((try dsimp only); exact ⟨⟨(HW.cell hbb).trans C0.out.1.1, (HW.cell hbb).trans C0.out.1.2⟩, ⟨(HW.cell hbb).trans C0.out.2.1, (HW.cell hbb).trans C0.out.2.2⟩⟩)
        try simp only [List.setIfInBounds_toArray, List.set_cons_zero, List.set_cons_succ]
        refine wpAnyH_ready (rs := [25]) (by kernel_rfl) (by simp) (AllReadyH.cons rfl (fun K25 hK25 => ?ku1xb13x25) AllReadyH.nil)
        refine take_app El_i 25 (Operand.tmp 34) (Operand.tmp 40) 22 rfl rfl rfl (by kernel_rfl) o18 rfl (r2) rfl (ints_one _) (by unfold maxLen; omega) (by omega) (by first | exact Nat.le_refl _ | (simp only [World.size_alloc, World.size_setCell, World.size_drew] at *; omega) | omega) ?_
        intro A25 c25 w25 o25 gr25 at25
        have z25 := gr25.size
        try simp only [World.size_drew] at z25
        replace HW := below_grown HW gr25 o18 (by first | exact Nat.le_refl _ | (simp only [World.size_alloc, World.size_setCell, World.size_drew] at *; omega) | omega)
        have zHW25 := HW.size
        replace r1 := Rd.grownOwn r1 gr25 o18 (by first | exact Nat.le_refl _ | (simp only [World.size_alloc, World.size_setCell, World.size_drew] at *; omega) | omega) (by first | exact Nat.le_refl _ | (simp only [World.size_alloc, World.size_setCell, World.size_drew] at *; omega) | omega)
        replace r2 := Rd.grownOwn r2 gr25 o18 (by first | exact Nat.le_refl _ | (simp only [World.size_alloc, World.size_setCell, World.size_drew] at *; omega) | omega) (by first | exact Nat.le_refl _ | (simp only [World.size_alloc, World.size_setCell, World.size_drew] at *; omega) | omega)
        replace b27 := Blk.grown b27 gr25 (fun e => own_ne_blk o18 b27 (by decide) e.symm)
        refine hK25.out _ _ ?su1xb13x25 (fun hHeld => ?ru1xb13x25)
        case su1xb13x25 => ((try dsimp only); exact ⟨⟨(HW.cell hbb).trans C0.out.1.1, (HW.cell hbb).trans C0.out.1.2⟩, ⟨(HW.cell hbb).trans C0.out.2.1, (HW.cell hbb).trans C0.out.2.2⟩⟩)
        try simp only [List.setIfInBounds_toArray, List.set_cons_zero, List.set_cons_succ]
        refine take_op (v := ?vu1xb13x26) 26 (Op.build 111 #[(0, Operand.tmp 27), (1, Operand.tmp 41)]) 111 rfl rfl rfl rfl rfl (by kernel_rfl) (by kernel_rfl) (by kernel_rfl) (fun _ _ _ h => h) ?yu1xb13x26 (by assumption) ?ru1xb13x26
        case yu1xb13x26 => (intro w' hSw; (try dsimp only at hSw); go_simp; try (with_reducible rfl))
        simp only [List.setIfInBounds_toArray, List.set_cons_zero, List.set_cons_succ]
        refine wpAnyH_ready (rs := [28]) (by kernel_rfl) (by simp) (AllReadyH.cons rfl (fun K28 hK28 => ?ku1xb13x28) AllReadyH.nil)
        refine take_store 28 (Op.store 111 (Operand.tmp 7) (Operand.tmp 42)) 0 rfl rfl rfl (by kernel_rfl) (w' := ((w25.setCell ⟨g27, 0, none⟩ (.int .i64 (xw + yw))).setCell ⟨g27, 1, none⟩ (.slice A25 (0 + xn + yn) c25)).setCell ⟨g27, 2, none⟩ (.bool false)) (by obtain ⟨k0, k1, k2, f0, f1, f2, _⟩ := blk3 b27; go_simp; try (with_reducible rfl)) ?_
        refine hK28.out _ _ ((fun (HW' : Below wr.heap.size wr _) => ⟨⟨(HW'.cell hbb).trans C0.out.1.1, (HW'.cell hbb).trans C0.out.1.2⟩, ⟨(HW'.cell hbb).trans C0.out.2.1, (HW'.cell hbb).trans C0.out.2.2⟩⟩) (((HW.setCell (p := ⟨g27, 0, none⟩) (by dsimp only; omega) (.int .i64 (xw + yw))).setCell (p := ⟨g27, 1, none⟩) (by dsimp only; omega) (.slice A25 (0 + xn + yn) c25)).setCell (p := ⟨g27, 2, none⟩) (by dsimp only; omega) (.bool false))) (fun hHeld => ?_)
        have hnb := own_ne_blk o25 b27 (by decide)
        replace o25 := ((o25.far (p := ⟨g27, 0, none⟩) hnb (.int .i64 (xw + yw))).far (p := ⟨g27, 1, none⟩) hnb (.slice A25 (0 + xn + yn) c25)).far (p := ⟨g27, 2, none⟩) hnb (.bool false)
        replace b27 := ((b27.set 0 (.int .i64 (xw + yw))).set 1 (.slice A25 (0 + xn + yn) c25)).set 2 (.bool false)
        replace HW := ((HW.setCell (p := ⟨g27, 0, none⟩) (by dsimp only; omega) (.int .i64 (xw + yw))).setCell (p := ⟨g27, 1, none⟩) (by dsimp only; omega) (.slice A25 (0 + xn + yn) c25)).setCell (p := ⟨g27, 2, none⟩) (by dsimp only; omega) (.bool false)
        generalize (((w25.setCell ⟨g27, 0, none⟩ (.int .i64 (xw + yw))).setCell ⟨g27, 1, none⟩ (.slice A25 (0 + xn + yn) c25)).setCell ⟨g27, 2, none⟩ (.bool false)) = wz at *
        refine wpAnyH_done (by kernel_rfl) ?_ _
        clear hHeld
        have hzz := HW.size
        have b28 : Blk wz g27 111 #[.int .i64 (xw + yw), .slice A25 (xn + yn) c25, .bool false] := by simpa using b27
        have e0 := b28.cell_ 0 rfl
        have e1 := b28.cell_ 1 rfl
        have e2 := b28.cell_ 2 rfl
        have o26 : Own wz wr.heap.size 3 1 A25 (xn + yn) c25 (ints (xs ++ ys)) := by rw [ints_cat]; simpa using o25
        have hSx : SymX X wz ⟨xw + yw, A25, xn + yn, c25, false, xs ++ ys⟩ := ⟨o26.rd, o26.cap, fun k' hk' => ⟨(o26.blk k' hk').2, HXX.out _ (Nat.le_trans hsz (o26.blk k' hk').1)⟩⟩
        have C := put_row X A3 k c3 ts3 ⟨xw + yw, A25, xn + yn, c25, false, xs ++ ys⟩ wz (R3.below HW) hSx (fun k' hk' => HXX.out _ (by omega)) (by omega)
        unfold TT.val at C
        dsimp only at C
        have HC := Lib.hid C
        have HW2 := HW
        clear C hSx o26 o25 b28 b27
        go_wp2_with fail
        refine HC.out.mono ?_
        rintro e w4 ⟨A4, c4, rfl, R4, hb4⟩
        have HB4 := HB.trans ((HW2.trans (hb4.mono HW2.size)).mono hsz)
        go_wp2_with fail
        go_roundw
        case rel => exact ⟨k + 1, i + 2, c4, A4, _, by go_num, by omega, by omega, rfl, by omega, R4, by rw [put_abs, HT.out, HPG.out, putsP_snoc]; rfl, HB4⟩
        case measure => simp [intOf]; omega
    · have hge : ¬ ((i : Int) + 1 < (n : Int)) := by omega
      have hk : k = n / 2 := by omega
      have hadd : IntKind.i64.wrap ((i : Int) + 1) = (i : Int) + 1 := w64k (by omega) (by omega)
      have e1 : (pksP (ts.map TT.abs)).take k = pksP (ts.map TT.abs) := List.take_of_length_le (by rw [HPL.out]; omega)
      have HT2 := Lib.hid (show ts3.map TT.abs = putsP ((ls.map TT.abs).take 0) (putsP (pksP (ts.map TT.abs)) []) by rw [HT.out, e1]; rfl)
      have HK := Lib.hid hk
      have hk6 : k ≤ 300 := by omega
      have hr2 := h2.below HB
      clear hk e1 HT
      go_wp2_with fail
      go_loopw [5, 8] (fun out s wr' => ∃ (j q c3 : Nat) (A3 : Option Addr) (ts3 : List TT), s = .int .i64 j ∧ out = .slice A3 q c3 ∧ q ≤ k + j ∧ k + j ≤ q ∧ j ≤ n2 ∧ RowX X wr' A3 q c3 ts3 ∧ ts3.map TT.abs = putsP ((ls.map TT.abs).take j) (putsP (pksP (ts.map TT.abs)) []) ∧ Below w.heap.size w wr') (fun _ s _ => n2 - (intOf s).toNat)
      case atStart => exact ⟨0, k, c3, A3, ts3, rfl, rfl, by omega, by omega, by omega, R3, HT2.out, HB⟩
      case round =>
        clear R3 HB HT2 hsz hr hr2
        obtain ⟨j, q, c3, A3, ts3, rfl, rfl, hq1, hq2, hj, R3, hT, HB⟩ := hrel
        have HT := Lib.hid hT
        have hsz := HB.size
        have hr := h2.below HB
        clear hT
        by_cases hlt2 : j < n2
        · have hjl : j < ls.length := by omega
          have hjI : (j : Int) < (n2 : Int) := by omega
          have hj0 : (0 : Int) ≤ (j : Int) := by omega
          have hadd3 : IntKind.i64.wrap ((j : Int) + 1) = (j : Int) + 1 := w64k (by omega) (by omega)
          obtain ⟨b, o, rfl, hbb, hcc⟩ := rd_tcells hr.rd (by omega)
          obtain ⟨d0, d1, d2⟩ := hcc j hjl
          have s1 := hr.sym _ (List.getElem_mem hjl)
          have HTK := Lib.hid (show (ls.map TT.abs).take (j + 1) = (ls.map TT.abs).take j ++ [TT.abs ls[j]] by rw [List.take_succ_eq_append_getElem (by rw [List.length_map]; exact hjl)]; simp)
          obtain ⟨x, hx⟩ : ∃ x, ls[j] = x := ⟨_, rfl⟩
          rw [hx] at d0 d1 d2 s1 HTK
          have C := put_row X A3 q c3 ts3 x wr R3 s1 (fun k' hk' => HXX.out _ (by omega)) (by omega)
          obtain ⟨xw, xA, xn, xc, xl, xs⟩ := x
          unfold TT.val at C
          dsimp only at d0 d1 d2 C
          have HC := Lib.hid C
          clear hcc hx s1 C
          go_wp2_with fail
          refine HC.out.mono ?_
          rintro e w4 ⟨A4, c4, rfl, R4, hb4⟩
          have HB4 := HB.trans (hb4.mono hsz)
          go_wp2_with fail
          go_roundw
          case rel => exact ⟨j + 1, q + 1, c4, A4, _, by go_num, rfl, by omega, by omega, by omega, R4, by rw [put_abs, HT.out, HTK.out, putsP_snoc], HB4⟩
          case measure => simp [intOf]; omega
        · have hjI : ¬ (j : Int) < (n2 : Int) := by omega
          obtain rfl : q = n / 2 + n2 := by have := HK.out; omega
          have HT2 := Lib.hid (show ts3.map TT.abs = nextP (ts.map TT.abs) (ls.map TT.abs) by rw [HT.out, List.take_of_length_le (by rw [List.length_map]; omega)]; rfl)
          go_wp2_with fail
          try rw [Exit.noGoto_ret]
          go_ret
          first | exact ⟨A3, c3, rfl, ts3, R3, HT2.out, HB⟩ | exact ⟨A3, c3, rfl, ⟨ts3, R3, HT2.out⟩, HB⟩
end LenW
end Go.Proofs.Ytdfclgpkhfpkhaa

namespace Go.Proofs.Ytdfclgpkhfpkhaa
set_option linter.unusedVariables false
set_option linter.unusedSimpArgs false
set_option linter.unnecessarySimpa false
open Go.RowKit
namespace LenW

structure GoodP (m : Nat) (n : Int) (x : PT) : Prop where
  w0 : 0 ≤ x.1
  w1 : x.1 ≤ 1000000 * 2 ^ m
  sl : x.2.1.length ≤ 2 ^ m
  sy : ∀ s ∈ x.2.1, 0 ≤ s ∧ s < n
theorem putP_mem {x z : PT} {l : List PT} (h : z ∈ putP x l) : z = x ∨ z ∈ l := by
  induction l with
  | nil => simp [putP] at h; exact .inl h
  | cons y r ih =>
    unfold putP at h
    split at h
    · rcases List.mem_cons.1 h with rfl | h
      · exact .inr (by simp)
      · rcases ih h with h | h
        · exact .inl h
        · exact .inr (by simp [h])
    · rcases List.mem_cons.1 h with rfl | h
      · exact .inl rfl
      · exact .inr h
theorem putsP_mem {z : PT} (l : List PT) : ∀ r, z ∈ putsP l r → z ∈ l ∨ z ∈ r := by
  induction l with
  | nil => intro r h; exact .inr h
  | cons x l ih =>
    intro r h
    rcases ih (putP x r) h with h | h
    · exact .inl (by simp [h])
    · rcases putP_mem h with rfl | h
      · exact .inl (by simp)
      · exact .inr h
theorem putsP_len (l : List PT) : ∀ r, (putsP l r).length = l.length + r.length := by
  induction l with
  | nil => intro r; simp [putsP]
  | cons x l ih => intro r; show (putsP l (putP x r)).length = _; rw [ih, putP_len]; simp; omega
theorem pksP_mem {z : PT} (r : List PT) (h : z ∈ pksP r) : ∃ a ∈ r, ∃ b ∈ r, z = (a.1 + b.1, a.2.1 ++ b.2.1, false) := by
  obtain ⟨k, hk, rfl⟩ := List.getElem_of_mem h
  have hl := pksP_len r
  have e := pksP_get r k (by omega)
  rw [List.getElem?_eq_getElem hk] at e
  exact ⟨_, List.getElem_mem (show 2 * k < r.length by omega), _, List.getElem_mem (show 2 * k + 1 < r.length by omega), Option.some.inj e⟩
def rowP (F : List PT) : Nat → List PT
  | 0 => F
  | m + 1 => nextP (rowP F m) F
theorem nextP_len (row F : List PT) : (nextP row F).length = row.length / 2 + F.length := by unfold nextP; rw [putsP_len, putsP_len, pksP_len]; simp; omega
theorem rowP_le (F : List PT) (m : Nat) : (rowP F m).length ≤ 2 * F.length := by
  induction m with
  | zero => show F.length ≤ _; omega
  | succ m ih => rw [rowP, nextP_len]; omega
theorem rowP_len (F : List PT) (G : List (Int × Int)) (h : F.length = G.length) (m : Nat) : (rowP F m).length = (rowW G m).length := by
  induction m with
  | zero => exact h
  | succ m ih => rw [rowP, nextP_len, rowW_len, ih, h]; omega
theorem GoodP.up {m : Nat} {n : Int} {x : PT} (h : GoodP 0 n x) : GoodP m n x := by
  obtain ⟨h1, h2, h3, h4⟩ := h
  have p1 : (0 : Int) < 2 ^ m := Int.pow_pos (by omega)
  have p2 : 1 ≤ 2 ^ m := Nat.one_le_two_pow
  refine ⟨h1, ?_, ?_, h4⟩
  · generalize (2 : Int) ^ m = z at *; simp at h2; omega
  · generalize (2 : Nat) ^ m = z at *; simp at h3; omega
theorem rowP_good (F : List PT) (n : Int) (hF : ∀ x ∈ F, GoodP 0 n x) (m : Nat) : ∀ x ∈ rowP F m, GoodP m n x := by
  induction m with
  | zero => exact hF
  | succ m ih =>
    intro x hx
    rcases putsP_mem _ _ hx with h | h
    · exact (hF x h).up
    · rcases putsP_mem _ _ h with h | h
      · obtain ⟨a, ha, b, hb, rfl⟩ := pksP_mem _ h
        obtain ⟨a1, a2, a3, a4⟩ := ih a ha
        obtain ⟨b1, b2, b3, b4⟩ := ih b hb
        refine ⟨by dsimp only; omega, ?_, ?_, fun s hs => ?_⟩
        · rw [Int.pow_succ]; dsimp only; omega
        · rw [Nat.pow_succ, List.length_append]; omega
        · rcases List.mem_append.1 hs with h | h
          · exact a4 s h
          · exact b4 s h
      · simp at h
theorem firstP_good (l : List Int) (hb : l.any badN = false) (k : Nat) (hk : k ≤ l.length) : ∀ x ∈ firstP l k, GoodP 0 (l.length : Int) x := by
  induction k with
  | zero => intro x hx; simp [firstP] at hx
  | succ k ih =>
    intro x hx
    rw [firstP, List.getElem?_eq_getElem (show k < l.length by omega), Option.getD_some] at hx
    split at hx
    · rename_i hp
      rcases putP_mem hx with rfl | hx
      · have := (List.any_eq_false.1 hb) _ (List.getElem_mem (show k < l.length by omega))
        simp [badN] at this
        refine ⟨by dsimp only; omega, by simp; omega, by simp, fun s hs => ?_⟩
        simp at hs
        subst hs
        omega
      · exact ih (by omega) x hx
    · exact ih (by omega) x hx
def incL (L : List Int) (s : Int) : List Int := L.set s.toNat (L[s.toNat]?.getD 0 + 1)
def sumsP (ts : List PT) (L : List Int) : List Int := ts.foldl (fun L t => t.2.1.foldl incL L) L
theorem sumsP_snoc (ts : List PT) (i : Nat) (h : i < ts.length) (L : List Int) : sumsP (ts.take (i + 1)) L = ts[i].2.1.foldl incL (sumsP (ts.take i) L) := by
  unfold sumsP
  rw [List.take_succ_eq_append_getElem h, List.foldl_append]
  rfl
theorem incs_snoc (s : List Int) (k : Nat) (h : k < s.length) (L : List Int) : (s.take (k + 1)).foldl incL L = incL ((s.take k).foldl incL L) s[k] := by
  rw [List.take_succ_eq_append_getElem h, List.foldl_append]
  rfl
theorem incs_len (s : List Int) : ∀ L : List Int, (s.foldl incL L).length = L.length := by
  induction s with
  | nil => intro L; rfl
  | cons x s ih => intro L; rw [List.foldl_cons, ih]; simp [incL]
theorem sumsP_len (ts : List PT) : ∀ L : List Int, (sumsP ts L).length = L.length := by
  induction ts with
  | nil => intro L; rfl
  | cons t ts ih => intro L; show (sumsP ts (t.2.1.foldl incL L)).length = _; rw [ih, incs_len]
theorem pow2_15 {k : Nat} (h : k ≤ 15) : (2 : Nat) ^ k ≤ 32768 := Nat.pow_le_pow_right (n := 2) (by omega) h
set_option maxRecDepth 100000 in
set_option maxHeartbeats 16000000 in
/-- What is taken of the last row. -/
theorem refBest_many (A : Option Addr) (n c : Nat) (l : List Int) (most : Int) (w : World) (h : Rd w w.heap.size 1 A n (ints l)) (hv : refuseW l most = 0) (hf2 : ¬ usedL l < 2) :
    Calls Try.prog 47 #[.slice A n c, .int .i64 most] w fun e w' => ∃ g, w.heap.size ≤ g ∧ g < w'.heap.size ∧ e = .returned (.tuple #[.slice (some ⟨g, 0, none⟩) n n, .int .i64 0]) ∧ Blk w' g 3 (ints (sumsP ((rowP (firstP l l.length) (most.toNat - 1)).take (2 * usedL l - 2)) (List.replicate n 0))).toArray ∧ Below w.heap.size w w' := by
  have hl : l.length = n := rd_len h
  obtain ⟨hl257, hm1, hm15, hbad, hroom⟩ := refuseW_ok hv
  have hn : n ≤ 257 := by omega
  have HGF := Lib.hid (show ∀ x ∈ firstP l l.length, GoodP 0 (n : Int) x from fun x hx => by have := firstP_good l hbad l.length (Nat.le_refl _) x hx; rw [hl] at this; exact this)
  have HFL := Lib.hid (show (firstP l l.length).length = usedL l by rw [firstP_len l _ (Nat.le_refl _), List.take_length])
  have HRR := Lib.hid (show ∀ m, (rowP (firstP l l.length) m).length = (rowW (lvs l) m).length from fun m => rowP_len _ _ (by rw [HFL.out, lvs_len]) m)
  have HRM0 := Lib.hid (rowW_room (lvs l) most.toNat (by rw [lvs_len]; exact hroom))
  have HLV := Lib.hid (lvs_len l)
  have HBAD := Lib.hid hbad
  have CF := fun w (h : Rd w w.heap.size 1 A n (ints l)) => first_any A n c l w h (by omega)
  have hu1 := usedL_le l
  have HLN := Lib.hid hl
  obtain ⟨F, hF⟩ : ∃ F, firstP l l.length = F := ⟨_, rfl⟩
  obtain ⟨f, hf⟩ : ∃ f, usedL l = f := ⟨_, rfl⟩
  rw [hF] at HGF HFL HRR CF
  rw [hf] at HFL CF hu1 hroom hf2 HLV
  rw [hF, hf]
  obtain ⟨mm, rfl⟩ : ∃ mm : Nat, most = ((mm + 1 : Nat) : Int) := ⟨(most - 1).toNat, by omega⟩
  rw [Int.toNat_natCast] at HRM0 hroom ⊢
  rw [Nat.add_sub_cancel]
  have hmm : mm ≤ 14 := by omega
  obtain ⟨z, hz⟩ : ∃ z, 2 ^ (mm + 1) = z := ⟨_, rfl⟩
  have CPW := power_any (mm + 1) (by omega)
  rw [hz] at hroom
  have CPW2 := fun w => CPW w z hz
  have hfz : ¬ (z : Int) < (f : Int) := by omega
  have HRM := Lib.hid (show 2 * f ≤ (rowP F mm).length + 2 by
    have h1 := HRM0.out mm (by omega)
    rw [HLV.out, show mm + 1 - mm = 1 by omega] at h1
    rw [HRR.out]
    omega)
  have hf1 : ¬ (f : Int) = 1 := by omega
  have hf1b : ((f : Int) == 1) = false := by simp; omega
  have hf2I : ¬ (f : Int) < 2 := by omega
  have hfn : f ≤ 257 := by omega
  have hd1 : decide ((mm : Int) + 1 < 1) = false := by simp; omega
  have hd2 : decide ((15 : Int) < (mm : Int) + 1) = false := by simp; omega
  have hd3 : decide ((z : Int) < (f : Int)) = false := by simp; omega
  have hd4 : decide (z < f) = false := by simp; omega
  have hd5 : decide ((f : Int) < 2) = false := by simp; omega
  have hd6 : decide (f < 2) = false := by simp; omega
  have hd7 : decide ((f : Int) = 1) = false := by simp; omega
  have hF1 : ¬ ((n : Int) > 257) := by omega
  have hn0 : l.length ≤ n := by omega
  have hn0' : n ≤ l.length := by omega
  obtain ⟨q2, hq2⟩ : ∃ q2, 2 * f - 2 = q2 := ⟨_, rfl⟩
  obtain ⟨R, hRR⟩ : ∃ R, rowP F mm = R := ⟨_, rfl⟩
  rw [hq2, hRR]
  have HQ2 := Lib.hid hq2
  have HRQ := Lib.hid hRR
  clear hF hf hz CPW HRM0 HRR HLV hv hbad hroom hl hq2 hRR
  go_enter Try.func47, Try.ntmps47
  go_wp2_with fail
  go_loopw [6] (fun s wr => ∃ k : Nat, s = .int .i64 k ∧ k ≤ n ∧ wr = w) (fun s _ => n - (intOf s).toNat)
  case atStart => exact ⟨0, rfl, by omega, rfl⟩
  case round =>
    obtain ⟨k, rfl, hk, rfl⟩ := hrel
    by_cases hlt : k < n
    · have hkl : k < l.length := by omega
      obtain ⟨b, o, rfl, hb, hc⟩ := rd_ints h (by omega)
      have d0 : wr.cell? ⟨b, o + k, none⟩ = some (.int .i64 l[k]) := hc k hkl
      have hx2 := (List.any_eq_false.1 HBAD.out) _ (List.getElem_mem hkl)
      simp only [badN, Bool.or_eq_true, decide_eq_true_eq, not_or] at hx2
      obtain ⟨x, hx⟩ : ∃ x, l[k] = x := ⟨_, rfl⟩
      rw [hx] at d0 hx2
      have hx3 : ¬ x < 0 := hx2.1
      have hx4 : ¬ 1000000 < x := hx2.2
      have hkI : (k : Int) < (n : Int) := by omega
      have hk0 : (0 : Int) ≤ (k : Int) := by omega
      have hadd : IntKind.i64.wrap ((k : Int) + 1) = (k : Int) + 1 := w64k (by omega) (by omega)
      clear hc hx hx2
      go_wp2_with fail
      go_roundw
      case rel => exact ⟨k + 1, by go_num, by omega, by first | rfl | trivial⟩
      case measure => simp [intOf]; omega
    · have hkI : ¬ (k : Int) < (n : Int) := by omega
      go_wp2_with fail
      refine (CF _ h).mono ?_
      rintro e w1 ⟨A2, c2, ts, rfl, R1, hT, hb1⟩
      have h1 := h.below hb1
      have hz1 := hb1.size
      clear CF h
      go_wp2_with fail
      refine (CPW2 _).mono ?_
      rintro e w2 ⟨rfl, rfl⟩
      have hmk : (Instr.makeSlice 22 (.int .i64 n) (.int .i64 n)).run Try.prog w2 = .ok (.slice (some ⟨w2.heap.size, 0, none⟩) n n) (w2.alloc (.cells (madeCells #[.int .i64 0] n) 3)) :=
        run_make_row' 22 3 (.int .i64 0) 8 Try.underlying22 (by kernel_rfl) rfl .i64 .i64 n (by omega) (by omega) w2
      rw [made_ints] at hmk
      have bg := Blk.new w2 3 (ints (List.replicate n 0)).toArray
      have hbW := hb1.alloc hz1 (.cells (ints (List.replicate n 0)).toArray 3)
      go_wp2_with fail
      clear hmk
      obtain ⟨W, hW⟩ : ∃ W, w2.alloc (.cells (ints (List.replicate n 0)).toArray 3) = W := ⟨_, rfl⟩
      have hWs : W.heap.size = w2.heap.size + 1 := by rw [← hW]; simp
      have R2 : RowX (fun k => k ≠ w2.heap.size) W A2 f c2 ts := by
        have q := (R1.turn (Y := fun k => k ≠ w2.heap.size) (fun k hk _ => by omega)).below ((Below.refl _ _).alloc (Nat.le_refl _) (.cells (ints (List.replicate n 0)).toArray 3))
        rw [hW] at q
        exact q
      rw [hW] at bg hbW ⊢
      obtain ⟨g, hg⟩ : ∃ g, w2.heap.size = g := ⟨_, rfl⟩
      rw [hg] at bg hWs hz1 R2 ⊢
      have HT := Lib.hid hT
      clear h1 hb1 hW hg R1 CPW2 hT
      have hX : ∀ V : World, W.heap.size ≤ V.heap.size → ∀ k, V.heap.size ≤ k → k ≠ g := fun V h1 k h2 => by omega
      obtain ⟨V0, hV0⟩ : ∃ V, V = wr := ⟨wr, rfl⟩
      subst hV0
      go_loopw [9, 10] (fun s r wr' => ∃ (q n3 c3 : Nat) (A3 : Option Addr) (ts3 : List TT), r = .int .i64 ((q + 1 : Nat) : Int) ∧ s = .slice A3 n3 c3 ∧ q ≤ mm ∧ RowX (fun k => k ≠ g) wr' A3 n3 c3 ts3 ∧ ts3.map TT.abs = rowP F q ∧ RowX (fun k => k ≠ g) wr' A2 f c2 ts ∧ Blk wr' g 3 (ints (List.replicate n 0)).toArray ∧ Below V0.heap.size V0 wr' ∧ W.heap.size ≤ wr'.heap.size) (fun _ r _ => mm + 1 - (intOf r).toNat)
      case atStart => exact ⟨0, f, c2, A2, ts, rfl, rfl, by omega, R2, HT.out, R2, bg, hbW, Nat.le_refl _⟩
      case round =>
        clear R2 bg hbW
        obtain ⟨q, n3, c3, A3, ts3, rfl, rfl, hq, R3, hT3, R2, bg, HB, hzW⟩ := hrel
        obtain ⟨V1, hV1⟩ : ∃ V, V = wr := ⟨wr, rfl⟩
        subst hV1
        have HT3 := Lib.hid hT3
        have hn3 : n3 ≤ 600 := by
          have e := congrArg List.length hT3
          rw [List.length_map, rd_tlen R3.rd] at e
          have := rowP_le F q
          rw [HFL.out] at this
          omega
        have HN3 := Lib.hid (show (rowP F q).length = n3 by rw [← hT3, List.length_map, rd_tlen R3.rd])
        clear hT3
        have hsz := HB.size
        by_cases hlt2 : q < mm
        · have hqI : ((q + 1 : Nat) : Int) < (mm : Int) + 1 := by omega
          have hqI2 : (q : Int) < (mm : Int) := by omega
          have hadd : IntKind.i64.wrap ((q : Int) + 1 + 1) = (q : Int) + 1 + 1 := w64k (by omega) (by omega)
          have HG := Lib.hid (rowP_good F n HGF.out q)
          have C := next_any (fun k => k ≠ g) A3 n3 c3 ts3 A2 f c2 ts V1 (1000000 * 2 ^ q) (2 ^ q) R3 R2 (hX V1 hzW) hn3 (by omega)
            (fun t ht => by have := HG.out t.abs (by rw [← HT3.out]; exact List.mem_map_of_mem ht); exact ⟨this.w0, this.w1⟩) (pow_small (by omega))
            (fun t ht => (HG.out t.abs (by rw [← HT3.out]; exact List.mem_map_of_mem ht)).sl) (by have := pow2_15 (show q ≤ 15 by omega); omega)
          go_wp2_with fail
          refine C.mono ?_
          rintro e w4 ⟨A4, c4, ts4, rfl, R4, hT4, hb4⟩
          have HT4 := Lib.hid (show ts4.map TT.abs = rowP F (q + 1) by rw [hT4, HT3.out, HT.out]; rfl)
          have R24 := R2.below hb4
          have bg4 := bg.below hb4 (by omega)
          have HB4 := HB.trans (hb4.mono hsz)
          have z4 := hb4.size
          clear hT4 C
          go_wp2_with fail
          go_roundw
          case rel => exact ⟨q + 1, _, c4, A4, ts4, by go_num, rfl, by omega, R4, HT4.out, R24, bg4, HB4, by omega⟩
          case measure => simp [intOf]; omega
        · have hqI : ¬ ((q + 1 : Nat) : Int) < (mm : Int) + 1 := by omega
          have hqI2 : ¬ (q : Int) < (mm : Int) := by omega
          obtain rfl : q = mm := by omega
          have hq3 : q2 + 2 ≤ 2 * f := by have := HQ2.out; omega
          have hq4 : 2 * f ≤ q2 + 2 := by have := HQ2.out; omega
          have hq5 : q2 ≤ n3 := by have h7 := HRM.out; have h8 := HN3.out; omega
          have hw1 : IntKind.i64.wrap (2 * (f : Int)) = 2 * (f : Int) := w64k (by omega) (by omega)
          have hw2 : IntKind.i64.wrap (2 * (f : Int) - 2) = (q2 : Int) := (w64k (by omega) (by omega)).trans (by omega)
          have HG := Lib.hid (rowP_good F n HGF.out q)
          have hRR := HRQ.out
          rw [hRR] at HT3 HN3 HG HRM
          clear hRR R2 hX
          have hgW : g < V1.heap.size := bg.lt
          go_wp2_with fail
          go_loopw [11] (fun s v => ∃ i : Nat, s = .int .i64 i ∧ i ≤ q2 ∧ Blk v g 3 (ints (sumsP (R.take i) (List.replicate n 0))).toArray ∧ (∀ x ∈ sumsP (R.take i) (List.replicate n 0), 0 ≤ x ∧ x ≤ 40000 * (i : Int)) ∧ V1.grownBy v (some g)) (fun s _ => q2 - (intOf s).toNat)
          case atStart => exact ⟨0, rfl, by omega, bg, fun x hx => by have := (List.mem_replicate.1 hx).2; omega, World.grownBy.refl _ _⟩
          case round =>
            clear bg
            obtain ⟨i, rfl, hi, b3, hbd, hgr⟩ := hrel
            have HBD := Lib.hid hbd
            clear hbd
            by_cases hlt3 : i < q2
            · have hiI : (i : Int) < (q2 : Int) := by omega
              have hi0 : (0 : Int) ≤ (i : Int) := by omega
              have hin3 : (i : Int) < (n3 : Int) := by omega
              have hadd : IntKind.i64.wrap ((i : Int) + 1) = (i : Int) + 1 := w64k (by omega) (by omega)
              have hlT := rd_tlen R3.rd
              have hil : i < ts3.length := by omega
              have hiR : i < R.length := by rw [HN3.out]; omega
              have HSN := Lib.hid (sumsP_snoc R i hiR (List.replicate n 0))
              obtain ⟨t, ht⟩ : ∃ t, ts3[i] = t := ⟨_, rfl⟩
              have hRt : R[i] = t.abs := by
                have : (ts3.map TT.abs)[i]'(by rw [List.length_map]; exact hil) = R[i] := by simp only [HT3.out]
                rw [← this, List.getElem_map, ht]
              have hgd := HG.out _ (List.getElem_mem hiR)
              rw [hRt] at HSN hgd
              have hsl2 : t.s.length ≤ 32768 := Nat.le_trans hgd.sl (pow2_15 (by omega))
              have HSY := Lib.hid (show ∀ s ∈ t.s, 0 ≤ s ∧ s < (n : Int) from hgd.sy)
              have HS3 := Lib.hid (fun (v : World) (hv : V1.grownBy v (some g)) => (R3.grown hv (fun k hk => hk)).sym t (by rw [← ht]; exact List.getElem_mem hil))
              have RR := R3.grown hgr (fun k hk => hk)
              obtain ⟨rb, ro, rfl, hrb, hrc⟩ := rd_tcells R3.rd (by omega)
              have HD := Lib.hid (fun (v : World) (hv : V1.grownBy v (some g)) => show v.cell? ⟨rb, ro + i * 3 + 1, none⟩ = some (.slice t.A t.n t.c) by
                have q := R3.grown hv (fun k hk => hk)
                obtain ⟨rb', ro', e', _, hrc'⟩ := rd_tcells q.rd (by omega)
                simp only [Option.some.injEq, Addr.mk.injEq, and_true] at e'
                obtain ⟨rfl, rfl⟩ := e'
                have := (hrc' i hil).2.1
                rw [ht] at this
                exact this)
              obtain ⟨tw, tA, tn, tc, tl, tsy⟩ := t
              dsimp only at hsl2 HSY HD HSN
              have HS4 := Lib.hid (fun (v : World) (hv : V1.grownBy v (some g)) => show Rd v v.heap.size 1 tA tn (ints tsy) from (HS3.out v hv).rd)
              have hsn := rd_len (HS4.out _ hgr)
              have HSLN := Lib.hid hsn
              have hsn6 : tn ≤ 32768 := by omega
              obtain ⟨L0, hL0⟩ : ∃ L0, sumsP (R.take i) (List.replicate n 0) = L0 := ⟨_, rfl⟩
              have HL0n := Lib.hid (show L0.length = n by rw [← hL0, sumsP_len]; simp)
              rw [hL0] at HSN b3 HBD
              have d0 := HD.out _ hgr
              clear ht hRt hgd HS3 RR hrc hsn hL0 hlT hil hiR
              go_wp2_with fail
              go_loopw [12] (fun s v => ∃ k : Nat, s = .int .i64 k ∧ k ≤ tn ∧ Blk v g 3 (ints ((tsy.take k).foldl incL L0)).toArray ∧ (∀ x ∈ (tsy.take k).foldl incL L0, 0 ≤ x ∧ x ≤ 40000 * (i : Int) + k) ∧ V1.grownBy v (some g)) (fun s _ => tn - (intOf s).toNat)
              case atStart => exact ⟨0, rfl, by omega, b3, fun x hx => by have := HBD.out x hx; omega, hgr⟩
              case round =>
                clear b3 hgr d0
                obtain ⟨k, rfl, hk, b4, hbd, hgr⟩ := hrel
                have HBD2 := Lib.hid hbd
                have d0 := HD.out _ hgr
                have hk0 : (0 : Int) ≤ (k : Int) := by omega
                clear hbd
                by_cases hlt4 : k < tn
                · have hkI : (k : Int) < (tn : Int) := by omega
                  have hkl : k < tsy.length := by have := HSLN.out; omega
                  have hadd3 : IntKind.i64.wrap ((k : Int) + 1) = (k : Int) + 1 := w64k (by omega) (by omega)
                  obtain ⟨sb, so, rfl, hsb, hsc⟩ := rd_ints (HS4.out _ hgr) (by omega)
                  have d1 := hsc k hkl
                  have hsy := HSY.out _ (List.getElem_mem hkl)
                  have HIN := Lib.hid (incs_snoc tsy k hkl L0)
                  obtain ⟨x, hx⟩ : ∃ x, tsy[k] = x := ⟨_, rfl⟩
                  rw [hx] at d1 hsy HIN
                  obtain ⟨y, rfl⟩ := Int.eq_ofNat_of_zero_le hsy.1
                  have hyn : (y : Int) < (n : Int) := hsy.2
                  obtain ⟨L2, hL2⟩ : ∃ L2, (tsy.take k).foldl incL L0 = L2 := ⟨_, rfl⟩
                  have hL2n : L2.length = n := by rw [← hL2, incs_len, HL0n.out]
                  have hyl : y < L2.length := by omega
                  rw [hL2] at b4 HBD2 HIN
                  have hu := HBD2.out _ (List.getElem_mem hyl)
                  obtain ⟨u, hue⟩ : ∃ u, L2[y] = u := ⟨_, rfl⟩
                  rw [hue] at hu
                  have hu1 : IntKind.i64.wrap (u + 1) = u + 1 := w64k (by omega) (by omega)
                  have e5 := b4.cell_ y (v := .int .i64 u) (by simp [ints, List.getElem?_eq_getElem hyl, hue])
                  have f5 := b4.frozen y
                  have HFF := Lib.hid (show L2.set y (u + 1) = (tsy.take (k + 1)).foldl incL L0 by rw [HIN.out, incL, Int.toNat_natCast, List.getElem?_eq_getElem hyl, hue]; rfl)
                  have B4 := Lib.hid b4
                  clear hsc hx hsy hL2 hL2n hyl hue b4
                  go_wp2_with fail
                  go_roundw
                  case rel =>
                    refine ⟨k + 1, by go_num, by omega, blk_eq (B4.out.set y _) (by rw [ints_set, HFF.out]), fun x hx => ?_, grown_set hgr _⟩
                    rw [← HFF.out] at hx
                    rcases List.mem_or_eq_of_mem_set hx with h | h
                    · have := HBD2.out x h; omega
                    · omega
                  case measure => simp [intOf]; omega
                · have hkI : ¬ (k : Int) < (tn : Int) := by omega
                  obtain rfl : k = tn := by omega
                  have HE := Lib.hid (show (tsy.take k).foldl incL L0 = sumsP (R.take (i + 1)) (List.replicate n 0) by rw [HSN.out, List.take_of_length_le (Nat.le_of_eq HSLN.out)]; rfl)
                  rw [HE.out] at b4 HBD2
                  go_wp2_with fail
                  go_roundw
                  case rel => exact ⟨i + 1, by go_num, by omega, b4, fun x hx => by have := HBD2.out x hx; omega, hgr⟩
                  case measure => simp [intOf]; omega
            · have hiI : ¬ (i : Int) < (q2 : Int) := by omega
              obtain rfl : i = q2 := by omega
              have HB3 := Below.grown HB hgr hsz (fun k hk => by simp at hk; omega)
              have z3 := hgr.size
              go_wp2_with fail
              go_ret2
              exact ⟨g, hz1, by omega, rfl, b3, HB3⟩
end LenW
end Go.Proofs.Ytdfclgpkhfpkhaa
