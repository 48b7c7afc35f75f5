/- The walk of package want: Show. -/
import Derived.Test.YtjcbaaabbdcdnaaDoorWanR
namespace Go.Proofs.YtjcbaaabbdcdnaaDoor
set_option linter.unusedVariables false
set_option linter.unusedSimpArgs false
set_option linter.unnecessarySimpa false
open Go.RowKit
namespace WanW
open SkpW (Qy qv qc chkQ)

/-- How a query is written. -/
def showL (q : Qy) : List UInt8 :=
  [115, 101, 113, 61] ++ rngL q.s1 q.s2 ++ 32 :: ([116, 105, 99, 107, 61] ++ rngL q.t1 q.t2) ++ (if q.find = [] then [] else 32 :: ([102, 105, 110, 100, 61] ++ hexL q.find)) ++
    32 :: ([108, 105, 109, 105, 116, 61] ++ decL q.limit.toNat) ++ 32 :: ([102, 114, 111, 109, 61] ++ decL q.frm.toNat)
def showV (q : Qy) : List UInt8 × Int := if chkQ q = 0 ∧ mayV q.s1 q.s2 = true ∧ mayV q.t1 q.t2 = true then (showL q, 0) else ([], 320)
def strs (l : List (List UInt8)) : List Value := l.map str
theorem strs_one (l : List (List UInt8)) : ∀ u ∈ strs l, u.oneCell' = true := by
  intro u hu
  obtain ⟨b, _, rfl⟩ := List.mem_map.1 hu
  rfl
theorem El_str : El Tryd.prog 68 9 1 16 := El.mk' Tryd.underlying68 (z := .string ByteArray.empty) (by kernel_rfl) rfl (by decide)
theorem join_any (l : List (List UInt8)) (A : Option Addr) (n c base : Nat) (w : World) (h : Own w base 9 1 A n c (strs l)) (hn : 0 < n) (hl : l.length ≤ 100) (hlen : (Lib.join l [32]).length ≤ 100000) :
    Calls Tryd.prog 30 #[.slice A n c, .string ⟨#[32]⟩] w fun e w' => e = .returned (str (Lib.join l [32])) ∧ Below w.heap.size w w' := by
  have hln := h.len
  simp only [strs, List.length_map, Nat.mul_one] at hln
  have hcap := h.cap
  rcases h.shape with ⟨_, h0, _⟩ | ⟨g, rfl, _, hg, _, _⟩
  · omega
  · have hxs : (l.map fun x => (⟨x.toArray⟩ : ByteArray)).map (·.data.toList) = l := by simp [Function.comp_def]
    have hc2 : ∀ (j : Nat) (x : ByteArray), (l.map fun x => (⟨x.toArray⟩ : ByteArray))[j]? = some x → w.cell? ⟨g, 0 + j, none⟩ = some (.string x) := fun j x hj => by
      rw [Nat.zero_add]
      refine own_cell h j ?_
      simp only [strs, List.getElem?_map] at hj ⊢
      cases hq : l[j]? with
      | none => rw [hq] at hj; cases hj
      | some y => rw [hq] at hj; cases hj; rfl
    have C := Tryd.strings_Join g 0 c (l.map fun x => ⟨x.toArray⟩) ⟨#[32]⟩ w hc2 hg (by rw [List.length_map]; omega) (by rw [List.length_map]; omega) (by rw [hxs]; show (Lib.join l [32]).length ≤ _; omega)
    rw [hxs, List.length_map, hln] at C
    exact C
theorem join4 (a b c d : List UInt8) : Lib.join [a, b, c, d] [32] = a ++ 32 :: (b ++ 32 :: (c ++ 32 :: d)) := by simp [Lib.join, List.intercalate]
theorem join5 (a b c d e : List UInt8) : Lib.join [a, b, c, d, e] [32] = a ++ 32 :: (b ++ 32 :: (c ++ 32 :: (d ++ 32 :: e))) := by simp [Lib.join, List.intercalate]
theorem show_no (q : Qy) (h : ¬ (chkQ q = 0 ∧ mayV q.s1 q.s2 = true ∧ mayV q.t1 q.t2 = true)) : showV q = ([], 320) := by rw [showV, if_neg h]
theorem show_yes (q : Qy) (h : chkQ q = 0 ∧ mayV q.s1 q.s2 = true ∧ mayV q.t1 q.t2 = true) : showV q = (showL q, 0) := by rw [showV, if_pos h]
theorem may_iff (a b : Int) : mayV a b = true ↔ 0 ≤ a ∧ a ≤ 1000000001 ∧ 0 ≤ b ∧ b ≤ 1000000001 := by simp [mayV]
set_option maxRecDepth 100000 in
set_option maxHeartbeats 8000000 in
theorem show_any (q : Qy) (w : World) (h : Wo w) (v : List UInt8) (e' : Int) (hv : showV q = (v, e')) :
    Calls Tryd.prog 16 #[qv q] w fun e w' => e = .returned (.tuple #[str v, .int .i64 e']) ∧ Below w.heap.size w w' := by
  have HNO := Lib.hid (fun h => (show_no q h).symm.trans hv)
  have HYES := Lib.hid (fun h => (show_yes q h).symm.trans hv)
  have HWO := Lib.hid h
  clear hv h
  have HB := (Below.refl w.heap.size w).alloc (Nat.le_refl _) (.cells (qc q) 26)
  have g1 := Blk.new w 26 (qc q)
  obtain ⟨w0, hw0⟩ : ∃ w0, w.alloc (.cells (qc q) 26) = w0 := ⟨_, rfl⟩
  rw [hw0] at HB g1
  have hz0 := HB.size
  obtain ⟨ce, hce⟩ : ∃ ce, chkQ q = ce := ⟨_, rfl⟩
  have C := SkpW.check_any q ce hce
  have hce2 : ce = 320 ∨ ce = 0 := by
    have hc := SkpW.chk_cases q
    rw [hce] at hc
    rcases hc with ⟨e, _⟩ | ⟨e, _⟩
    · exact .inl e
    · exact .inr e
  have HC := Lib.hid C
  have HCE := Lib.hid hce
  clear C hce
  obtain ⟨x0, x1, x2, x3, x4, x5, x6⟩ := SkpW.blk7 g1
  rcases hce2 with rfl | rfl
  · obtain ⟨rfl, rfl⟩ := Prod.mk.inj (HNO.out (fun hh => by rw [HCE.out] at hh; exact absurd hh.1 (by decide)))
    go_enter Tryd.func16, Tryd.ntmps16
    go_wp2_with fail
    refine (HC.out _).mono ?_
    rintro e w1 ⟨rfl, b1⟩
    go_wp2_with fail
    go_ret2
    exact ⟨rfl, HB.trans (b1.mono hz0)⟩
  · have hchk := SkpW.chk_cases q
    have hlim : ¬ q.limit < 1 ∧ ¬ 1000 < q.limit ∧ ¬ (200 : Int) < q.find.length ∧ ¬ q.frm < 0 ∧ ¬ 1000000001 < q.frm := by
      rcases hchk with ⟨e, _⟩ | ⟨_, hh⟩
      · rw [HCE.out] at e; cases e
      · exact hh
    clear hchk
    obtain ⟨m1, hm1⟩ : ∃ m, mayV q.s1 q.s2 = m := ⟨_, rfl⟩
    obtain ⟨m2, hm2⟩ : ∃ m, mayV q.t1 q.t2 = m := ⟨_, rfl⟩
    have M1 := fun w => may_any q.s1 q.s2 w m1 hm1
    have M2 := fun w => may_any q.t1 q.t2 w m2 hm2
    have HM1 := Lib.hid M1
    have HM2 := Lib.hid M2
    have HE1 := Lib.hid hm1
    have HE2 := Lib.hid hm2
    clear M1 M2 hm1 hm2
    cases m1
    · obtain ⟨rfl, rfl⟩ := Prod.mk.inj (HNO.out (fun hh => by rw [HE1.out] at hh; exact absurd hh.2.1 (by decide)))
      go_enter Tryd.func16, Tryd.ntmps16
      go_wp2_with fail
      refine (HC.out _).mono ?_
      rintro e w1 ⟨rfl, b1⟩
      have g2 := g1.below b1 g1.lt
      have B2 := HB.trans (b1.mono hz0)
      clear x0 x1 x2 x3 x4 x5 x6
      obtain ⟨x0, x1, x2, x3, x4, x5, x6⟩ := SkpW.blk7 g2
      go_wp2_with fail
      refine (HM1.out _).mono ?_
      rintro e w2 ⟨rfl, b2⟩
      go_wp2_with fail
      go_ret2
      exact ⟨rfl, B2.trans (b2.mono B2.size)⟩
    · cases m2
      · obtain ⟨rfl, rfl⟩ := Prod.mk.inj (HNO.out (fun hh => by rw [HE2.out] at hh; exact absurd hh.2.2 (by decide)))
        go_enter Tryd.func16, Tryd.ntmps16
        go_wp2_with fail
        refine (HC.out _).mono ?_
        rintro e w1 ⟨rfl, b1⟩
        have g2 := g1.below b1 g1.lt
        have B2 := HB.trans (b1.mono hz0)
        clear x0 x1 x2 x3 x4 x5 x6
        obtain ⟨x0, x1, x2, x3, x4, x5, x6⟩ := SkpW.blk7 g2
        go_wp2_with fail
        refine (HM1.out _).mono ?_
        rintro e w2 ⟨rfl, b2⟩
        have g3 := g2.below b2 g2.lt
        have B3 := B2.trans (b2.mono B2.size)
        clear x0 x1 x2 x3 x4 x5 x6
        obtain ⟨x0, x1, x2, x3, x4, x5, x6⟩ := SkpW.blk7 g3
        go_wp2_with fail
        refine (HM2.out _).mono ?_
        rintro e w3 ⟨rfl, b3⟩
        go_wp2_with fail
        go_ret2
        exact ⟨rfl, B3.trans (b3.mono B3.size)⟩
      · obtain ⟨rfl, rfl⟩ := Prod.mk.inj (HYES.out ⟨HCE.out, HE1.out, HE2.out⟩)
        obtain ⟨a0, a1, a2, a3⟩ := (may_iff _ _).1 HE1.out
        obtain ⟨a4, a5, a6, a7⟩ := (may_iff _ _).1 HE2.out
        obtain ⟨l1, l2, l3, l4, l5⟩ := hlim
        go_enter Tryd.func16, Tryd.ntmps16
        go_wp2_with fail
        refine (HC.out _).mono ?_
        rintro e w1 ⟨rfl, b1⟩
        have g2 := g1.below b1 g1.lt
        have B2 := HB.trans (b1.mono hz0)
        clear x0 x1 x2 x3 x4 x5 x6
        obtain ⟨x0, x1, x2, x3, x4, x5, x6⟩ := SkpW.blk7 g2
        go_wp2_with fail
        refine (HM1.out _).mono ?_
        rintro e w2 ⟨rfl, b2⟩
        have g3 := g2.below b2 g2.lt
        have B3 := B2.trans (b2.mono B2.size)
        clear x0 x1 x2 x3 x4 x5 x6
        obtain ⟨x0, x1, x2, x3, x4, x5, x6⟩ := SkpW.blk7 g3
        go_wp2_with fail
        refine (HM2.out _).mono ?_
        rintro e w3 ⟨rfl, b3⟩
        have g4 := g3.below b3 g3.lt
        have B4 := B3.trans (b3.mono B3.size)
        clear x0 x1 x2 x3 x4 x5 x6 g1 g2 g3 b1 b2 b3 HB B2 B3 hw0 hz0
        obtain ⟨x0, x1, x2, x3, x4, x5, x6⟩ := SkpW.blk7 g4
        have lx := decL_10 q.s1 (by omega)
        have lx2 := decL_10 q.s2 (by omega)
        have ly := decL_10 q.t1 (by omega)
        have ly2 := decL_10 q.t2 (by omega)
        have S1 := fun w h => shown_any q.s1 q.s2 a0 a1 a2 a3 w h
        have S2 := fun w h => shown_any q.t1 q.t2 a4 a5 a6 a7 w h
        have lr1 : (rngL q.s1 q.s2).length ≤ 21 := by unfold rngL; rw [List.length_append, List.length_cons]; omega
        have lr2 : (rngL q.t1 q.t2).length ≤ 21 := by unfold rngL; rw [List.length_append, List.length_cons]; omega
        obtain ⟨r1, hr1⟩ : ∃ r, rngL q.s1 q.s2 = r := ⟨_, rfl⟩
        obtain ⟨r2, hr2⟩ : ∃ r, rngL q.t1 q.t2 = r := ⟨_, rfl⟩
        rw [hr1] at S1 lr1
        rw [hr2] at S2 lr2
        have HR1 := Lib.hid hr1
        have HR2 := Lib.hid hr2
        have HS1 := Lib.hid S1
        have HS2 := Lib.hid S2
        clear S1 S2 hr1 hr2 lx lx2 ly ly2
        have hsl1 : ¬ 9223372036854775807 < 4 + r1.length := by omega
        have hsl2 : ¬ 9223372036854775807 < 5 + r2.length := by omega
        obtain ⟨ya, hya⟩ : ∃ t, [115, 101, 113, 61] ++ r1 = t := ⟨_, rfl⟩
        obtain ⟨yb, hyb⟩ : ∃ t, [116, 105, 99, 107, 61] ++ r2 = t := ⟨_, rfl⟩
        have hst1 : (⟨#[115, 101, 113, 61]⟩ : ByteArray) ++ ⟨r1.toArray⟩ = ⟨ya.toArray⟩ := by rw [← hya]; exact str_cat _ _
        have hst2 : (⟨#[116, 105, 99, 107, 61]⟩ : ByteArray) ++ ⟨r2.toArray⟩ = ⟨yb.toArray⟩ := by rw [← hyb]; exact str_cat _ _
        have lz1 : ya.length ≤ 25 := by rw [← hya]; simp; omega
        have lz2 : yb.length ≤ 26 := by rw [← hyb]; simp; omega
        have HZ1 := Lib.hid hya
        have HZ2 := Lib.hid hyb
        clear hya hyb
        have lx := decL_10 q.limit (by omega)
        have ly := decL_10 q.frm (by omega)
        have S3 := fun w h x hx => itoaS q.limit (by omega) (by omega) x hx w h
        have S4 := fun w h x hx => itoaS q.frm (by omega) (by omega) x hx w h
        obtain ⟨r3, hr3⟩ : ∃ r, decL q.limit.toNat = r := ⟨_, rfl⟩
        obtain ⟨r4, hr4⟩ : ∃ r, decL q.frm.toNat = r := ⟨_, rfl⟩
        rw [hr3] at lx
        rw [hr4] at ly
        have HS3 := Lib.hid (fun w h => S3 w h r3 hr3)
        have HS4 := Lib.hid (fun w h => S4 w h r4 hr4)
        have HR3 := Lib.hid hr3
        have HR4 := Lib.hid hr4
        clear S3 S4 hr3 hr4
        have hsl3 : ¬ 9223372036854775807 < 6 + r3.length := by omega
        have hsl4 : ¬ 9223372036854775807 < 5 + r4.length := by omega
        obtain ⟨yc, hyc⟩ : ∃ t, [108, 105, 109, 105, 116, 61] ++ r3 = t := ⟨_, rfl⟩
        obtain ⟨yd, hyd⟩ : ∃ t, [102, 114, 111, 109, 61] ++ r4 = t := ⟨_, rfl⟩
        have hst3 : (⟨#[108, 105, 109, 105, 116, 61]⟩ : ByteArray) ++ ⟨r3.toArray⟩ = ⟨yc.toArray⟩ := by rw [← hyc]; exact str_cat _ _
        have hst4 : (⟨#[102, 114, 111, 109, 61]⟩ : ByteArray) ++ ⟨r4.toArray⟩ = ⟨yd.toArray⟩ := by rw [← hyd]; exact str_cat _ _
        have lz3 : yc.length ≤ 16 := by rw [← hyc]; simp; omega
        have lz4 : yd.length ≤ 15 := by rw [← hyd]; simp; omega
        have HZ3 := Lib.hid hyc
        have HZ4 := Lib.hid hyd
        clear hyc hyd
        have g4lt := g4.lt
        go_wp2_with fail
        refine wp_region_held_drew (S := (fun w' => w'.cell? ⟨w.heap.size, 0, none⟩ = some (.int .i64 q.s1) ∧ w'.cell? ⟨w.heap.size, 1, none⟩ = some (.int .i64 q.s2) ∧ w'.cell? ⟨w.heap.size, 2, none⟩ = some (.int .i64 q.t1) ∧ w'.cell? ⟨w.heap.size, 3, none⟩ = some (.int .i64 q.t2) ∧ w'.cell? ⟨w.heap.size, 4, none⟩ = some (str q.find) ∧ w'.cell? ⟨w.heap.size, 5, none⟩ = some (.int .i64 q.limit) ∧ w'.cell? ⟨w.heap.size, 6, none⟩ = some (.int .i64 q.frm))) (by kernel_rfl) ?_ (fun hHeld => ?_)
        · replace B4 := Below.drew B4; replace g4 := Blk.drew g4; (try dsimp only); exact SkpW.blk7 g4
        replace B4 := Below.drew B4
        replace g4 := Blk.drew g4
        have zB4 := B4.size
        refine take_op (v := ?vu3x0) 0 (Op.fieldAddr 26 (Operand.tmp 1) 0) 0 rfl rfl rfl rfl rfl (by kernel_rfl) (by kernel_rfl) (by kernel_rfl) (fun _ _ _ h => h) ?yu3x0 (by assumption) ?ru3x0
        case yu3x0 => (intro w' hSw; (try dsimp only at hSw); go_simp; try (with_reducible rfl))
        simp only [List.setIfInBounds_toArray, List.set_cons_zero, List.set_cons_succ]
        refine take_op (v := ?vu3x1) 1 (Op.load 24 (Operand.tmp 21)) 24 rfl rfl rfl rfl rfl (by kernel_rfl) (by kernel_rfl) (by kernel_rfl) (fun _ _ _ h => h) ?yu3x1 (by assumption) ?ru3x1
        case yu3x1 => (intro w' hSw; (try dsimp only at hSw); go_simp; try (with_reducible rfl))
        simp only [List.setIfInBounds_toArray, List.set_cons_zero, List.set_cons_succ]
        refine take_op (v := ?vu3x4) 4 (Op.fieldAddr 26 (Operand.tmp 1) 1) 0 rfl rfl rfl rfl rfl (by kernel_rfl) (by kernel_rfl) (by kernel_rfl) (fun _ _ _ h => h) ?yu3x4 (by assumption) ?ru3x4
        case yu3x4 => (intro w' hSw; (try dsimp only at hSw); go_simp; try (with_reducible rfl))
        simp only [List.setIfInBounds_toArray, List.set_cons_zero, List.set_cons_succ]
        refine take_op (v := ?vu3x5) 5 (Op.load 24 (Operand.tmp 25)) 24 rfl rfl rfl rfl rfl (by kernel_rfl) (by kernel_rfl) (by kernel_rfl) (fun _ _ _ h => h) ?yu3x5 (by assumption) ?ru3x5
        case yu3x5 => (intro w' hSw; (try dsimp only at hSw); go_simp; try (with_reducible rfl))
        simp only [List.setIfInBounds_toArray, List.set_cons_zero, List.set_cons_succ]
        refine wpAnyH_ready (rs := [2]) (by kernel_rfl) (by simp) (AllReadyH.cons rfl (fun K2 hK2 => ?ku3x2) AllReadyH.nil)
        refine take_calls 2 28 [Operand.tmp 22] #[24] rfl rfl (by kernel_rfl) (fun args w => run_enter Tryd.func28 (by kernel_rfl) rfl args w) ?_
        refine (HS1.out _ (HWO.out.below B4)).mono ?_
        rintro e w2 ⟨rfl, hb2⟩
        refine ⟨_, rfl, ?_⟩
        have z2 := hb2.size
        try simp only [World.size_drew] at z2
        replace B4 := B4.trans (hb2.mono (by first | exact B4.size | omega))
        have zB42 := B4.size
        replace g4 := Blk.below g4 hb2 (by first | exact Nat.le_refl _ | (simp only [World.size_alloc, World.size_setCell, World.size_drew] at *; omega) | omega)
        refine hK2.out _ _ ?su3x2 (fun hHeld => ?ru3x2)
        case su3x2 => ((try dsimp only); exact SkpW.blk7 g4)
        try simp only [List.setIfInBounds_toArray, List.set_cons_zero, List.set_cons_succ]
        refine take_op (v := ?vu3x3) 3 (Op.binOp BinOp.add 9 (Operand.const (Value.string { data := #[115, 101, 113, 61] })) (Operand.tmp 23) 9) 9 rfl rfl rfl rfl rfl (by kernel_rfl) (by kernel_rfl) (by kernel_rfl) (fun _ _ _ h => h) ?yu3x3 (by assumption) ?ru3x3
        case yu3x3 => (intro w' hSw; (try dsimp only at hSw); go_simp; try (with_reducible rfl))
        simp only [List.setIfInBounds_toArray, List.set_cons_zero, List.set_cons_succ]
        refine wpAnyH_ready (rs := [6]) (by kernel_rfl) (by simp) (AllReadyH.cons rfl (fun K6 hK6 => ?ku3x6) AllReadyH.nil)
        refine take_calls 6 28 [Operand.tmp 26] #[24] rfl rfl (by kernel_rfl) (fun args w => run_enter Tryd.func28 (by kernel_rfl) rfl args w) ?_
        refine (HS2.out _ (HWO.out.below B4)).mono ?_
        rintro e w6 ⟨rfl, hb6⟩
        refine ⟨_, rfl, ?_⟩
        have z6 := hb6.size
        try simp only [World.size_drew] at z6
        replace B4 := B4.trans (hb6.mono (by first | exact B4.size | omega))
        have zB46 := B4.size
        replace g4 := Blk.below g4 hb6 (by first | exact Nat.le_refl _ | (simp only [World.size_alloc, World.size_setCell, World.size_drew] at *; omega) | omega)
        refine hK6.out _ _ ?su3x6 (fun hHeld => ?ru3x6)
        case su3x6 => ((try dsimp only); exact SkpW.blk7 g4)
        try simp only [List.setIfInBounds_toArray, List.set_cons_zero, List.set_cons_succ]
        refine take_op (v := ?vu3x7) 7 (Op.binOp BinOp.add 9 (Operand.const (Value.string { data := #[116, 105, 99, 107, 61] })) (Operand.tmp 27) 9) 9 rfl rfl rfl rfl rfl (by kernel_rfl) (by kernel_rfl) (by kernel_rfl) (fun _ _ _ h => h) ?yu3x7 (by assumption) ?ru3x7
        case yu3x7 => (intro w' hSw; (try dsimp only at hSw); go_simp; try (with_reducible rfl))
        simp only [List.setIfInBounds_toArray, List.set_cons_zero, List.set_cons_succ]
        refine wpAnyH_ready (rs := [8]) (by kernel_rfl) (by simp) (AllReadyH.cons rfl (fun K8 hK8 => ?ku3x8) AllReadyH.nil)
        refine take_build (e := 9) (len := 2) (size := 1) (w.heap.size + 1) (strs [ya, yb]) 8 (Op.buildSlice 68 2 #[(0, Operand.tmp 24), (1, Operand.tmp 28)]) 68 rfl rfl rfl (by kernel_rfl) ?eu3x8 (by rfl) (by decide) (by first | exact Nat.le_refl _ | (simp only [World.size_alloc, World.size_setCell, World.size_drew] at *; omega) | omega) ?_
        case eu3x8 => (go_simp; try (first | with_reducible rfl | (simp [rcells, rcell]; done) | (simp [fcells]; done) | (simp [tcells]; done) | rfl))
        intro gx8 w8 o8 gr8 l8 m8
        have z8 := gr8.size
        try simp only [World.size_drew] at z8
        replace B4 := below_grow B4 gr8
        have zB48 := B4.size
        replace g4 := Blk.grow0 g4 gr8
        refine hK8.out _ _ ?su3x8 (fun hHeld => ?ru3x8)
        case su3x8 => ((try dsimp only); exact SkpW.blk7 g4)
        try simp only [List.setIfInBounds_toArray, List.set_cons_zero, List.set_cons_succ]
        refine take_op (v := ?vu3x9) 9 (Op.assign (Operand.tmp 29)) 68 rfl rfl rfl rfl rfl (by kernel_rfl) (by kernel_rfl) (by kernel_rfl) (fun _ _ _ h => h) ?yu3x9 (by assumption) ?ru3x9
        case yu3x9 => (intro w' hSw; (try dsimp only at hSw); go_simp; try (with_reducible rfl))
        simp only [List.setIfInBounds_toArray, List.set_cons_zero, List.set_cons_succ]
        refine wpAnyH_done (by kernel_rfl) ?_ _
        clear x0 x1 x2 x3 x4 x5 x6 hHeld
        obtain ⟨x0, x1, x2, x3, x4, x5, x6⟩ := SkpW.blk7 g4
        have hzc := B4.size
        by_cases hfd : q.find = []
        · have HFD := Lib.hid hfd
          rw [hfd] at x4
          clear hfd
          have B5 := B4
          have g5 := g4
          have o5 := o8
          go_wp2_with fail
          have zb5 := B5.size
          have g5lt := g5.lt
          refine wp_region_held_drew (S := (fun w' => w'.cell? ⟨w.heap.size, 0, none⟩ = some (.int .i64 q.s1) ∧ w'.cell? ⟨w.heap.size, 1, none⟩ = some (.int .i64 q.s2) ∧ w'.cell? ⟨w.heap.size, 2, none⟩ = some (.int .i64 q.t1) ∧ w'.cell? ⟨w.heap.size, 3, none⟩ = some (.int .i64 q.t2) ∧ w'.cell? ⟨w.heap.size, 4, none⟩ = some (str q.find) ∧ w'.cell? ⟨w.heap.size, 5, none⟩ = some (.int .i64 q.limit) ∧ w'.cell? ⟨w.heap.size, 6, none⟩ = some (.int .i64 q.frm))) (by kernel_rfl) ?_ (fun hHeld => ?_)
          · replace B5 := Below.drew B5; replace g5 := Blk.drew g5; replace o5 := Own.drew o5; (try dsimp only); exact SkpW.blk7 g5
          replace B5 := Below.drew B5
          replace g5 := Blk.drew g5
          replace o5 := Own.drew o5
          have zB5 := B5.size
          refine take_movev (v := ?vu1t3x0) 0 (Operand.tmp 5) rfl rfl (by first | exact .inl rfl | exact .inr rfl) rfl (by kernel_rfl) (by kernel_rfl) (by kernel_rfl) (fun _ _ _ h => h) (by assumption) ?yu1t3x0 ?ru1t3x0
          case yu1t3x0 => (go_simp; try (with_reducible rfl))
          simp only [List.setIfInBounds_toArray, List.set_cons_zero, List.set_cons_succ]
          refine take_op (v := ?vu1t3x1) 1 (Op.fieldAddr 26 (Operand.tmp 1) 3) 0 rfl rfl rfl rfl rfl (by kernel_rfl) (by kernel_rfl) (by kernel_rfl) (fun _ _ _ h => h) ?yu1t3x1 (by assumption) ?ru1t3x1
          case yu1t3x1 => (intro w' hSw; (try dsimp only at hSw); go_simp; try (with_reducible rfl))
          simp only [List.setIfInBounds_toArray, List.set_cons_zero, List.set_cons_succ]
          refine take_op (v := ?vu1t3x2) 2 (Op.load 3 (Operand.tmp 41)) 3 rfl rfl rfl rfl rfl (by kernel_rfl) (by kernel_rfl) (by kernel_rfl) (fun _ _ _ h => h) ?yu1t3x2 (by assumption) ?ru1t3x2
          case yu1t3x2 => (intro w' hSw; (try dsimp only at hSw); go_simp; try (with_reducible rfl))
          simp only [List.setIfInBounds_toArray, List.set_cons_zero, List.set_cons_succ]
          refine take_op (v := ?vu1t3x5) 5 (Op.fieldAddr 26 (Operand.tmp 1) 4) 0 rfl rfl rfl rfl rfl (by kernel_rfl) (by kernel_rfl) (by kernel_rfl) (fun _ _ _ h => h) ?yu1t3x5 (by assumption) ?ru1t3x5
          case yu1t3x5 => (intro w' hSw; (try dsimp only at hSw); go_simp; try (with_reducible rfl))
          simp only [List.setIfInBounds_toArray, List.set_cons_zero, List.set_cons_succ]
          refine take_op (v := ?vu1t3x6) 6 (Op.load 3 (Operand.tmp 45)) 3 rfl rfl rfl rfl rfl (by kernel_rfl) (by kernel_rfl) (by kernel_rfl) (fun _ _ _ h => h) ?yu1t3x6 (by assumption) ?ru1t3x6
          case yu1t3x6 => (intro w' hSw; (try dsimp only at hSw); go_simp; try (with_reducible rfl))
          simp only [List.setIfInBounds_toArray, List.set_cons_zero, List.set_cons_succ]
          refine wpAnyH_ready (rs := [3]) (by kernel_rfl) (by simp) (AllReadyH.cons rfl (fun K3 hK3 => ?ku1t3x3) AllReadyH.nil)
          refine take_calls 3 29 [Operand.tmp 42] #[3] rfl rfl (by kernel_rfl) (fun args w => run_enter Tryd.func29 (by kernel_rfl) rfl args w) ?_
          refine (HS3.out _ (HWO.out.below B5)).mono ?_
          rintro e w3 ⟨rfl, hb3⟩
          refine ⟨_, rfl, ?_⟩
          have z3 := hb3.size
          try simp only [World.size_drew] at z3
          replace B5 := B5.trans (hb3.mono (by first | exact B5.size | omega))
          have zB53 := B5.size
          replace g5 := Blk.below g5 hb3 (by first | exact Nat.le_refl _ | (simp only [World.size_alloc, World.size_setCell, World.size_drew] at *; omega) | omega)
          replace o5 := Own.below o5 hb3
          refine hK3.out _ _ ?su1t3x3 (fun hHeld => ?ru1t3x3)
          case su1t3x3 => ((try dsimp only); exact SkpW.blk7 g5)
          try simp only [List.setIfInBounds_toArray, List.set_cons_zero, List.set_cons_succ]
          refine take_op (v := ?vu1t3x4) 4 (Op.binOp BinOp.add 9 (Operand.const (Value.string { data := #[108, 105, 109, 105, 116, 61] })) (Operand.tmp 43) 9) 9 rfl rfl rfl rfl rfl (by kernel_rfl) (by kernel_rfl) (by kernel_rfl) (fun _ _ _ h => h) ?yu1t3x4 (by assumption) ?ru1t3x4
          case yu1t3x4 => (intro w' hSw; (try dsimp only at hSw); go_simp; try (with_reducible rfl))
          simp only [List.setIfInBounds_toArray, List.set_cons_zero, List.set_cons_succ]
          refine wpAnyH_ready (rs := [7]) (by kernel_rfl) (by simp) (AllReadyH.cons rfl (fun K7 hK7 => ?ku1t3x7) AllReadyH.nil)
          refine take_calls 7 29 [Operand.tmp 46] #[3] rfl rfl (by kernel_rfl) (fun args w => run_enter Tryd.func29 (by kernel_rfl) rfl args w) ?_
          refine (HS4.out _ (HWO.out.below B5)).mono ?_
          rintro e w7 ⟨rfl, hb7⟩
          refine ⟨_, rfl, ?_⟩
          have z7 := hb7.size
          try simp only [World.size_drew] at z7
          replace B5 := B5.trans (hb7.mono (by first | exact B5.size | omega))
          have zB57 := B5.size
          replace g5 := Blk.below g5 hb7 (by first | exact Nat.le_refl _ | (simp only [World.size_alloc, World.size_setCell, World.size_drew] at *; omega) | omega)
          replace o5 := Own.below o5 hb7
          refine hK7.out _ _ ?su1t3x7 (fun hHeld => ?ru1t3x7)
          case su1t3x7 => ((try dsimp only); exact SkpW.blk7 g5)
          try simp only [List.setIfInBounds_toArray, List.set_cons_zero, List.set_cons_succ]
          refine take_op (v := ?vu1t3x8) 8 (Op.binOp BinOp.add 9 (Operand.const (Value.string { data := #[102, 114, 111, 109, 61] })) (Operand.tmp 47) 9) 9 rfl rfl rfl rfl rfl (by kernel_rfl) (by kernel_rfl) (by kernel_rfl) (fun _ _ _ h => h) ?yu1t3x8 (by assumption) ?ru1t3x8
          case yu1t3x8 => (intro w' hSw; (try dsimp only at hSw); go_simp; try (with_reducible rfl))
          simp only [List.setIfInBounds_toArray, List.set_cons_zero, List.set_cons_succ]
          refine wpAnyH_ready (rs := [9]) (by kernel_rfl) (by simp) (AllReadyH.cons rfl (fun K9 hK9 => ?ku1t3x9) AllReadyH.nil)
          refine take_build (e := 9) (len := 2) (size := 1) (w.heap.size + 1) (strs [yc, yd]) 9 (Op.buildSlice 68 2 #[(0, Operand.tmp 44), (1, Operand.tmp 48)]) 68 rfl rfl rfl (by kernel_rfl) ?eu1t3x9 (by rfl) (by decide) (by first | exact Nat.le_refl _ | (simp only [World.size_alloc, World.size_setCell, World.size_drew] at *; omega) | omega) ?_
          case eu1t3x9 => (go_simp; try (first | with_reducible rfl | (simp [rcells, rcell]; done) | (simp [fcells]; done) | (simp [tcells]; done) | rfl))
          intro gx9 w9 o9 gr9 l9 m9
          have z9 := gr9.size
          try simp only [World.size_drew] at z9
          replace B5 := below_grow B5 gr9
          have zB59 := B5.size
          replace g5 := Blk.grow0 g5 gr9
          replace o5 := Own.grow0 o5 gr9
          refine hK9.out _ _ ?su1t3x9 (fun hHeld => ?ru1t3x9)
          case su1t3x9 => ((try dsimp only); exact SkpW.blk7 g5)
          try simp only [List.setIfInBounds_toArray, List.set_cons_zero, List.set_cons_succ]
          refine wpAnyH_ready (rs := [10]) (by kernel_rfl) (by simp) (AllReadyH.cons rfl (fun K10 hK10 => ?ku1t3x10) AllReadyH.nil)
          refine take_app El_str 10 (Operand.tmp 40) (Operand.tmp 49) 68 rfl rfl rfl (by kernel_rfl) o5 rfl (o9.rd) rfl (strs_one _) (by unfold maxLen; omega) (by omega) (by first | exact Nat.le_refl _ | (simp only [World.size_alloc, World.size_setCell, World.size_drew] at *; omega) | omega) ?_
          intro A10 c10 w10 o10 gr10 at10
          have z10 := gr10.size
          try simp only [World.size_drew] at z10
          replace B5 := below_grown B5 gr10 o5 (by first | exact Nat.le_refl _ | (simp only [World.size_alloc, World.size_setCell, World.size_drew] at *; omega) | omega)
          have zB510 := B5.size
          replace g5 := Blk.grown g5 gr10 (by intro e; have := o5.blk _ e.symm; omega)
          refine hK10.out _ _ ?su1t3x10 (fun hHeld => ?ru1t3x10)
          case su1t3x10 => ((try dsimp only); exact SkpW.blk7 g5)
          try simp only [List.setIfInBounds_toArray, List.set_cons_zero, List.set_cons_succ]
          refine take_op (v := ?vu1t3x11) 11 (Op.assign (Operand.tmp 50)) 68 rfl rfl rfl rfl rfl (by kernel_rfl) (by kernel_rfl) (by kernel_rfl) (fun _ _ _ h => h) ?yu1t3x11 (by assumption) ?ru1t3x11
          case yu1t3x11 => (intro w' hSw; (try dsimp only at hSw); go_simp; try (with_reducible rfl))
          simp only [List.setIfInBounds_toArray, List.set_cons_zero, List.set_cons_succ]
          refine wpAnyH_done (by kernel_rfl) ?_ _
          clear hHeld
          have o11 := o10
          rw [show strs [ya, yb] ++ strs [yc, yd] = strs ([ya, yb] ++ [yc, yd]) from by simp [strs]] at o11
          have zb6 := B5.size
          go_wp2_with fail
          refine (join_any _ _ _ _ _ _ o11 (by omega) (by simp) (by simp only [List.cons_append, List.nil_append, join4, join5]; simp; omega)).mono ?_
          rintro e w12 ⟨rfl, b12⟩
          go_wp2_with fail
          go_ret2
          refine ⟨?_, B5.trans (b12.mono zb6)⟩
          simp only [List.cons_append, List.nil_append, join4, join5]
          have e1 : showL q = ya ++ 32 :: (yb ++ 32 :: (yc ++ 32 :: yd)) := by
            unfold showL
            rw [HR1.out, HR2.out, HR3.out, HR4.out, HZ1.out, HZ2.out, HZ3.out, HZ4.out, if_pos HFD.out]
            simp
          rw [e1]
          rfl
        · have HFD := Lib.hid hfd
          have hfB : (q.find == []) = false := beq_eq_false_iff_ne.2 hfd
          have hfB2 : (q.find != []) = true := by rw [bne, hfB]; rfl
          clear hfd
          have hxl := hexL_len q.find
          have C5 := fun w => hex_any q.find w (by omega)
          obtain ⟨hx, hhx⟩ : ∃ x, hexL q.find = x := ⟨_, rfl⟩
          rw [hhx] at C5 hxl
          have HC5 := Lib.hid C5
          have HHX := Lib.hid hhx
          clear C5 hhx
          have lhx : hx.length ≤ 400 := by omega
          clear hxl
          have hsl5 : ¬ 9223372036854775807 < 5 + hx.length := by omega
          obtain ⟨ye, hye⟩ : ∃ t, [102, 105, 110, 100, 61] ++ hx = t := ⟨_, rfl⟩
          have hst5 : (⟨#[102, 105, 110, 100, 61]⟩ : ByteArray) ++ ⟨hx.toArray⟩ = ⟨ye.toArray⟩ := by rw [← hye]; exact str_cat _ _
          have lz5 : ye.length ≤ 405 := by rw [← hye]; simp; omega
          have HZ5 := Lib.hid hye
          clear hye
          have o5 := o8
          have g5 := g4
          have hz9 := B4.size
          have hl9 := g4.lt
          go_wp2_with fail
          refine (HC5.out _).mono ?_
          rintro e w9 ⟨rfl, b9⟩
          replace o5 := o5.below b9
          replace g5 := g5.below b9 hl9
          have B5 := B4.trans (b9.mono hz9)
          have hz10 := b9.size
          have hal := o5.alloc (.cells #[str ye] 9)
          have hrd : Rd (w9.alloc (.cells (strs [ye]).toArray 9)) (w9.heap.size + 1) 1 (some ⟨w9.heap.size, 0, none⟩) 1 (strs [ye]) := rd_new rfl rfl
          go_wp2_with (at_builtin; refine wp_append El_str rfl rfl rfl hal rfl hrd (strs_one _) (by unfold maxLen; omega) (by omega) (by simp; omega) ?_; intro A' c' w10 ho4 hg2 at2)
          have hg3 := (World.grownBy_alloc w9 (.cells #[str ye] 9) _).trans hg2
          rw [show strs [ya, yb] ++ strs [ye] = strs [ya, yb, ye] from by simp [strs]] at ho4
          have g6 := g5.grown hg3 (by intro e; have := o5.blk _ e.symm; omega)
          have B6 := below_grown B5 hg3 o5 (by omega)
          clear o5 g5 B5 hal hrd hg2 hg3 at2
          have o5 := ho4
          have g5 := g6
          have B5 := B6
          clear ho4 g6 B6 x0 x1 x2 x3 x4 x5 x6
          go_wp2_with fail
          have zb5 := B5.size
          have g5lt := g5.lt
          refine wp_region_held_drew (S := (fun w' => w'.cell? ⟨w.heap.size, 0, none⟩ = some (.int .i64 q.s1) ∧ w'.cell? ⟨w.heap.size, 1, none⟩ = some (.int .i64 q.s2) ∧ w'.cell? ⟨w.heap.size, 2, none⟩ = some (.int .i64 q.t1) ∧ w'.cell? ⟨w.heap.size, 3, none⟩ = some (.int .i64 q.t2) ∧ w'.cell? ⟨w.heap.size, 4, none⟩ = some (str q.find) ∧ w'.cell? ⟨w.heap.size, 5, none⟩ = some (.int .i64 q.limit) ∧ w'.cell? ⟨w.heap.size, 6, none⟩ = some (.int .i64 q.frm))) (by kernel_rfl) ?_ (fun hHeld => ?_)
          · replace B5 := Below.drew B5; replace g5 := Blk.drew g5; replace o5 := Own.drew o5; (try dsimp only); exact SkpW.blk7 g5
          replace B5 := Below.drew B5
          replace g5 := Blk.drew g5
          replace o5 := Own.drew o5
          have zB5 := B5.size
          refine take_movev (v := ?vu2t3x0) 0 (Operand.tmp 5) rfl rfl (by first | exact .inl rfl | exact .inr rfl) rfl (by kernel_rfl) (by kernel_rfl) (by kernel_rfl) (fun _ _ _ h => h) (by assumption) ?yu2t3x0 ?ru2t3x0
          case yu2t3x0 => (go_simp; try (with_reducible rfl))
          simp only [List.setIfInBounds_toArray, List.set_cons_zero, List.set_cons_succ]
          refine take_op (v := ?vu2t3x1) 1 (Op.fieldAddr 26 (Operand.tmp 1) 3) 0 rfl rfl rfl rfl rfl (by kernel_rfl) (by kernel_rfl) (by kernel_rfl) (fun _ _ _ h => h) ?yu2t3x1 (by assumption) ?ru2t3x1
          case yu2t3x1 => (intro w' hSw; (try dsimp only at hSw); go_simp; try (with_reducible rfl))
          simp only [List.setIfInBounds_toArray, List.set_cons_zero, List.set_cons_succ]
          refine take_op (v := ?vu2t3x2) 2 (Op.load 3 (Operand.tmp 41)) 3 rfl rfl rfl rfl rfl (by kernel_rfl) (by kernel_rfl) (by kernel_rfl) (fun _ _ _ h => h) ?yu2t3x2 (by assumption) ?ru2t3x2
          case yu2t3x2 => (intro w' hSw; (try dsimp only at hSw); go_simp; try (with_reducible rfl))
          simp only [List.setIfInBounds_toArray, List.set_cons_zero, List.set_cons_succ]
          refine take_op (v := ?vu2t3x5) 5 (Op.fieldAddr 26 (Operand.tmp 1) 4) 0 rfl rfl rfl rfl rfl (by kernel_rfl) (by kernel_rfl) (by kernel_rfl) (fun _ _ _ h => h) ?yu2t3x5 (by assumption) ?ru2t3x5
          case yu2t3x5 => (intro w' hSw; (try dsimp only at hSw); go_simp; try (with_reducible rfl))
          simp only [List.setIfInBounds_toArray, List.set_cons_zero, List.set_cons_succ]
          refine take_op (v := ?vu2t3x6) 6 (Op.load 3 (Operand.tmp 45)) 3 rfl rfl rfl rfl rfl (by kernel_rfl) (by kernel_rfl) (by kernel_rfl) (fun _ _ _ h => h) ?yu2t3x6 (by assumption) ?ru2t3x6
          case yu2t3x6 => (intro w' hSw; (try dsimp only at hSw); go_simp; try (with_reducible rfl))
          simp only [List.setIfInBounds_toArray, List.set_cons_zero, List.set_cons_succ]
          refine wpAnyH_ready (rs := [3]) (by kernel_rfl) (by simp) (AllReadyH.cons rfl (fun K3 hK3 => ?ku2t3x3) AllReadyH.nil)
          refine take_calls 3 29 [Operand.tmp 42] #[3] rfl rfl (by kernel_rfl) (fun args w => run_enter Tryd.func29 (by kernel_rfl) rfl args w) ?_
          refine (HS3.out _ (HWO.out.below B5)).mono ?_
          rintro e w3 ⟨rfl, hb3⟩
          refine ⟨_, rfl, ?_⟩
          have z3 := hb3.size
          try simp only [World.size_drew] at z3
          replace B5 := B5.trans (hb3.mono (by first | exact B5.size | omega))
          have zB53 := B5.size
          replace g5 := Blk.below g5 hb3 (by first | exact Nat.le_refl _ | (simp only [World.size_alloc, World.size_setCell, World.size_drew] at *; omega) | omega)
          replace o5 := Own.below o5 hb3
          refine hK3.out _ _ ?su2t3x3 (fun hHeld => ?ru2t3x3)
          case su2t3x3 => ((try dsimp only); exact SkpW.blk7 g5)
          try simp only [List.setIfInBounds_toArray, List.set_cons_zero, List.set_cons_succ]
          refine take_op (v := ?vu2t3x4) 4 (Op.binOp BinOp.add 9 (Operand.const (Value.string { data := #[108, 105, 109, 105, 116, 61] })) (Operand.tmp 43) 9) 9 rfl rfl rfl rfl rfl (by kernel_rfl) (by kernel_rfl) (by kernel_rfl) (fun _ _ _ h => h) ?yu2t3x4 (by assumption) ?ru2t3x4
          case yu2t3x4 => (intro w' hSw; (try dsimp only at hSw); go_simp; try (with_reducible rfl))
          simp only [List.setIfInBounds_toArray, List.set_cons_zero, List.set_cons_succ]
          refine wpAnyH_ready (rs := [7]) (by kernel_rfl) (by simp) (AllReadyH.cons rfl (fun K7 hK7 => ?ku2t3x7) AllReadyH.nil)
          refine take_calls 7 29 [Operand.tmp 46] #[3] rfl rfl (by kernel_rfl) (fun args w => run_enter Tryd.func29 (by kernel_rfl) rfl args w) ?_
          refine (HS4.out _ (HWO.out.below B5)).mono ?_
          rintro e w7 ⟨rfl, hb7⟩
          refine ⟨_, rfl, ?_⟩
          have z7 := hb7.size
          try simp only [World.size_drew] at z7
          replace B5 := B5.trans (hb7.mono (by first | exact B5.size | omega))
          have zB57 := B5.size
          replace g5 := Blk.below g5 hb7 (by first | exact Nat.le_refl _ | (simp only [World.size_alloc, World.size_setCell, World.size_drew] at *; omega) | omega)
          replace o5 := Own.below o5 hb7
          refine hK7.out _ _ ?su2t3x7 (fun hHeld => ?ru2t3x7)
          case su2t3x7 => ((try dsimp only); exact SkpW.blk7 g5)
          try simp only [List.setIfInBounds_toArray, List.set_cons_zero, List.set_cons_succ]
          refine take_op (v := ?vu2t3x8) 8 (Op.binOp BinOp.add 9 (Operand.const (Value.string { data := #[102, 114, 111, 109, 61] })) (Operand.tmp 47) 9) 9 rfl rfl rfl rfl rfl (by kernel_rfl) (by kernel_rfl) (by kernel_rfl) (fun _ _ _ h => h) ?yu2t3x8 (by assumption) ?ru2t3x8
          case yu2t3x8 => (intro w' hSw; (try dsimp only at hSw); go_simp; try (with_reducible rfl))
          simp only [List.setIfInBounds_toArray, List.set_cons_zero, List.set_cons_succ]
          refine wpAnyH_ready (rs := [9]) (by kernel_rfl) (by simp) (AllReadyH.cons rfl (fun K9 hK9 => ?ku2t3x9) AllReadyH.nil)
          refine take_build (e := 9) (len := 2) (size := 1) (w.heap.size + 1) (strs [yc, yd]) 9 (Op.buildSlice 68 2 #[(0, Operand.tmp 44), (1, Operand.tmp 48)]) 68 rfl rfl rfl (by kernel_rfl) ?eu2t3x9 (by rfl) (by decide) (by first | exact Nat.le_refl _ | (simp only [World.size_alloc, World.size_setCell, World.size_drew] at *; omega) | omega) ?_
          case eu2t3x9 => (go_simp; try (first | with_reducible rfl | (simp [rcells, rcell]; done) | (simp [fcells]; done) | (simp [tcells]; done) | rfl))
          intro gx9 w9 o9 gr9 l9 m9
          have z9 := gr9.size
          try simp only [World.size_drew] at z9
          replace B5 := below_grow B5 gr9
          have zB59 := B5.size
          replace g5 := Blk.grow0 g5 gr9
          replace o5 := Own.grow0 o5 gr9
          refine hK9.out _ _ ?su2t3x9 (fun hHeld => ?ru2t3x9)
          case su2t3x9 => ((try dsimp only); exact SkpW.blk7 g5)
          try simp only [List.setIfInBounds_toArray, List.set_cons_zero, List.set_cons_succ]
          refine wpAnyH_ready (rs := [10]) (by kernel_rfl) (by simp) (AllReadyH.cons rfl (fun K10 hK10 => ?ku2t3x10) AllReadyH.nil)
          refine take_app El_str 10 (Operand.tmp 40) (Operand.tmp 49) 68 rfl rfl rfl (by kernel_rfl) o5 rfl (o9.rd) rfl (strs_one _) (by unfold maxLen; omega) (by omega) (by first | exact Nat.le_refl _ | (simp only [World.size_alloc, World.size_setCell, World.size_drew] at *; omega) | omega) ?_
          intro A10 c10 w10 o10 gr10 at10
          have z10 := gr10.size
          try simp only [World.size_drew] at z10
          replace B5 := below_grown B5 gr10 o5 (by first | exact Nat.le_refl _ | (simp only [World.size_alloc, World.size_setCell, World.size_drew] at *; omega) | omega)
          have zB510 := B5.size
          replace g5 := Blk.grown g5 gr10 (by intro e; have := o5.blk _ e.symm; omega)
          refine hK10.out _ _ ?su2t3x10 (fun hHeld => ?ru2t3x10)
          case su2t3x10 => ((try dsimp only); exact SkpW.blk7 g5)
          try simp only [List.setIfInBounds_toArray, List.set_cons_zero, List.set_cons_succ]
          refine take_op (v := ?vu2t3x11) 11 (Op.assign (Operand.tmp 50)) 68 rfl rfl rfl rfl rfl (by kernel_rfl) (by kernel_rfl) (by kernel_rfl) (fun _ _ _ h => h) ?yu2t3x11 (by assumption) ?ru2t3x11
          case yu2t3x11 => (intro w' hSw; (try dsimp only at hSw); go_simp; try (with_reducible rfl))
          simp only [List.setIfInBounds_toArray, List.set_cons_zero, List.set_cons_succ]
          refine wpAnyH_done (by kernel_rfl) ?_ _
          clear hHeld
          have o11 := o10
          rw [show strs [ya, yb, ye] ++ strs [yc, yd] = strs ([ya, yb, ye] ++ [yc, yd]) from by simp [strs]] at o11
          have zb6 := B5.size
          go_wp2_with fail
          refine (join_any _ _ _ _ _ _ o11 (by omega) (by simp) (by simp only [List.cons_append, List.nil_append, join4, join5]; simp; omega)).mono ?_
          rintro e w12 ⟨rfl, b12⟩
          go_wp2_with fail
          go_ret2
          refine ⟨?_, B5.trans (b12.mono zb6)⟩
          simp only [List.cons_append, List.nil_append, join4, join5]
          have e1 : showL q = ya ++ 32 :: (yb ++ 32 :: (ye ++ 32 :: (yc ++ 32 :: yd))) := by
            unfold showL
            rw [HR1.out, HR2.out, HR3.out, HR4.out, HZ1.out, HZ2.out, HZ3.out, HZ4.out, if_neg HFD.out, HHX.out, HZ5.out]
            simp
          rw [e1]
          rfl
end WanW
end Go.Proofs.YtjcbaaabbdcdnaaDoor
