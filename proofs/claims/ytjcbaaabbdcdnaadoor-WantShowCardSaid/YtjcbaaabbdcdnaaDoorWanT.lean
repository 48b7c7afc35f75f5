/- The walk of the reference of package want: Show. -/
import Derived.Test.YtjcbaaabbdcdnaaDoorWanS
namespace Go.Proofs.YtjcbaaabbdcdnaaDoor
set_option linter.unusedVariables false
set_option linter.unusedSimpArgs false
set_option linter.unnecessarySimpa false
open Go.RowKit
namespace WanW
open SkpW (Qy qv qc chkQ)

theorem digS (a : Int) (h0 : 0 ≤ a) (h1 : a ≤ 1000000001) (x : List UInt8) (hx : decL a.toNat = x) (w : World) :
    Calls Tryd.prog 31 #[.int .i64 a] w fun e w' => e = .returned (str x) ∧ Below w.heap.size w w' := by
  have := digits_any 9 a.toNat w (by omega) (by omega)
  rw [show ((a.toNat : Nat) : Int) = a by omega, hx] at this
  exact this
theorem blk4 {w : World} {g : Nat} {t : TypeId} {a0 a1 a2 a3 : Value} (h : Blk w g t #[a0, a1, a2, a3]) :
    w.cell? ⟨g, 0, none⟩ = some a0 ∧ w.cell? ⟨g, 1, none⟩ = some a1 ∧ w.cell? ⟨g, 2, none⟩ = some a2 ∧ w.cell? ⟨g, 3, none⟩ = some a3 :=
  ⟨h.cell_ 0 rfl, h.cell_ 1 rfl, h.cell_ 2 rfl, h.cell_ 3 rfl⟩
def okN (a : Int) : Prop := 0 ≤ a ∧ a ≤ 1000000001
set_option maxRecDepth 100000 in
set_option maxHeartbeats 8000000 in
theorem refShow_any (q : Qy) (w : World) (v : List UInt8) (e' : Int) (hv : showV q = (v, e')) :
    Calls Tryd.prog 17 #[qv q] w fun e w' => e = .returned (.tuple #[str v, .int .i64 e']) ∧ Below w.heap.size w w' := by
  have HNO := Lib.hid (fun h => (show_no q h).symm.trans hv)
  have HYES := Lib.hid (fun h => (show_yes q h).symm.trans hv)
  clear hv
  have HB := (Below.refl w.heap.size w).alloc (Nat.le_refl _) (.cells (qc q) 26)
  have g1 := Blk.new w 26 (qc q)
  obtain ⟨w0, hw0⟩ : ∃ w0, w.alloc (.cells (qc q) 26) = w0 := ⟨_, rfl⟩
  rw [hw0] at HB g1
  have hz0 := HB.size
  obtain ⟨ce, hce⟩ : ∃ ce, chkQ q = ce := ⟨_, rfl⟩
  have C := SkpW.refCheck_any q ce hce
  have hce2 : ce = 320 ∨ ce = 0 := by
    have hc := SkpW.chk_cases q
    rw [hce] at hc
    rcases hc with ⟨e, _⟩ | ⟨e, _⟩
    · exact .inl e
    · exact .inr e
  have HC := Lib.hid C
  have HCE := Lib.hid hce
  clear C hce
  obtain ⟨x0, x1, x2, x3, x4, x5, x6⟩ := SkpW.blk7 g1
  rcases hce2 with rfl | rfl
  · obtain ⟨rfl, rfl⟩ := Prod.mk.inj (HNO.out (fun hh => by rw [HCE.out] at hh; exact absurd hh.1 (by decide)))
    go_enter Tryd.func17, Tryd.ntmps17
    go_wp2_with fail
    refine (HC.out _).mono ?_
    rintro e w1 ⟨rfl, b1⟩
    go_wp2_with fail
    go_ret2
    exact ⟨rfl, HB.trans (b1.mono hz0)⟩
  · have hchk := SkpW.chk_cases q
    have hlim : ¬ q.limit < 1 ∧ ¬ 1000 < q.limit ∧ ¬ (200 : Int) < q.find.length ∧ ¬ q.frm < 0 ∧ ¬ 1000000001 < q.frm := by
      rcases hchk with ⟨e, _⟩ | ⟨_, hh⟩
      · rw [HCE.out] at e; cases e
      · exact hh
    clear hchk
    have HLIM := Lib.hid hlim
    clear hlim
    go_enter Tryd.func17, Tryd.ntmps17
    go_wp2_with fail
    refine (HC.out _).mono ?_
    rintro e w1 ⟨rfl, b1⟩
    have g2 := g1.below b1 g1.lt
    have B2 := HB.trans (b1.mono hz0)
    have hl2 := g2.lt
    clear x0 x1 x2 x3 x4 x5 x6
    obtain ⟨x0, x1, x2, x3, x4, x5, x6⟩ := SkpW.blk7 g2
    have B3 := B2.alloc (by omega) (.cells #[.int .i64 q.s1, .int .i64 q.s2, .int .i64 q.t1, .int .i64 q.t2] 3)
    have g3 := g2.alloc (.cells #[.int .i64 q.s1, .int .i64 q.s2, .int .i64 q.t1, .int .i64 q.t2] 3)
    have n3 := Blk.new w1 3 #[.int .i64 q.s1, .int .i64 q.s2, .int .i64 q.t1, .int .i64 q.t2]
    obtain ⟨gn, hgn⟩ : ∃ gn, w1.heap.size = gn := ⟨_, rfl⟩
    obtain ⟨w2, hw2⟩ : ∃ w2, w1.alloc (.cells #[.int .i64 q.s1, .int .i64 q.s2, .int .i64 q.t1, .int .i64 q.t2] 3) = w2 := ⟨_, rfl⟩
    rw [hw2] at B3 g3 n3
    rw [hgn] at n3 hl2
    go_wp2_with fail
    clear hw2 hw0 hgn g1 g2 B2 HB b1 x0 x1 x2 x3 x4 x5 x6
    have hz2 := B3.size
    have hln := n3.lt
    obtain ⟨x0, x1, x2, x3, x4, x5, x6⟩ := SkpW.blk7 g3
    obtain ⟨y0, y1, y2, y3⟩ := blk4 n3
    go_loopw [5] (fun o5 wr => ∃ i : Nat, o5 = .int .i64 (i : Int) ∧ i ≤ 4 ∧ (0 < i → okN q.s1) ∧ (1 < i → okN q.s2) ∧ (2 < i → okN q.t1) ∧ (3 < i → okN q.t2) ∧ wr = w2) (fun o5 _ => 4 - (intOf o5).toNat)
    case atStart => exact ⟨0, rfl, by omega, fun h => absurd h (by omega), fun h => absurd h (by omega), fun h => absurd h (by omega), fun h => absurd h (by omega), rfl⟩
    case round =>
      obtain ⟨i, rfl, hi, k0, k1, k2, k3, hwr⟩ := hrel
      subst wr
      have hcs : i = 0 ∨ i = 1 ∨ i = 2 ∨ i = 3 ∨ i = 4 := by omega
      have K0 := Lib.hid k0
      have K1 := Lib.hid k1
      have K2 := Lib.hid k2
      have K3 := Lib.hid k3
      clear k0 k1 k2 k3
      rcases hcs with rfl | rfl | rfl | rfl | rfl
      · by_cases hlo : q.s1 < 0
        · obtain ⟨rfl, rfl⟩ := Prod.mk.inj (HNO.out (fun hh => by have hm := (may_iff _ _).1 hh.2.1; omega))
          have hloB : decide (q.s1 < 0) = true := by simp; omega
          go_wp2_with fail
          try rw [Exit.noGoto_ret]
          go_ret2
          exact ⟨rfl, B3⟩
        · have hloB : decide (q.s1 < 0) = false := by simp; omega
          by_cases hhi : 1000000001 < q.s1
          · obtain ⟨rfl, rfl⟩ := Prod.mk.inj (HNO.out (fun hh => by have hm := (may_iff _ _).1 hh.2.1; omega))
            have hhiB : decide (1000000001 < q.s1) = true := by simp; omega
            go_wp2_with fail
            try rw [Exit.noGoto_ret]
            go_ret2
            exact ⟨rfl, B3⟩
          · have hhiB : decide (1000000001 < q.s1) = false := by simp; omega
            go_wp2_with fail
            go_roundw
            case rel => exact ⟨1, rfl, by omega, fun _ => ⟨by omega, by omega⟩, fun h => absurd h (by omega), fun h => absurd h (by omega), fun h => absurd h (by omega), by trivial⟩
            case measure => simp [intOf]
      · by_cases hlo : q.s2 < 0
        · obtain ⟨rfl, rfl⟩ := Prod.mk.inj (HNO.out (fun hh => by have hm := (may_iff _ _).1 hh.2.1; omega))
          have hloB : decide (q.s2 < 0) = true := by simp; omega
          go_wp2_with fail
          try rw [Exit.noGoto_ret]
          go_ret2
          exact ⟨rfl, B3⟩
        · have hloB : decide (q.s2 < 0) = false := by simp; omega
          by_cases hhi : 1000000001 < q.s2
          · obtain ⟨rfl, rfl⟩ := Prod.mk.inj (HNO.out (fun hh => by have hm := (may_iff _ _).1 hh.2.1; omega))
            have hhiB : decide (1000000001 < q.s2) = true := by simp; omega
            go_wp2_with fail
            try rw [Exit.noGoto_ret]
            go_ret2
            exact ⟨rfl, B3⟩
          · have hhiB : decide (1000000001 < q.s2) = false := by simp; omega
            go_wp2_with fail
            go_roundw
            case rel => exact ⟨2, rfl, by omega, fun _ => K0.out (by omega), fun _ => ⟨by omega, by omega⟩, fun h => absurd h (by omega), fun h => absurd h (by omega), by trivial⟩
            case measure => simp [intOf]
      · by_cases hlo : q.t1 < 0
        · obtain ⟨rfl, rfl⟩ := Prod.mk.inj (HNO.out (fun hh => by have hm := (may_iff _ _).1 hh.2.2; omega))
          have hloB : decide (q.t1 < 0) = true := by simp; omega
          go_wp2_with fail
          try rw [Exit.noGoto_ret]
          go_ret2
          exact ⟨rfl, B3⟩
        · have hloB : decide (q.t1 < 0) = false := by simp; omega
          by_cases hhi : 1000000001 < q.t1
          · obtain ⟨rfl, rfl⟩ := Prod.mk.inj (HNO.out (fun hh => by have hm := (may_iff _ _).1 hh.2.2; omega))
            have hhiB : decide (1000000001 < q.t1) = true := by simp; omega
            go_wp2_with fail
            try rw [Exit.noGoto_ret]
            go_ret2
            exact ⟨rfl, B3⟩
          · have hhiB : decide (1000000001 < q.t1) = false := by simp; omega
            go_wp2_with fail
            go_roundw
            case rel => exact ⟨3, rfl, by omega, fun _ => K0.out (by omega), fun _ => K1.out (by omega), fun _ => ⟨by omega, by omega⟩, fun h => absurd h (by omega), by trivial⟩
            case measure => simp [intOf]
      · by_cases hlo : q.t2 < 0
        · obtain ⟨rfl, rfl⟩ := Prod.mk.inj (HNO.out (fun hh => by have hm := (may_iff _ _).1 hh.2.2; omega))
          have hloB : decide (q.t2 < 0) = true := by simp; omega
          go_wp2_with fail
          try rw [Exit.noGoto_ret]
          go_ret2
          exact ⟨rfl, B3⟩
        · have hloB : decide (q.t2 < 0) = false := by simp; omega
          by_cases hhi : 1000000001 < q.t2
          · obtain ⟨rfl, rfl⟩ := Prod.mk.inj (HNO.out (fun hh => by have hm := (may_iff _ _).1 hh.2.2; omega))
            have hhiB : decide (1000000001 < q.t2) = true := by simp; omega
            go_wp2_with fail
            try rw [Exit.noGoto_ret]
            go_ret2
            exact ⟨rfl, B3⟩
          · have hhiB : decide (1000000001 < q.t2) = false := by simp; omega
            go_wp2_with fail
            go_roundw
            case rel => exact ⟨4, rfl, by omega, fun _ => K0.out (by omega), fun _ => K1.out (by omega), fun _ => K2.out (by omega), fun _ => ⟨by omega, by omega⟩, by trivial⟩
            case measure => simp [intOf]
      · obtain ⟨a0, a1⟩ := K0.out (by omega)
        obtain ⟨a2, a3⟩ := K1.out (by omega)
        obtain ⟨a4, a5⟩ := K2.out (by omega)
        obtain ⟨a6, a7⟩ := K3.out (by omega)
        obtain ⟨l1, l2, l3, l4, l5⟩ := HLIM.out
        obtain ⟨rfl, rfl⟩ := Prod.mk.inj (HYES.out ⟨HCE.out, (may_iff _ _).2 ⟨a0, a1, a2, a3⟩, (may_iff _ _).2 ⟨a4, a5, a6, a7⟩⟩)
        have lr1 := decL_10 q.s1 (by omega)
        obtain ⟨r1, hr1⟩ : ∃ r, decL q.s1.toNat = r := ⟨_, rfl⟩
        rw [hr1] at lr1
        have HS1 := Lib.hid (fun w => digS q.s1 (by omega) (by omega) r1 hr1 w)
        have HR1 := Lib.hid hr1
        clear hr1
        have lr2 := decL_10 q.s2 (by omega)
        obtain ⟨r2, hr2⟩ : ∃ r, decL q.s2.toNat = r := ⟨_, rfl⟩
        rw [hr2] at lr2
        have HS2 := Lib.hid (fun w => digS q.s2 (by omega) (by omega) r2 hr2 w)
        have HR2 := Lib.hid hr2
        clear hr2
        have lr3 := decL_10 q.t1 (by omega)
        obtain ⟨r3, hr3⟩ : ∃ r, decL q.t1.toNat = r := ⟨_, rfl⟩
        rw [hr3] at lr3
        have HS3 := Lib.hid (fun w => digS q.t1 (by omega) (by omega) r3 hr3 w)
        have HR3 := Lib.hid hr3
        clear hr3
        have lr4 := decL_10 q.t2 (by omega)
        obtain ⟨r4, hr4⟩ : ∃ r, decL q.t2.toNat = r := ⟨_, rfl⟩
        rw [hr4] at lr4
        have HS4 := Lib.hid (fun w => digS q.t2 (by omega) (by omega) r4 hr4 w)
        have HR4 := Lib.hid hr4
        clear hr4
        have lr5 := decL_10 q.limit (by omega)
        obtain ⟨r5, hr5⟩ : ∃ r, decL q.limit.toNat = r := ⟨_, rfl⟩
        rw [hr5] at lr5
        have HS5 := Lib.hid (fun w => digS q.limit (by omega) (by omega) r5 hr5 w)
        have HR5 := Lib.hid hr5
        clear hr5
        have lr6 := decL_10 q.frm (by omega)
        obtain ⟨r6, hr6⟩ : ∃ r, decL q.frm.toNat = r := ⟨_, rfl⟩
        rw [hr6] at lr6
        have HS6 := Lib.hid (fun w => digS q.frm (by omega) (by omega) r6 hr6 w)
        have HR6 := Lib.hid hr6
        clear hr6
        have hsu1 : ¬ 9223372036854775807 < 4 + r1.length := by omega
        obtain ⟨u1, heu1⟩ : ∃ t, [115, 101, 113, 61] ++ r1 = t := ⟨_, rfl⟩
        have hbu1 : (⟨#[115, 101, 113, 61]⟩ : ByteArray) ++ (⟨r1.toArray⟩ : ByteArray) = ⟨u1.toArray⟩ := by rw [← heu1]; exact str_cat _ _
        have hlu1 : u1.length ≤ 20 := by rw [← heu1]; simp; omega
        have HEu1 := Lib.hid heu1
        clear heu1
        have hsu2 : ¬ 9223372036854775807 < u1.length + 1 := by omega
        obtain ⟨u2, heu2⟩ : ∃ t, u1 ++ [45] = t := ⟨_, rfl⟩
        have hbu2 : (⟨u1.toArray⟩ : ByteArray) ++ (⟨#[45]⟩ : ByteArray) = ⟨u2.toArray⟩ := by rw [← heu2]; exact str_cat _ _
        have hlu2 : u2.length ≤ 30 := by rw [← heu2]; simp; omega
        have HEu2 := Lib.hid heu2
        clear heu2
        have hsu3 : ¬ 9223372036854775807 < u2.length + r2.length := by omega
        obtain ⟨u3, heu3⟩ : ∃ t, u2 ++ r2 = t := ⟨_, rfl⟩
        have hbu3 : (⟨u2.toArray⟩ : ByteArray) ++ (⟨r2.toArray⟩ : ByteArray) = ⟨u3.toArray⟩ := by rw [← heu3]; exact str_cat _ _
        have hlu3 : u3.length ≤ 40 := by rw [← heu3]; simp; omega
        have HEu3 := Lib.hid heu3
        clear heu3
        have hsu4 : ¬ 9223372036854775807 < u3.length + 6 := by omega
        obtain ⟨u4, heu4⟩ : ∃ t, u3 ++ [32, 116, 105, 99, 107, 61] = t := ⟨_, rfl⟩
        have hbu4 : (⟨u3.toArray⟩ : ByteArray) ++ (⟨#[32, 116, 105, 99, 107, 61]⟩ : ByteArray) = ⟨u4.toArray⟩ := by rw [← heu4]; exact str_cat _ _
        have hlu4 : u4.length ≤ 50 := by rw [← heu4]; simp; omega
        have HEu4 := Lib.hid heu4
        clear heu4
        have hsu5 : ¬ 9223372036854775807 < u4.length + r3.length := by omega
        obtain ⟨u5, heu5⟩ : ∃ t, u4 ++ r3 = t := ⟨_, rfl⟩
        have hbu5 : (⟨u4.toArray⟩ : ByteArray) ++ (⟨r3.toArray⟩ : ByteArray) = ⟨u5.toArray⟩ := by rw [← heu5]; exact str_cat _ _
        have hlu5 : u5.length ≤ 60 := by rw [← heu5]; simp; omega
        have HEu5 := Lib.hid heu5
        clear heu5
        have hsu6 : ¬ 9223372036854775807 < u5.length + 1 := by omega
        obtain ⟨u6, heu6⟩ : ∃ t, u5 ++ [45] = t := ⟨_, rfl⟩
        have hbu6 : (⟨u5.toArray⟩ : ByteArray) ++ (⟨#[45]⟩ : ByteArray) = ⟨u6.toArray⟩ := by rw [← heu6]; exact str_cat _ _
        have hlu6 : u6.length ≤ 70 := by rw [← heu6]; simp; omega
        have HEu6 := Lib.hid heu6
        clear heu6
        have hsu7 : ¬ 9223372036854775807 < u6.length + r4.length := by omega
        obtain ⟨u7, heu7⟩ : ∃ t, u6 ++ r4 = t := ⟨_, rfl⟩
        have hbu7 : (⟨u6.toArray⟩ : ByteArray) ++ (⟨r4.toArray⟩ : ByteArray) = ⟨u7.toArray⟩ := by rw [← heu7]; exact str_cat _ _
        have hlu7 : u7.length ≤ 80 := by rw [← heu7]; simp; omega
        have HEu7 := Lib.hid heu7
        clear heu7
        have B4 := B3
        have g4 := g3
        have n4 := n3
        go_wp2_with fail
        refine wp_region_held_drew (S := (fun w' => w'.cell? ⟨gn, 0, none⟩ = some (.int .i64 q.s1) ∧ w'.cell? ⟨gn, 1, none⟩ = some (.int .i64 q.s2) ∧ w'.cell? ⟨gn, 2, none⟩ = some (.int .i64 q.t1) ∧ w'.cell? ⟨gn, 3, none⟩ = some (.int .i64 q.t2))) (by kernel_rfl) ?_ (fun hHeld => ?_)
        · replace B4 := Below.drew B4; replace g4 := Blk.drew g4; replace n4 := Blk.drew n4; (try dsimp only); exact blk4 n4
        replace B4 := Below.drew B4
        replace g4 := Blk.drew g4
        replace n4 := Blk.drew n4
        have zB4 := B4.size
        refine take_movev (v := ?vu3x0) 0 (Operand.tmp 4) rfl rfl (by first | exact .inl rfl | exact .inr rfl) rfl (by kernel_rfl) (by kernel_rfl) (by kernel_rfl) (fun _ _ _ h => h) (by assumption) ?yu3x0 ?ru3x0
        case yu3x0 => (go_simp; try (with_reducible rfl))
        simp only [List.setIfInBounds_toArray, List.set_cons_zero, List.set_cons_succ]
        refine take_op (v := ?vu3x1) 1 (Op.indexAddr 71 (Operand.tmp 39) (Operand.const (Value.int IntKind.i64 0))) 0 rfl rfl rfl rfl rfl (by kernel_rfl) (by kernel_rfl) (by kernel_rfl) (fun _ _ _ h => h) ?yu3x1 (by assumption) ?ru3x1
        case yu3x1 => (intro w' hSw; (try dsimp only at hSw); go_simp; try (with_reducible rfl))
        simp only [List.setIfInBounds_toArray, List.set_cons_zero, List.set_cons_succ]
        refine take_op (v := ?vu3x2) 2 (Op.load 3 (Operand.tmp 40)) 3 rfl rfl rfl rfl rfl (by kernel_rfl) (by kernel_rfl) (by kernel_rfl) (fun _ _ _ h => h) ?yu3x2 (by assumption) ?ru3x2
        case yu3x2 => (intro w' hSw; (try dsimp only at hSw); go_simp; try (with_reducible rfl))
        simp only [List.setIfInBounds_toArray, List.set_cons_zero, List.set_cons_succ]
        refine take_movev (v := ?vu3x6) 6 (Operand.tmp 4) rfl rfl (by first | exact .inl rfl | exact .inr rfl) rfl (by kernel_rfl) (by kernel_rfl) (by kernel_rfl) (fun _ _ _ h => h) (by assumption) ?yu3x6 ?ru3x6
        case yu3x6 => (go_simp; try (with_reducible rfl))
        simp only [List.setIfInBounds_toArray, List.set_cons_zero, List.set_cons_succ]
        refine take_op (v := ?vu3x7) 7 (Op.indexAddr 71 (Operand.tmp 45) (Operand.const (Value.int IntKind.i64 1))) 0 rfl rfl rfl rfl rfl (by kernel_rfl) (by kernel_rfl) (by kernel_rfl) (fun _ _ _ h => h) ?yu3x7 (by assumption) ?ru3x7
        case yu3x7 => (intro w' hSw; (try dsimp only at hSw); go_simp; try (with_reducible rfl))
        simp only [List.setIfInBounds_toArray, List.set_cons_zero, List.set_cons_succ]
        refine take_op (v := ?vu3x8) 8 (Op.load 3 (Operand.tmp 46)) 3 rfl rfl rfl rfl rfl (by kernel_rfl) (by kernel_rfl) (by kernel_rfl) (fun _ _ _ h => h) ?yu3x8 (by assumption) ?ru3x8
        case yu3x8 => (intro w' hSw; (try dsimp only at hSw); go_simp; try (with_reducible rfl))
        simp only [List.setIfInBounds_toArray, List.set_cons_zero, List.set_cons_succ]
        refine take_movev (v := ?vu3x12) 12 (Operand.tmp 4) rfl rfl (by first | exact .inl rfl | exact .inr rfl) rfl (by kernel_rfl) (by kernel_rfl) (by kernel_rfl) (fun _ _ _ h => h) (by assumption) ?yu3x12 ?ru3x12
        case yu3x12 => (go_simp; try (with_reducible rfl))
        simp only [List.setIfInBounds_toArray, List.set_cons_zero, List.set_cons_succ]
        refine take_op (v := ?vu3x13) 13 (Op.indexAddr 71 (Operand.tmp 51) (Operand.const (Value.int IntKind.i64 2))) 0 rfl rfl rfl rfl rfl (by kernel_rfl) (by kernel_rfl) (by kernel_rfl) (fun _ _ _ h => h) ?yu3x13 (by assumption) ?ru3x13
        case yu3x13 => (intro w' hSw; (try dsimp only at hSw); go_simp; try (with_reducible rfl))
        simp only [List.setIfInBounds_toArray, List.set_cons_zero, List.set_cons_succ]
        refine take_op (v := ?vu3x14) 14 (Op.load 3 (Operand.tmp 52)) 3 rfl rfl rfl rfl rfl (by kernel_rfl) (by kernel_rfl) (by kernel_rfl) (fun _ _ _ h => h) ?yu3x14 (by assumption) ?ru3x14
        case yu3x14 => (intro w' hSw; (try dsimp only at hSw); go_simp; try (with_reducible rfl))
        simp only [List.setIfInBounds_toArray, List.set_cons_zero, List.set_cons_succ]
        refine take_movev (v := ?vu3x18) 18 (Operand.tmp 4) rfl rfl (by first | exact .inl rfl | exact .inr rfl) rfl (by kernel_rfl) (by kernel_rfl) (by kernel_rfl) (fun _ _ _ h => h) (by assumption) ?yu3x18 ?ru3x18
        case yu3x18 => (go_simp; try (with_reducible rfl))
        simp only [List.setIfInBounds_toArray, List.set_cons_zero, List.set_cons_succ]
        refine take_op (v := ?vu3x19) 19 (Op.indexAddr 71 (Operand.tmp 57) (Operand.const (Value.int IntKind.i64 3))) 0 rfl rfl rfl rfl rfl (by kernel_rfl) (by kernel_rfl) (by kernel_rfl) (fun _ _ _ h => h) ?yu3x19 (by assumption) ?ru3x19
        case yu3x19 => (intro w' hSw; (try dsimp only at hSw); go_simp; try (with_reducible rfl))
        simp only [List.setIfInBounds_toArray, List.set_cons_zero, List.set_cons_succ]
        refine take_op (v := ?vu3x20) 20 (Op.load 3 (Operand.tmp 58)) 3 rfl rfl rfl rfl rfl (by kernel_rfl) (by kernel_rfl) (by kernel_rfl) (fun _ _ _ h => h) ?yu3x20 (by assumption) ?ru3x20
        case yu3x20 => (intro w' hSw; (try dsimp only at hSw); go_simp; try (with_reducible rfl))
        simp only [List.setIfInBounds_toArray, List.set_cons_zero, List.set_cons_succ]
        refine wpAnyH_ready (rs := [3]) (by kernel_rfl) (by simp) (AllReadyH.cons rfl (fun K3 hK3 => ?ku3x3) AllReadyH.nil)
        refine take_calls 3 31 [Operand.tmp 41] #[3] rfl rfl (by kernel_rfl) (fun args w => run_enter Tryd.func31 (by kernel_rfl) rfl args w) ?_
        refine (HS1.out _).mono ?_
        rintro e w3 ⟨rfl, hb3⟩
        refine ⟨_, rfl, ?_⟩
        have z3 := hb3.size
        try simp only [World.size_drew] at z3
        replace B4 := B4.trans (hb3.mono (by first | exact B4.size | omega))
        have zB43 := B4.size
        replace g4 := Blk.below g4 hb3 (by first | exact Nat.le_refl _ | (simp only [World.size_alloc, World.size_setCell, World.size_drew] at *; omega) | omega)
        replace n4 := Blk.below n4 hb3 (by first | exact Nat.le_refl _ | (simp only [World.size_alloc, World.size_setCell, World.size_drew] at *; omega) | omega)
        refine hK3.out _ _ ?su3x3 (fun hHeld => ?ru3x3)
        case su3x3 => ((try dsimp only); exact blk4 n4)
        try simp only [List.setIfInBounds_toArray, List.set_cons_zero, List.set_cons_succ]
        refine take_op (v := ?vu3x4) 4 (Op.binOp BinOp.add 9 (Operand.const (Value.string { data := #[115, 101, 113, 61] })) (Operand.tmp 42) 9) 9 rfl rfl rfl rfl rfl (by kernel_rfl) (by kernel_rfl) (by kernel_rfl) (fun _ _ _ h => h) ?yu3x4 (by assumption) ?ru3x4
        case yu3x4 => (intro w' hSw; (try dsimp only at hSw); go_simp; try (with_reducible rfl))
        simp only [List.setIfInBounds_toArray, List.set_cons_zero, List.set_cons_succ]
        refine take_op (v := ?vu3x5) 5 (Op.binOp BinOp.add 9 (Operand.tmp 43) (Operand.const (Value.string { data := #[45] })) 9) 9 rfl rfl rfl rfl rfl (by kernel_rfl) (by kernel_rfl) (by kernel_rfl) (fun _ _ _ h => h) ?yu3x5 (by assumption) ?ru3x5
        case yu3x5 => (intro w' hSw; (try dsimp only at hSw); go_simp; try (with_reducible rfl))
        simp only [List.setIfInBounds_toArray, List.set_cons_zero, List.set_cons_succ]
        refine wpAnyH_ready (rs := [9]) (by kernel_rfl) (by simp) (AllReadyH.cons rfl (fun K9 hK9 => ?ku3x9) AllReadyH.nil)
        refine take_calls 9 31 [Operand.tmp 47] #[3] rfl rfl (by kernel_rfl) (fun args w => run_enter Tryd.func31 (by kernel_rfl) rfl args w) ?_
        refine (HS2.out _).mono ?_
        rintro e w9 ⟨rfl, hb9⟩
        refine ⟨_, rfl, ?_⟩
        have z9 := hb9.size
        try simp only [World.size_drew] at z9
        replace B4 := B4.trans (hb9.mono (by first | exact B4.size | omega))
        have zB49 := B4.size
        replace g4 := Blk.below g4 hb9 (by first | exact Nat.le_refl _ | (simp only [World.size_alloc, World.size_setCell, World.size_drew] at *; omega) | omega)
        replace n4 := Blk.below n4 hb9 (by first | exact Nat.le_refl _ | (simp only [World.size_alloc, World.size_setCell, World.size_drew] at *; omega) | omega)
        refine hK9.out _ _ ?su3x9 (fun hHeld => ?ru3x9)
        case su3x9 => ((try dsimp only); exact blk4 n4)
        try simp only [List.setIfInBounds_toArray, List.set_cons_zero, List.set_cons_succ]
        refine take_op (v := ?vu3x10) 10 (Op.binOp BinOp.add 9 (Operand.tmp 44) (Operand.tmp 48) 9) 9 rfl rfl rfl rfl rfl (by kernel_rfl) (by kernel_rfl) (by kernel_rfl) (fun _ _ _ h => h) ?yu3x10 (by assumption) ?ru3x10
        case yu3x10 => (intro w' hSw; (try dsimp only at hSw); go_simp; try (with_reducible rfl))
        simp only [List.setIfInBounds_toArray, List.set_cons_zero, List.set_cons_succ]
        refine take_op (v := ?vu3x11) 11 (Op.binOp BinOp.add 9 (Operand.tmp 49) (Operand.const (Value.string { data := #[32, 116, 105, 99, 107, 61] })) 9) 9 rfl rfl rfl rfl rfl (by kernel_rfl) (by kernel_rfl) (by kernel_rfl) (fun _ _ _ h => h) ?yu3x11 (by assumption) ?ru3x11
        case yu3x11 => (intro w' hSw; (try dsimp only at hSw); go_simp; try (with_reducible rfl))
        simp only [List.setIfInBounds_toArray, List.set_cons_zero, List.set_cons_succ]
        refine wpAnyH_ready (rs := [15]) (by kernel_rfl) (by simp) (AllReadyH.cons rfl (fun K15 hK15 => ?ku3x15) AllReadyH.nil)
        refine take_calls 15 31 [Operand.tmp 53] #[3] rfl rfl (by kernel_rfl) (fun args w => run_enter Tryd.func31 (by kernel_rfl) rfl args w) ?_
        refine (HS3.out _).mono ?_
        rintro e w15 ⟨rfl, hb15⟩
        refine ⟨_, rfl, ?_⟩
        have z15 := hb15.size
        try simp only [World.size_drew] at z15
        replace B4 := B4.trans (hb15.mono (by first | exact B4.size | omega))
        have zB415 := B4.size
        replace g4 := Blk.below g4 hb15 (by first | exact Nat.le_refl _ | (simp only [World.size_alloc, World.size_setCell, World.size_drew] at *; omega) | omega)
        replace n4 := Blk.below n4 hb15 (by first | exact Nat.le_refl _ | (simp only [World.size_alloc, World.size_setCell, World.size_drew] at *; omega) | omega)
        refine hK15.out _ _ ?su3x15 (fun hHeld => ?ru3x15)
        case su3x15 => ((try dsimp only); exact blk4 n4)
        try simp only [List.setIfInBounds_toArray, List.set_cons_zero, List.set_cons_succ]
        refine take_op (v := ?vu3x16) 16 (Op.binOp BinOp.add 9 (Operand.tmp 50) (Operand.tmp 54) 9) 9 rfl rfl rfl rfl rfl (by kernel_rfl) (by kernel_rfl) (by kernel_rfl) (fun _ _ _ h => h) ?yu3x16 (by assumption) ?ru3x16
        case yu3x16 => (intro w' hSw; (try dsimp only at hSw); go_simp; try (with_reducible rfl))
        simp only [List.setIfInBounds_toArray, List.set_cons_zero, List.set_cons_succ]
        refine take_op (v := ?vu3x17) 17 (Op.binOp BinOp.add 9 (Operand.tmp 55) (Operand.const (Value.string { data := #[45] })) 9) 9 rfl rfl rfl rfl rfl (by kernel_rfl) (by kernel_rfl) (by kernel_rfl) (fun _ _ _ h => h) ?yu3x17 (by assumption) ?ru3x17
        case yu3x17 => (intro w' hSw; (try dsimp only at hSw); go_simp; try (with_reducible rfl))
        simp only [List.setIfInBounds_toArray, List.set_cons_zero, List.set_cons_succ]
        refine wpAnyH_ready (rs := [21]) (by kernel_rfl) (by simp) (AllReadyH.cons rfl (fun K21 hK21 => ?ku3x21) AllReadyH.nil)
        refine take_calls 21 31 [Operand.tmp 59] #[3] rfl rfl (by kernel_rfl) (fun args w => run_enter Tryd.func31 (by kernel_rfl) rfl args w) ?_
        refine (HS4.out _).mono ?_
        rintro e w21 ⟨rfl, hb21⟩
        refine ⟨_, rfl, ?_⟩
        have z21 := hb21.size
        try simp only [World.size_drew] at z21
        replace B4 := B4.trans (hb21.mono (by first | exact B4.size | omega))
        have zB421 := B4.size
        replace g4 := Blk.below g4 hb21 (by first | exact Nat.le_refl _ | (simp only [World.size_alloc, World.size_setCell, World.size_drew] at *; omega) | omega)
        replace n4 := Blk.below n4 hb21 (by first | exact Nat.le_refl _ | (simp only [World.size_alloc, World.size_setCell, World.size_drew] at *; omega) | omega)
        refine hK21.out _ _ ?su3x21 (fun hHeld => ?ru3x21)
        case su3x21 => ((try dsimp only); exact blk4 n4)
        try simp only [List.setIfInBounds_toArray, List.set_cons_zero, List.set_cons_succ]
        refine take_op (v := ?vu3x22) 22 (Op.binOp BinOp.add 9 (Operand.tmp 56) (Operand.tmp 60) 9) 9 rfl rfl rfl rfl rfl (by kernel_rfl) (by kernel_rfl) (by kernel_rfl) (fun _ _ _ h => h) ?yu3x22 (by assumption) ?ru3x22
        case yu3x22 => (intro w' hSw; (try dsimp only at hSw); go_simp; try (with_reducible rfl))
        simp only [List.setIfInBounds_toArray, List.set_cons_zero, List.set_cons_succ]
        refine take_op (v := ?vu3x23) 23 (Op.assign (Operand.tmp 61)) 9 rfl rfl rfl rfl rfl (by kernel_rfl) (by kernel_rfl) (by kernel_rfl) (fun _ _ _ h => h) ?yu3x23 (by assumption) ?ru3x23
        case yu3x23 => (intro w' hSw; (try dsimp only at hSw); go_simp; try (with_reducible rfl))
        simp only [List.setIfInBounds_toArray, List.set_cons_zero, List.set_cons_succ]
        refine wpAnyH_done (by kernel_rfl) ?_ _
        clear x0 x1 x2 x3 x4 x5 x6 hHeld
        obtain ⟨x0, x1, x2, x3, x4, x5, x6⟩ := SkpW.blk7 g4
        have hzc := B4.size
        by_cases hfd : q.find = []
        · have HFD := Lib.hid hfd
          rw [hfd] at x4
          clear hfd
          have B5 := B4
          have g5 := g4
          have hsu12 : ¬ 9223372036854775807 < u7.length + 7 := by omega
          obtain ⟨u12, heu12⟩ : ∃ t, u7 ++ [32, 108, 105, 109, 105, 116, 61] = t := ⟨_, rfl⟩
          have hbu12 : (⟨u7.toArray⟩ : ByteArray) ++ (⟨#[32, 108, 105, 109, 105, 116, 61]⟩ : ByteArray) = ⟨u12.toArray⟩ := by rw [← heu12]; exact str_cat _ _
          have hlu12 : u12.length ≤ 700 := by rw [← heu12]; simp; omega
          have HEu12 := Lib.hid heu12
          clear heu12
          have hsu13 : ¬ 9223372036854775807 < u12.length + r5.length := by omega
          obtain ⟨u13, heu13⟩ : ∃ t, u12 ++ r5 = t := ⟨_, rfl⟩
          have hbu13 : (⟨u12.toArray⟩ : ByteArray) ++ (⟨r5.toArray⟩ : ByteArray) = ⟨u13.toArray⟩ := by rw [← heu13]; exact str_cat _ _
          have hlu13 : u13.length ≤ 710 := by rw [← heu13]; simp; omega
          have HEu13 := Lib.hid heu13
          clear heu13
          have hsu14 : ¬ 9223372036854775807 < u13.length + 6 := by omega
          obtain ⟨u14, heu14⟩ : ∃ t, u13 ++ [32, 102, 114, 111, 109, 61] = t := ⟨_, rfl⟩
          have hbu14 : (⟨u13.toArray⟩ : ByteArray) ++ (⟨#[32, 102, 114, 111, 109, 61]⟩ : ByteArray) = ⟨u14.toArray⟩ := by rw [← heu14]; exact str_cat _ _
          have hlu14 : u14.length ≤ 720 := by rw [← heu14]; simp; omega
          have HEu14 := Lib.hid heu14
          clear heu14
          have hsu15 : ¬ 9223372036854775807 < u14.length + r6.length := by omega
          obtain ⟨u15, heu15⟩ : ∃ t, u14 ++ r6 = t := ⟨_, rfl⟩
          have hbu15 : (⟨u14.toArray⟩ : ByteArray) ++ (⟨r6.toArray⟩ : ByteArray) = ⟨u15.toArray⟩ := by rw [← heu15]; exact str_cat _ _
          have hlu15 : u15.length ≤ 730 := by rw [← heu15]; simp; omega
          have HEu15 := Lib.hid heu15
          clear heu15
          have zb5 := B5.size
          have g5lt := g5.lt
          go_wp2_with fail
          refine wp_region_held_drew (S := (fun w' => w'.cell? ⟨w.heap.size, 0, none⟩ = some (.int .i64 q.s1) ∧ w'.cell? ⟨w.heap.size, 1, none⟩ = some (.int .i64 q.s2) ∧ w'.cell? ⟨w.heap.size, 2, none⟩ = some (.int .i64 q.t1) ∧ w'.cell? ⟨w.heap.size, 3, none⟩ = some (.int .i64 q.t2) ∧ w'.cell? ⟨w.heap.size, 4, none⟩ = some (str q.find) ∧ w'.cell? ⟨w.heap.size, 5, none⟩ = some (.int .i64 q.limit) ∧ w'.cell? ⟨w.heap.size, 6, none⟩ = some (.int .i64 q.frm))) (by kernel_rfl) ?_ (fun hHeld => ?_)
          · replace B5 := Below.drew B5; replace g5 := Blk.drew g5; (try dsimp only); exact SkpW.blk7 g5
          replace B5 := Below.drew B5
          replace g5 := Blk.drew g5
          have zB5 := B5.size
          refine take_movev (v := ?vu1t3x0) 0 (Operand.tmp 6) rfl rfl (by first | exact .inl rfl | exact .inr rfl) rfl (by kernel_rfl) (by kernel_rfl) (by kernel_rfl) (fun _ _ _ h => h) (by assumption) ?yu1t3x0 ?ru1t3x0
          case yu1t3x0 => (go_simp; try (with_reducible rfl))
          simp only [List.setIfInBounds_toArray, List.set_cons_zero, List.set_cons_succ]
          refine take_op (v := ?vu1t3x1) 1 (Op.binOp BinOp.add 9 (Operand.tmp 71) (Operand.const (Value.string { data := #[32, 108, 105, 109, 105, 116, 61] })) 9) 9 rfl rfl rfl rfl rfl (by kernel_rfl) (by kernel_rfl) (by kernel_rfl) (fun _ _ _ h => h) ?yu1t3x1 (by assumption) ?ru1t3x1
          case yu1t3x1 => (intro w' hSw; (try dsimp only at hSw); go_simp; try (with_reducible rfl))
          simp only [List.setIfInBounds_toArray, List.set_cons_zero, List.set_cons_succ]
          refine take_op (v := ?vu1t3x2) 2 (Op.fieldAddr 26 (Operand.tmp 1) 3) 0 rfl rfl rfl rfl rfl (by kernel_rfl) (by kernel_rfl) (by kernel_rfl) (fun _ _ _ h => h) ?yu1t3x2 (by assumption) ?ru1t3x2
          case yu1t3x2 => (intro w' hSw; (try dsimp only at hSw); go_simp; try (with_reducible rfl))
          simp only [List.setIfInBounds_toArray, List.set_cons_zero, List.set_cons_succ]
          refine take_op (v := ?vu1t3x3) 3 (Op.load 3 (Operand.tmp 73)) 3 rfl rfl rfl rfl rfl (by kernel_rfl) (by kernel_rfl) (by kernel_rfl) (fun _ _ _ h => h) ?yu1t3x3 (by assumption) ?ru1t3x3
          case yu1t3x3 => (intro w' hSw; (try dsimp only at hSw); go_simp; try (with_reducible rfl))
          simp only [List.setIfInBounds_toArray, List.set_cons_zero, List.set_cons_succ]
          refine take_op (v := ?vu1t3x7) 7 (Op.fieldAddr 26 (Operand.tmp 1) 4) 0 rfl rfl rfl rfl rfl (by kernel_rfl) (by kernel_rfl) (by kernel_rfl) (fun _ _ _ h => h) ?yu1t3x7 (by assumption) ?ru1t3x7
          case yu1t3x7 => (intro w' hSw; (try dsimp only at hSw); go_simp; try (with_reducible rfl))
          simp only [List.setIfInBounds_toArray, List.set_cons_zero, List.set_cons_succ]
          refine take_op (v := ?vu1t3x8) 8 (Op.load 3 (Operand.tmp 78)) 3 rfl rfl rfl rfl rfl (by kernel_rfl) (by kernel_rfl) (by kernel_rfl) (fun _ _ _ h => h) ?yu1t3x8 (by assumption) ?ru1t3x8
          case yu1t3x8 => (intro w' hSw; (try dsimp only at hSw); go_simp; try (with_reducible rfl))
          simp only [List.setIfInBounds_toArray, List.set_cons_zero, List.set_cons_succ]
          refine wpAnyH_ready (rs := [4]) (by kernel_rfl) (by simp) (AllReadyH.cons rfl (fun K4 hK4 => ?ku1t3x4) AllReadyH.nil)
          refine take_calls 4 31 [Operand.tmp 74] #[3] rfl rfl (by kernel_rfl) (fun args w => run_enter Tryd.func31 (by kernel_rfl) rfl args w) ?_
          refine (HS5.out _).mono ?_
          rintro e w4 ⟨rfl, hb4⟩
          refine ⟨_, rfl, ?_⟩
          have z4 := hb4.size
          try simp only [World.size_drew] at z4
          replace B5 := B5.trans (hb4.mono (by first | exact B5.size | omega))
          have zB54 := B5.size
          replace g5 := Blk.below g5 hb4 (by first | exact Nat.le_refl _ | (simp only [World.size_alloc, World.size_setCell, World.size_drew] at *; omega) | omega)
          refine hK4.out _ _ ?su1t3x4 (fun hHeld => ?ru1t3x4)
          case su1t3x4 => ((try dsimp only); exact SkpW.blk7 g5)
          try simp only [List.setIfInBounds_toArray, List.set_cons_zero, List.set_cons_succ]
          refine take_op (v := ?vu1t3x5) 5 (Op.binOp BinOp.add 9 (Operand.tmp 72) (Operand.tmp 75) 9) 9 rfl rfl rfl rfl rfl (by kernel_rfl) (by kernel_rfl) (by kernel_rfl) (fun _ _ _ h => h) ?yu1t3x5 (by assumption) ?ru1t3x5
          case yu1t3x5 => (intro w' hSw; (try dsimp only at hSw); go_simp; try (with_reducible rfl))
          simp only [List.setIfInBounds_toArray, List.set_cons_zero, List.set_cons_succ]
          refine take_op (v := ?vu1t3x6) 6 (Op.binOp BinOp.add 9 (Operand.tmp 76) (Operand.const (Value.string { data := #[32, 102, 114, 111, 109, 61] })) 9) 9 rfl rfl rfl rfl rfl (by kernel_rfl) (by kernel_rfl) (by kernel_rfl) (fun _ _ _ h => h) ?yu1t3x6 (by assumption) ?ru1t3x6
          case yu1t3x6 => (intro w' hSw; (try dsimp only at hSw); go_simp; try (with_reducible rfl))
          simp only [List.setIfInBounds_toArray, List.set_cons_zero, List.set_cons_succ]
          refine wpAnyH_ready (rs := [9]) (by kernel_rfl) (by simp) (AllReadyH.cons rfl (fun K9 hK9 => ?ku1t3x9) AllReadyH.nil)
          refine take_calls 9 31 [Operand.tmp 79] #[3] rfl rfl (by kernel_rfl) (fun args w => run_enter Tryd.func31 (by kernel_rfl) rfl args w) ?_
          refine (HS6.out _).mono ?_
          rintro e w9 ⟨rfl, hb9⟩
          refine ⟨_, rfl, ?_⟩
          have z9 := hb9.size
          try simp only [World.size_drew] at z9
          replace B5 := B5.trans (hb9.mono (by first | exact B5.size | omega))
          have zB59 := B5.size
          replace g5 := Blk.below g5 hb9 (by first | exact Nat.le_refl _ | (simp only [World.size_alloc, World.size_setCell, World.size_drew] at *; omega) | omega)
          refine hK9.out _ _ ?su1t3x9 (fun hHeld => ?ru1t3x9)
          case su1t3x9 => ((try dsimp only); exact SkpW.blk7 g5)
          try simp only [List.setIfInBounds_toArray, List.set_cons_zero, List.set_cons_succ]
          refine take_op (v := ?vu1t3x10) 10 (Op.binOp BinOp.add 9 (Operand.tmp 77) (Operand.tmp 80) 9) 9 rfl rfl rfl rfl rfl (by kernel_rfl) (by kernel_rfl) (by kernel_rfl) (fun _ _ _ h => h) ?yu1t3x10 (by assumption) ?ru1t3x10
          case yu1t3x10 => (intro w' hSw; (try dsimp only at hSw); go_simp; try (with_reducible rfl))
          simp only [List.setIfInBounds_toArray, List.set_cons_zero, List.set_cons_succ]
          refine take_op (v := ?vu1t3x11) 11 (Op.assign (Operand.tmp 81)) 9 rfl rfl rfl rfl rfl (by kernel_rfl) (by kernel_rfl) (by kernel_rfl) (fun _ _ _ h => h) ?yu1t3x11 (by assumption) ?ru1t3x11
          case yu1t3x11 => (intro w' hSw; (try dsimp only at hSw); go_simp; try (with_reducible rfl))
          simp only [List.setIfInBounds_toArray, List.set_cons_zero, List.set_cons_succ]
          refine take_op (v := ?vu1t3x12) 12 (Op.assign (Operand.const (Value.int IntKind.i64 0))) 3 rfl rfl rfl rfl rfl (by kernel_rfl) (by kernel_rfl) (by kernel_rfl) (fun _ _ _ h => h) ?yu1t3x12 (by assumption) ?ru1t3x12
          case yu1t3x12 => (intro w' hSw; (try dsimp only at hSw); go_simp; try (with_reducible rfl))
          simp only [List.setIfInBounds_toArray, List.set_cons_zero, List.set_cons_succ]
          refine wpAnyH_done (by kernel_rfl) ?_ _
          clear hHeld
          go_wp2_with fail
          try rw [Exit.noGoto_ret]
          go_ret2
          refine ⟨?_, B5⟩
          have e1 : showL q = u15 := by
            rw [← HEu15.out, ← HEu14.out, ← HEu13.out, ← HEu12.out, ← HEu7.out, ← HEu6.out, ← HEu5.out, ← HEu4.out, ← HEu3.out, ← HEu2.out, ← HEu1.out, ← HR1.out, ← HR2.out, ← HR3.out, ← HR4.out, ← HR5.out, ← HR6.out]
            unfold showL rngL
            rw [if_pos HFD.out]
            simp
          rw [e1]
          rfl
        · have HFD := Lib.hid hfd
          have hfB : (q.find == []) = false := beq_eq_false_iff_ne.2 hfd
          have hfB2 : (q.find != []) = true := by rw [bne, hfB]; rfl
          clear hfd
          have hxl := hexL_len q.find
          have C5 := fun w => refHex_any q.find w (by omega)
          obtain ⟨hx, hhx⟩ : ∃ x, hexL q.find = x := ⟨_, rfl⟩
          rw [hhx] at C5 hxl
          have HC5 := Lib.hid C5
          have HHX := Lib.hid hhx
          clear C5 hhx
          have lhx : hx.length ≤ 400 := by omega
          clear hxl
          have hsu10 : ¬ 9223372036854775807 < u7.length + 6 := by omega
          obtain ⟨u10, heu10⟩ : ∃ t, u7 ++ [32, 102, 105, 110, 100, 61] = t := ⟨_, rfl⟩
          have hbu10 : (⟨u7.toArray⟩ : ByteArray) ++ (⟨#[32, 102, 105, 110, 100, 61]⟩ : ByteArray) = ⟨u10.toArray⟩ := by rw [← heu10]; exact str_cat _ _
          have hlu10 : u10.length ≤ 100 := by rw [← heu10]; simp; omega
          have HEu10 := Lib.hid heu10
          clear heu10
          have hsu11 : ¬ 9223372036854775807 < u10.length + hx.length := by omega
          obtain ⟨u11, heu11⟩ : ∃ t, u10 ++ hx = t := ⟨_, rfl⟩
          have hbu11 : (⟨u10.toArray⟩ : ByteArray) ++ (⟨hx.toArray⟩ : ByteArray) = ⟨u11.toArray⟩ := by rw [← heu11]; exact str_cat _ _
          have hlu11 : u11.length ≤ 600 := by rw [← heu11]; simp; omega
          have HEu11 := Lib.hid heu11
          clear heu11
          have hl9 := g4.lt
          go_wp2_with fail
          refine (HC5.out _).mono ?_
          rintro e w9 ⟨rfl, b9⟩
          have g5 := g4.below b9 hl9
          have B5 := B4.trans (b9.mono hzc)
          clear x0 x1 x2 x3 x4 x5 x6
          have hsu12 : ¬ 9223372036854775807 < u11.length + 7 := by omega
          obtain ⟨u12, heu12⟩ : ∃ t, u11 ++ [32, 108, 105, 109, 105, 116, 61] = t := ⟨_, rfl⟩
          have hbu12 : (⟨u11.toArray⟩ : ByteArray) ++ (⟨#[32, 108, 105, 109, 105, 116, 61]⟩ : ByteArray) = ⟨u12.toArray⟩ := by rw [← heu12]; exact str_cat _ _
          have hlu12 : u12.length ≤ 700 := by rw [← heu12]; simp; omega
          have HEu12 := Lib.hid heu12
          clear heu12
          have hsu13 : ¬ 9223372036854775807 < u12.length + r5.length := by omega
          obtain ⟨u13, heu13⟩ : ∃ t, u12 ++ r5 = t := ⟨_, rfl⟩
          have hbu13 : (⟨u12.toArray⟩ : ByteArray) ++ (⟨r5.toArray⟩ : ByteArray) = ⟨u13.toArray⟩ := by rw [← heu13]; exact str_cat _ _
          have hlu13 : u13.length ≤ 710 := by rw [← heu13]; simp; omega
          have HEu13 := Lib.hid heu13
          clear heu13
          have hsu14 : ¬ 9223372036854775807 < u13.length + 6 := by omega
          obtain ⟨u14, heu14⟩ : ∃ t, u13 ++ [32, 102, 114, 111, 109, 61] = t := ⟨_, rfl⟩
          have hbu14 : (⟨u13.toArray⟩ : ByteArray) ++ (⟨#[32, 102, 114, 111, 109, 61]⟩ : ByteArray) = ⟨u14.toArray⟩ := by rw [← heu14]; exact str_cat _ _
          have hlu14 : u14.length ≤ 720 := by rw [← heu14]; simp; omega
          have HEu14 := Lib.hid heu14
          clear heu14
          have hsu15 : ¬ 9223372036854775807 < u14.length + r6.length := by omega
          obtain ⟨u15, heu15⟩ : ∃ t, u14 ++ r6 = t := ⟨_, rfl⟩
          have hbu15 : (⟨u14.toArray⟩ : ByteArray) ++ (⟨r6.toArray⟩ : ByteArray) = ⟨u15.toArray⟩ := by rw [← heu15]; exact str_cat _ _
          have hlu15 : u15.length ≤ 730 := by rw [← heu15]; simp; omega
          have HEu15 := Lib.hid heu15
          clear heu15
          have zb5 := B5.size
          have g5lt := g5.lt
          go_wp2_with fail
          refine wp_region_held_drew (S := (fun w' => w'.cell? ⟨w.heap.size, 0, none⟩ = some (.int .i64 q.s1) ∧ w'.cell? ⟨w.heap.size, 1, none⟩ = some (.int .i64 q.s2) ∧ w'.cell? ⟨w.heap.size, 2, none⟩ = some (.int .i64 q.t1) ∧ w'.cell? ⟨w.heap.size, 3, none⟩ = some (.int .i64 q.t2) ∧ w'.cell? ⟨w.heap.size, 4, none⟩ = some (str q.find) ∧ w'.cell? ⟨w.heap.size, 5, none⟩ = some (.int .i64 q.limit) ∧ w'.cell? ⟨w.heap.size, 6, none⟩ = some (.int .i64 q.frm))) (by kernel_rfl) ?_ (fun hHeld => ?_)
          · replace B5 := Below.drew B5; replace g5 := Blk.drew g5; (try dsimp only); exact SkpW.blk7 g5
          replace B5 := Below.drew B5
          replace g5 := Blk.drew g5
          have zB5 := B5.size
          refine take_movev (v := ?vu2t3x0) 0 (Operand.tmp 6) rfl rfl (by first | exact .inl rfl | exact .inr rfl) rfl (by kernel_rfl) (by kernel_rfl) (by kernel_rfl) (fun _ _ _ h => h) (by assumption) ?yu2t3x0 ?ru2t3x0
          case yu2t3x0 => (go_simp; try (with_reducible rfl))
          simp only [List.setIfInBounds_toArray, List.set_cons_zero, List.set_cons_succ]
          refine take_op (v := ?vu2t3x1) 1 (Op.binOp BinOp.add 9 (Operand.tmp 71) (Operand.const (Value.string { data := #[32, 108, 105, 109, 105, 116, 61] })) 9) 9 rfl rfl rfl rfl rfl (by kernel_rfl) (by kernel_rfl) (by kernel_rfl) (fun _ _ _ h => h) ?yu2t3x1 (by assumption) ?ru2t3x1
          case yu2t3x1 => (intro w' hSw; (try dsimp only at hSw); go_simp; try (with_reducible rfl))
          simp only [List.setIfInBounds_toArray, List.set_cons_zero, List.set_cons_succ]
          refine take_op (v := ?vu2t3x2) 2 (Op.fieldAddr 26 (Operand.tmp 1) 3) 0 rfl rfl rfl rfl rfl (by kernel_rfl) (by kernel_rfl) (by kernel_rfl) (fun _ _ _ h => h) ?yu2t3x2 (by assumption) ?ru2t3x2
          case yu2t3x2 => (intro w' hSw; (try dsimp only at hSw); go_simp; try (with_reducible rfl))
          simp only [List.setIfInBounds_toArray, List.set_cons_zero, List.set_cons_succ]
          refine take_op (v := ?vu2t3x3) 3 (Op.load 3 (Operand.tmp 73)) 3 rfl rfl rfl rfl rfl (by kernel_rfl) (by kernel_rfl) (by kernel_rfl) (fun _ _ _ h => h) ?yu2t3x3 (by assumption) ?ru2t3x3
          case yu2t3x3 => (intro w' hSw; (try dsimp only at hSw); go_simp; try (with_reducible rfl))
          simp only [List.setIfInBounds_toArray, List.set_cons_zero, List.set_cons_succ]
          refine take_op (v := ?vu2t3x7) 7 (Op.fieldAddr 26 (Operand.tmp 1) 4) 0 rfl rfl rfl rfl rfl (by kernel_rfl) (by kernel_rfl) (by kernel_rfl) (fun _ _ _ h => h) ?yu2t3x7 (by assumption) ?ru2t3x7
          case yu2t3x7 => (intro w' hSw; (try dsimp only at hSw); go_simp; try (with_reducible rfl))
          simp only [List.setIfInBounds_toArray, List.set_cons_zero, List.set_cons_succ]
          refine take_op (v := ?vu2t3x8) 8 (Op.load 3 (Operand.tmp 78)) 3 rfl rfl rfl rfl rfl (by kernel_rfl) (by kernel_rfl) (by kernel_rfl) (fun _ _ _ h => h) ?yu2t3x8 (by assumption) ?ru2t3x8
          case yu2t3x8 => (intro w' hSw; (try dsimp only at hSw); go_simp; try (with_reducible rfl))
          simp only [List.setIfInBounds_toArray, List.set_cons_zero, List.set_cons_succ]
          refine wpAnyH_ready (rs := [4]) (by kernel_rfl) (by simp) (AllReadyH.cons rfl (fun K4 hK4 => ?ku2t3x4) AllReadyH.nil)
          refine take_calls 4 31 [Operand.tmp 74] #[3] rfl rfl (by kernel_rfl) (fun args w => run_enter Tryd.func31 (by kernel_rfl) rfl args w) ?_
          refine (HS5.out _).mono ?_
          rintro e w4 ⟨rfl, hb4⟩
          refine ⟨_, rfl, ?_⟩
          have z4 := hb4.size
          try simp only [World.size_drew] at z4
          replace B5 := B5.trans (hb4.mono (by first | exact B5.size | omega))
          have zB54 := B5.size
          replace g5 := Blk.below g5 hb4 (by first | exact Nat.le_refl _ | (simp only [World.size_alloc, World.size_setCell, World.size_drew] at *; omega) | omega)
          refine hK4.out _ _ ?su2t3x4 (fun hHeld => ?ru2t3x4)
          case su2t3x4 => ((try dsimp only); exact SkpW.blk7 g5)
          try simp only [List.setIfInBounds_toArray, List.set_cons_zero, List.set_cons_succ]
          refine take_op (v := ?vu2t3x5) 5 (Op.binOp BinOp.add 9 (Operand.tmp 72) (Operand.tmp 75) 9) 9 rfl rfl rfl rfl rfl (by kernel_rfl) (by kernel_rfl) (by kernel_rfl) (fun _ _ _ h => h) ?yu2t3x5 (by assumption) ?ru2t3x5
          case yu2t3x5 => (intro w' hSw; (try dsimp only at hSw); go_simp; try (with_reducible rfl))
          simp only [List.setIfInBounds_toArray, List.set_cons_zero, List.set_cons_succ]
          refine take_op (v := ?vu2t3x6) 6 (Op.binOp BinOp.add 9 (Operand.tmp 76) (Operand.const (Value.string { data := #[32, 102, 114, 111, 109, 61] })) 9) 9 rfl rfl rfl rfl rfl (by kernel_rfl) (by kernel_rfl) (by kernel_rfl) (fun _ _ _ h => h) ?yu2t3x6 (by assumption) ?ru2t3x6
          case yu2t3x6 => (intro w' hSw; (try dsimp only at hSw); go_simp; try (with_reducible rfl))
          simp only [List.setIfInBounds_toArray, List.set_cons_zero, List.set_cons_succ]
          refine wpAnyH_ready (rs := [9]) (by kernel_rfl) (by simp) (AllReadyH.cons rfl (fun K9 hK9 => ?ku2t3x9) AllReadyH.nil)
          refine take_calls 9 31 [Operand.tmp 79] #[3] rfl rfl (by kernel_rfl) (fun args w => run_enter Tryd.func31 (by kernel_rfl) rfl args w) ?_
          refine (HS6.out _).mono ?_
          rintro e w9 ⟨rfl, hb9⟩
          refine ⟨_, rfl, ?_⟩
          have z9 := hb9.size
          try simp only [World.size_drew] at z9
          replace B5 := B5.trans (hb9.mono (by first | exact B5.size | omega))
          have zB59 := B5.size
          replace g5 := Blk.below g5 hb9 (by first | exact Nat.le_refl _ | (simp only [World.size_alloc, World.size_setCell, World.size_drew] at *; omega) | omega)
          refine hK9.out _ _ ?su2t3x9 (fun hHeld => ?ru2t3x9)
          case su2t3x9 => ((try dsimp only); exact SkpW.blk7 g5)
          try simp only [List.setIfInBounds_toArray, List.set_cons_zero, List.set_cons_succ]
          refine take_op (v := ?vu2t3x10) 10 (Op.binOp BinOp.add 9 (Operand.tmp 77) (Operand.tmp 80) 9) 9 rfl rfl rfl rfl rfl (by kernel_rfl) (by kernel_rfl) (by kernel_rfl) (fun _ _ _ h => h) ?yu2t3x10 (by assumption) ?ru2t3x10
          case yu2t3x10 => (intro w' hSw; (try dsimp only at hSw); go_simp; try (with_reducible rfl))
          simp only [List.setIfInBounds_toArray, List.set_cons_zero, List.set_cons_succ]
          refine take_op (v := ?vu2t3x11) 11 (Op.assign (Operand.tmp 81)) 9 rfl rfl rfl rfl rfl (by kernel_rfl) (by kernel_rfl) (by kernel_rfl) (fun _ _ _ h => h) ?yu2t3x11 (by assumption) ?ru2t3x11
          case yu2t3x11 => (intro w' hSw; (try dsimp only at hSw); go_simp; try (with_reducible rfl))
          simp only [List.setIfInBounds_toArray, List.set_cons_zero, List.set_cons_succ]
          refine take_op (v := ?vu2t3x12) 12 (Op.assign (Operand.const (Value.int IntKind.i64 0))) 3 rfl rfl rfl rfl rfl (by kernel_rfl) (by kernel_rfl) (by kernel_rfl) (fun _ _ _ h => h) ?yu2t3x12 (by assumption) ?ru2t3x12
          case yu2t3x12 => (intro w' hSw; (try dsimp only at hSw); go_simp; try (with_reducible rfl))
          simp only [List.setIfInBounds_toArray, List.set_cons_zero, List.set_cons_succ]
          refine wpAnyH_done (by kernel_rfl) ?_ _
          clear hHeld
          go_wp2_with fail
          try rw [Exit.noGoto_ret]
          go_ret2
          refine ⟨?_, B5⟩
          have e1 : showL q = u15 := by
            rw [← HEu15.out, ← HEu14.out, ← HEu13.out, ← HEu12.out, ← HEu11.out, ← HEu10.out, ← HHX.out, ← HEu7.out, ← HEu6.out, ← HEu5.out, ← HEu4.out, ← HEu3.out, ← HEu2.out, ← HEu1.out, ← HR1.out, ← HR2.out, ← HR3.out, ← HR4.out, ← HR5.out, ← HR6.out]
            unfold showL rngL
            rw [if_neg HFD.out]
            simp
          rw [e1]
          rfl
end WanW
end Go.Proofs.YtjcbaaabbdcdnaaDoor
