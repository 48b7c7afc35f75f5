/- Walk of the reference of package sieve: Parse. -/
import Derived.Test.YtdeiehgghhiijaaDoorSieX
namespace Go.Proofs.YtdeiehgghhiijaaDoor
set_option linter.unusedVariables false
set_option linter.unusedSimpArgs false
set_option linter.unnecessarySimpa false
open Go.RowKit
namespace SieW
open WanW (w64k)

theorem Wds.of {s : List UInt8} {w : World} {A : Option Addr} {n : Nat} (hs : s.length ≤ 1000) (h : Rd w w.heap.size 2 A n (wcells (rwords s))) : ∃ b o, A = some ⟨b, o, none⟩ ∧ Wds s w b o n := by
  have hl : (rwords s).length = n := rd_wlen h
  have hr : (rwords s).length = (wordsP s).length + 1 := by simp [rwords]
  obtain ⟨b, o, h1, h2, h3⟩ := h.at_ (by omega)
  have hw := words_len s
  refine ⟨b, o, h1, by omega, by omega, h2, fun i hi => ?_⟩
  have e := hd_r s i hi
  obtain ⟨hi2, e2⟩ := List.getElem?_eq_some_iff.1 e
  have hwl := wcells_len (rwords s)
  have g0 : (wcells (rwords s))[i * 2 + 0]? = _ := flat_get (fun x : Wd => [str x.1, .int .i64 x.2]) 2 (rwords s) (fun _ _ => rfl) i 0 hi2 (by omega)
  have g1 : (wcells (rwords s))[i * 2 + 1]? = _ := flat_get (fun x : Wd => [str x.1, .int .i64 x.2]) 2 (rwords s) (fun _ _ => rfl) i 1 hi2 (by omega)
  rw [e2] at g0 g1
  rw [Nat.add_zero] at g0
  have l0 : i * 2 < (wcells (rwords s)).length := by omega
  have l1 : i * 2 + 1 < (wcells (rwords s)).length := by omega
  rw [List.getElem?_eq_getElem l0] at g0
  rw [List.getElem?_eq_getElem l1] at g1
  refine ⟨?_, ?_⟩
  · rw [h3 _ l0, g0]; rfl
  · rw [Nat.add_assoc, h3 _ l1, g1]; rfl
theorem cell_far3 {w : World} {b g o : Nat} {v a' b' c' : Value} (hne : b ≠ g) (h : w.cell? ⟨b, o, none⟩ = some v) :
    (((w.setCell ⟨g, 0, none⟩ a').setCell ⟨g, 1, none⟩ b').setCell ⟨g, 2, none⟩ c').cell? ⟨b, o, none⟩ = some v := by
  rw [cell_same (w := ((w.setCell ⟨g, 0, none⟩ a').setCell ⟨g, 1, none⟩ b')) (Below.heap_setCell _ ⟨g, 2, none⟩ _ b hne), cell_same (w := (w.setCell ⟨g, 0, none⟩ a')) (Below.heap_setCell _ ⟨g, 1, none⟩ _ b hne), cell_same (w := w) (Below.heap_setCell _ ⟨g, 0, none⟩ _ b hne)]
  exact h
theorem parse_cut (s : List UInt8) (hs : s.length ≤ 1000) : parseP s = match pG s.length (3 * (wordsP s).length + 3) 2 [] (wordsP s) 0 0 with
  | .ok n l sz _ => if l = [] then (some (n, sz), (s.length : Int), (0 : Int)) else (none, (hdW s.length l).2, (380 : Int))
  | .err e a => (none, a, e)
  | .out => (none, (0 : Int), (0 : Int)) := by
  unfold parseP
  rw [if_neg (by omega)]
  rfl
set_option maxRecDepth 100000 in
set_option maxHeartbeats 16000000 in
theorem refParse_any (s : List UInt8) (w : World) (r : Option (Nd × Nat)) (p e : Int) (hr : parseP s = (r, p, e)) (hl : s.length ≤ 100000) :
    Calls Tryd.prog 9 #[str s] w fun en w' => ∃ (A : Option Addr) (m c : Nat) (z d : Int), en = .returned (.tuple #[.agg #[.slice A m c, .int .i64 z, .int .i64 d], .int .i64 p, .int .i64 e]) ∧
      (∀ n sz, r = some (n, sz) → z = sz ∧ m ≤ c ∧ m ≤ 4100 ∧ ∃ ps, PsAt w' (fun _ => True) A m ps ∧ 1 ≤ m ∧ Rep ps n (m - 1)) ∧ Below w.heap.size w w' := by
  have HB := (Below.refl w.heap.size w).alloc (Nat.le_refl _) (.cells #[.slice none 0 0, .int .i64 0, .int .i64 0] 29)
  have b1 := Blk.new w 29 #[.slice none 0 0, .int .i64 0, .int .i64 0]
  obtain ⟨w0, hw0⟩ : ∃ w0, w.alloc (.cells #[.slice none 0 0, .int .i64 0, .int .i64 0] 29) = w0 := ⟨_, rfl⟩
  have hz0 : w.heap.size + 1 ≤ w0.heap.size := by rw [← hw0]; simp
  rw [hw0] at HB b1
  by_cases h1 : 1000 < s.length
  · have hI : (1000 : Int) < (s.length : Int) := by omega
    have hp : parseP s = (none, 0, 3) := by unfold parseP; rw [if_pos h1]
    rw [hp] at hr
    cases hr
    obtain ⟨d0, d1, d2, g0, g1, g2, _⟩ := blk3 b1
    clear h1 hp
    go_enter Tryd.func9, Tryd.ntmps9
    go_wp2_with fail
    refine bodyPost_ret (WanW.results_rowB rfl _ _ w.heap.size #[.slice none 0 0, .int .i64 0, .int .i64 0] _ rfl (blk3_set b1) Tryd.underlying29 rfl (by kernel_rfl)) rfl ?_
    exact ⟨_, _, _, _, _, rfl, (fun n sz h => by cases h), below3 HB (Nat.le_refl _)⟩
  · have hI : ¬ (1000 : Int) < (s.length : Int) := by omega
    have hs : s.length ≤ 1000 := by omega
    rw [parse_cut s hs] at hr
    obtain ⟨R, hR⟩ : ∃ R, pG s.length (3 * (wordsP s).length + 3) 2 [] (wordsP s) 0 0 = R := ⟨_, rfl⟩
    have hRo : R ≠ .out := by rw [← hR]; exact pG_enough _ _ _ _ _ _ _ (by omega) (by omega)
    rw [hR] at hr
    have CW := rwords_any s w0 hs
    have HRd := Lib.hid (ref_reads s hs (3 * (wordsP s).length + 3)).2.2
    have HR := Lib.hid hR
    have HRR := Lib.hid hr
    have HS := Lib.hid hs
    clear h1 hR hr
    go_enter Tryd.func9, Tryd.ntmps9
    go_wp2_with fail
    refine CW.mono ?_
    clear CW
    rintro e1 w1 ⟨Aw, nw, cw, rfl, hnw, hcw, rdw, hb1⟩
    obtain ⟨b, o, rfl, W1⟩ := Wds.of HS.out rdw
    have b11 := b1.below hb1 b1.lt
    have HB1 := HB.trans (hb1.mono HB.size)
    have hbl : b < w1.heap.size := W1.lt
    have hz1 := hb1.size
    have hlen1 : nw ≤ (wordsP s).length + 1 := by have := W1.len; omega
    have hlen2 : (wordsP s).length + 1 ≤ nw := by have := W1.len; omega
    have C := HRd.out none 0 0 [] 0 0 0 b o nw cw w1 (fun _ => False) W1 (PsAt.nil _ _) (Nat.le_refl _) (Nat.zero_le _) (Nat.zero_le _) (by omega) (by omega) (by rw [List.drop_zero, HR.out]; exact hRo) [111, 114] rfl
    rw [List.drop_zero, HR.out] at C
    have hne : b ≠ w.heap.size := by
      intro e0
      have h0 := (W1.at_ 0 (Nat.zero_le _)).1
      rw [e0, b11.cell] at h0
      rcases o with _ | _ | _ | o
      · simp at h0
      · simp at h0
      · simp at h0
      · simp at h0
    have hne2 : w.heap.size ≠ b := fun e0 => hne e0.symm
    cases R with
    | out => exact absurd rfl hRo
    | err er at_ =>
      have hr := HRR.out
      dsimp only at hr
      cases hr
      go_wp2_with fail
      refine C.mono ?_
      clear C
      rintro e9 w2 ⟨A9, m9, c9, y', z', k, rfl, hk, ha, her, hb2⟩
      have b22 := b11.below hb2 b11.lt
      have HB2 := HB1.trans (hb2.mono HB1.size)
      have hz2 := hb2.size
      have W2 := W1.below hb2
      have b23 := b22.alloc (.cells #[.slice A9 m9 c9, .int .i64 y', .int .i64 z'] 29)
      have HB3 := HB2.alloc (by omega) (.cells #[.slice A9 m9 c9, .int .i64 y', .int .i64 z'] 29)
      have W3 := W2.below (w' := w2.alloc (.cells #[.slice A9 m9 c9, .int .i64 y', .int .i64 z'] 29)) ((Below.refl _ _).alloc (Nat.le_refl _) _)
      have hz3 : w2.heap.size ≤ (w2.alloc (.cells #[.slice A9 m9 c9, .int .i64 y', .int .i64 z'] 29)).heap.size := by simp
      obtain ⟨w3, hw3⟩ : ∃ w3, w2.alloc (.cells #[.slice A9 m9 c9, .int .i64 y', .int .i64 z'] 29) = w3 := ⟨_, rfl⟩
      rw [hw3] at b23 HB3 W3 hz3
      obtain ⟨y0, y1⟩ := W3.at_ k hk
      rw [ha] at y1
      have heb : (e == 0) = false := by rcases her with rfl | rfl <;> decide
      have heb2 : (e != 0) = true := by rcases her with rfl | rfl <;> decide
      have heb3 : e ≠ 0 := by rcases her with rfl | rfl <;> decide
      have hkI : (k : Int) < (nw : Int) := by omega
      have hk0 : (0 : Int) ≤ (k : Int) := by omega
      clear hb2 b22 W2 b11 HB2
      go_wp2_with fail
      refine wp_region_held_drew (S := (fun w' => w'.cell? ⟨b, o + k * 2 + 1, none⟩ = some (.int .i64 p))) (by kernel_rfl) ?_ (fun hHeld => ?_)
      · (try dsimp only); exact y1
      refine take_op (v := ?vu1x0) 0 (Op.build 29 #[]) 29 rfl rfl rfl rfl rfl (by kernel_rfl) (by kernel_rfl) (by kernel_rfl) (fun _ _ _ h => h) ?yu1x0 (by assumption) ?ru1x0
      case yu1x0 => (intro w' hSw; (try dsimp only at hSw); go_simp; try (with_reducible rfl))
      simp only [List.setIfInBounds_toArray, List.set_cons_zero, List.set_cons_succ]
      refine take_movev (v := ?vu1x1) 1 (Operand.tmp 5) rfl rfl (by first | exact .inl rfl | exact .inr rfl) rfl (by kernel_rfl) (by kernel_rfl) (by kernel_rfl) (fun _ _ _ h => h) (by assumption) ?yu1x1 ?ru1x1
      case yu1x1 => (go_simp; try (with_reducible rfl))
      simp only [List.setIfInBounds_toArray, List.set_cons_zero, List.set_cons_succ]
      refine take_movev (v := ?vu1x2) 2 (Operand.tmp 7) rfl rfl (by first | exact .inl rfl | exact .inr rfl) rfl (by kernel_rfl) (by kernel_rfl) (by kernel_rfl) (fun _ _ _ h => h) (by assumption) ?yu1x2 ?ru1x2
      case yu1x2 => (go_simp; try (with_reducible rfl))
      simp only [List.setIfInBounds_toArray, List.set_cons_zero, List.set_cons_succ]
      refine take_op (v := ?vu1x3) 3 (Op.indexAddr 65 (Operand.tmp 34) (Operand.tmp 35)) 0 rfl rfl rfl rfl rfl (by kernel_rfl) (by kernel_rfl) (by kernel_rfl) (fun _ _ _ h => h) ?yu1x3 (by assumption) ?ru1x3
      case yu1x3 => (intro w' hSw; (try dsimp only at hSw); go_simp; try (with_reducible rfl))
      simp only [List.setIfInBounds_toArray, List.set_cons_zero, List.set_cons_succ]
      refine take_op (v := ?vu1x4) 4 (Op.fieldAddr 69 (Operand.tmp 36) 1) 0 rfl rfl rfl rfl rfl (by kernel_rfl) (by kernel_rfl) (by kernel_rfl) (fun _ _ _ h => h) ?yu1x4 (by assumption) ?ru1x4
      case yu1x4 => (intro w' hSw; (try dsimp only at hSw); go_simp; try (with_reducible rfl))
      simp only [List.setIfInBounds_toArray, List.set_cons_zero, List.set_cons_succ]
      refine take_op (v := ?vu1x5) 5 (Op.load 3 (Operand.tmp 37)) 3 rfl rfl rfl rfl rfl (by kernel_rfl) (by kernel_rfl) (by kernel_rfl) (fun _ _ _ h => h) ?yu1x5 (by assumption) ?ru1x5
      case yu1x5 => (intro w' hSw; (try dsimp only at hSw); go_simp; try (with_reducible rfl))
      simp only [List.setIfInBounds_toArray, List.set_cons_zero, List.set_cons_succ]
      refine take_movev (v := ?vu1x6) 6 (Operand.tmp 8) rfl rfl (by first | exact .inl rfl | exact .inr rfl) rfl (by kernel_rfl) (by kernel_rfl) (by kernel_rfl) (fun _ _ _ h => h) (by assumption) ?yu1x6 ?ru1x6
      case yu1x6 => (go_simp; try (with_reducible rfl))
      simp only [List.setIfInBounds_toArray, List.set_cons_zero, List.set_cons_succ]
      refine wpAnyH_ready (rs := [7]) (by kernel_rfl) (by simp) (AllReadyH.cons rfl (fun K7 hK7 => ?ku1x7) AllReadyH.nil)
      refine take_store 7 (Op.store 29 (Operand.tmp 2) (Operand.tmp 33)) 0 rfl rfl rfl (by kernel_rfl) (w' := ((w3.drew.setCell ⟨w.heap.size, 0, none⟩ (.slice none 0 0)).setCell ⟨w.heap.size, 1, none⟩ (.int .i64 0)).setCell ⟨w.heap.size, 2, none⟩ (.int .i64 0)) (by obtain ⟨d0, d1, d2, g0, g1, g2, _⟩ := blk3 b23; go_simp; try (with_reducible rfl)) ?_
      refine hK7.out _ _ (cell_far3 hne y1) (fun hHeld => ?_)
      refine take_op (v := ?vu1x8) 8 (Op.assign (Operand.tmp 38)) 3 rfl rfl rfl rfl rfl (by kernel_rfl) (by kernel_rfl) (by kernel_rfl) (fun _ _ _ h => h) ?yu1x8 (by assumption) ?ru1x8
      case yu1x8 => (intro w' hSw; (try dsimp only at hSw); go_simp; try (with_reducible rfl))
      simp only [List.setIfInBounds_toArray, List.set_cons_zero, List.set_cons_succ]
      refine take_op (v := ?vu1x9) 9 (Op.assign (Operand.tmp 39)) 3 rfl rfl rfl rfl rfl (by kernel_rfl) (by kernel_rfl) (by kernel_rfl) (fun _ _ _ h => h) ?yu1x9 (by assumption) ?ru1x9
      case yu1x9 => (intro w' hSw; (try dsimp only at hSw); go_simp; try (with_reducible rfl))
      simp only [List.setIfInBounds_toArray, List.set_cons_zero, List.set_cons_succ]
      refine wpAnyH_done (by kernel_rfl) ?_ _
      go_wp2_with fail
      refine bodyPost_ret (WanW.results_rowB rfl _ _ w.heap.size #[.slice none 0 0, .int .i64 0, .int .i64 0] _ rfl (blk3_set (w := w3.drew) b23) Tryd.underlying29 rfl (by kernel_rfl)) rfl ?_
      exact ⟨_, _, _, _, _, rfl, (fun n sz h => by cases h), below3 HB3.drew (Nat.le_refl _)⟩
    | ok n l sz d =>
      have hr := HRR.out
      dsimp only at hr
      go_wp2_with fail
      refine C.mono ?_
      clear C
      rintro e9 w2 ⟨A2, m2, c2', ext, k, rfl, rfl, hik, hkl, hmc, hps, hx1, hxk, hrep, hb2⟩
      have hml := hps.len
      rw [List.nil_append] at hml hps hrep
      have b22 := b11.below hb2 b11.lt
      have HB2 := HB1.trans (hb2.mono HB1.size)
      have hz2 := hb2.size
      have W2 := W1.below hb2
      have b23 := b22.alloc (.cells #[.slice A2 m2 c2', .int .i64 sz, .int .i64 d] 29)
      have b33 := Blk.new w2 29 #[.slice A2 m2 c2', .int .i64 sz, .int .i64 d]
      have HB3 := HB2.alloc (by omega) (.cells #[.slice A2 m2 c2', .int .i64 sz, .int .i64 d] 29)
      have W3 := W2.below (w' := w2.alloc (.cells #[.slice A2 m2 c2', .int .i64 sz, .int .i64 d] 29)) ((Below.refl _ _).alloc (Nat.le_refl _) _)
      have hp3 := hps.below (w' := w2.alloc (.cells #[.slice A2 m2 c2', .int .i64 sz, .int .i64 d] 29)) ((Below.refl _ _).alloc (Nat.le_refl _) _)
      have hz3 : w2.heap.size ≤ (w2.alloc (.cells #[.slice A2 m2 c2', .int .i64 sz, .int .i64 d] 29)).heap.size := by simp
      obtain ⟨w3, hw3⟩ : ∃ w3, w2.alloc (.cells #[.slice A2 m2 c2', .int .i64 sz, .int .i64 d] 29) = w3 := ⟨_, rfl⟩
      rw [hw3] at b23 b33 HB3 W3 hz3 hp3
      obtain ⟨y0, y1⟩ := W3.at_ k hkl
      obtain ⟨v0, v1, v2, _⟩ := blk3 b33
      have hkI : (k : Int) < (nw : Int) := by omega
      have hk0 : (0 : Int) ≤ (k : Int) := by omega
      have hwn : IntKind.i64.wrap ((nw : Int) - 1) = (nw : Int) - 1 := w64k (by omega) (by have := W1.few; omega)
      clear hb2 b22 W2 b11 HB2
      by_cases hend : k < (wordsP s).length
      · have hne3 : ¬ (wordsP s).drop k = [] := by intro e0; have := congrArg List.length e0; simp at this; omega
        rw [if_neg hne3] at hr
        obtain ⟨rfl, h2⟩ := Prod.mk.inj hr
        obtain ⟨h3, rfl⟩ := Prod.mk.inj h2
        rw [h3] at y1
        have hkn : (k : Int) < (nw : Int) - 1 := by omega
        clear hr h2 h3 hne3
        go_wp2_with fail
        refine wp_region_held_drew (S := (fun w' => w'.cell? ⟨b, o + k * 2 + 1, none⟩ = some (.int .i64 p))) (by kernel_rfl) ?_ (fun hHeld => ?_)
        · (try dsimp only); exact y1
        refine take_op (v := ?vu2x0) 0 (Op.build 29 #[]) 29 rfl rfl rfl rfl rfl (by kernel_rfl) (by kernel_rfl) (by kernel_rfl) (fun _ _ _ h => h) ?yu2x0 (by assumption) ?ru2x0
        case yu2x0 => (intro w' hSw; (try dsimp only at hSw); go_simp; try (with_reducible rfl))
        simp only [List.setIfInBounds_toArray, List.set_cons_zero, List.set_cons_succ]
        refine take_movev (v := ?vu2x1) 1 (Operand.tmp 5) rfl rfl (by first | exact .inl rfl | exact .inr rfl) rfl (by kernel_rfl) (by kernel_rfl) (by kernel_rfl) (fun _ _ _ h => h) (by assumption) ?yu2x1 ?ru2x1
        case yu2x1 => (go_simp; try (with_reducible rfl))
        simp only [List.setIfInBounds_toArray, List.set_cons_zero, List.set_cons_succ]
        refine take_movev (v := ?vu2x2) 2 (Operand.tmp 7) rfl rfl (by first | exact .inl rfl | exact .inr rfl) rfl (by kernel_rfl) (by kernel_rfl) (by kernel_rfl) (fun _ _ _ h => h) (by assumption) ?yu2x2 ?ru2x2
        case yu2x2 => (go_simp; try (with_reducible rfl))
        simp only [List.setIfInBounds_toArray, List.set_cons_zero, List.set_cons_succ]
        refine take_op (v := ?vu2x3) 3 (Op.indexAddr 65 (Operand.tmp 34) (Operand.tmp 35)) 0 rfl rfl rfl rfl rfl (by kernel_rfl) (by kernel_rfl) (by kernel_rfl) (fun _ _ _ h => h) ?yu2x3 (by assumption) ?ru2x3
        case yu2x3 => (intro w' hSw; (try dsimp only at hSw); go_simp; try (with_reducible rfl))
        simp only [List.setIfInBounds_toArray, List.set_cons_zero, List.set_cons_succ]
        refine take_op (v := ?vu2x4) 4 (Op.fieldAddr 69 (Operand.tmp 36) 1) 0 rfl rfl rfl rfl rfl (by kernel_rfl) (by kernel_rfl) (by kernel_rfl) (fun _ _ _ h => h) ?yu2x4 (by assumption) ?ru2x4
        case yu2x4 => (intro w' hSw; (try dsimp only at hSw); go_simp; try (with_reducible rfl))
        simp only [List.setIfInBounds_toArray, List.set_cons_zero, List.set_cons_succ]
        refine take_op (v := ?vu2x5) 5 (Op.load 3 (Operand.tmp 37)) 3 rfl rfl rfl rfl rfl (by kernel_rfl) (by kernel_rfl) (by kernel_rfl) (fun _ _ _ h => h) ?yu2x5 (by assumption) ?ru2x5
        case yu2x5 => (intro w' hSw; (try dsimp only at hSw); go_simp; try (with_reducible rfl))
        simp only [List.setIfInBounds_toArray, List.set_cons_zero, List.set_cons_succ]
        refine take_movev (v := ?vu2x6) 6 (Operand.tmp 8) rfl rfl (by first | exact .inl rfl | exact .inr rfl) rfl (by kernel_rfl) (by kernel_rfl) (by kernel_rfl) (fun _ _ _ h => h) (by assumption) ?yu2x6 ?ru2x6
        case yu2x6 => (go_simp; try (with_reducible rfl))
        simp only [List.setIfInBounds_toArray, List.set_cons_zero, List.set_cons_succ]
        refine wpAnyH_ready (rs := [7]) (by kernel_rfl) (by simp) (AllReadyH.cons rfl (fun K7 hK7 => ?ku2x7) AllReadyH.nil)
        refine take_store 7 (Op.store 29 (Operand.tmp 2) (Operand.tmp 33)) 0 rfl rfl rfl (by kernel_rfl) (w' := ((w3.drew.setCell ⟨w.heap.size, 0, none⟩ (.slice none 0 0)).setCell ⟨w.heap.size, 1, none⟩ (.int .i64 0)).setCell ⟨w.heap.size, 2, none⟩ (.int .i64 0)) (by obtain ⟨d0, d1, d2, g0, g1, g2, _⟩ := blk3 b23; go_simp; try (with_reducible rfl)) ?_
        refine hK7.out _ _ (cell_far3 hne y1) (fun hHeld => ?_)
        refine take_op (v := ?vu2x8) 8 (Op.assign (Operand.tmp 38)) 3 rfl rfl rfl rfl rfl (by kernel_rfl) (by kernel_rfl) (by kernel_rfl) (fun _ _ _ h => h) ?yu2x8 (by assumption) ?ru2x8
        case yu2x8 => (intro w' hSw; (try dsimp only at hSw); go_simp; try (with_reducible rfl))
        simp only [List.setIfInBounds_toArray, List.set_cons_zero, List.set_cons_succ]
        refine take_op (v := ?vu2x9) 9 (Op.assign (Operand.tmp 39)) 3 rfl rfl rfl rfl rfl (by kernel_rfl) (by kernel_rfl) (by kernel_rfl) (fun _ _ _ h => h) ?yu2x9 (by assumption) ?ru2x9
        case yu2x9 => (intro w' hSw; (try dsimp only at hSw); go_simp; try (with_reducible rfl))
        simp only [List.setIfInBounds_toArray, List.set_cons_zero, List.set_cons_succ]
        refine wpAnyH_done (by kernel_rfl) ?_ _
        go_wp2_with fail
        refine bodyPost_ret (WanW.results_rowB rfl _ _ w.heap.size #[.slice none 0 0, .int .i64 0, .int .i64 0] _ rfl (blk3_set (w := w3.drew) b23) Tryd.underlying29 rfl (by kernel_rfl)) rfl ?_
        exact ⟨_, _, _, _, _, rfl, (fun n sz h => by cases h), below3 HB3.drew (Nat.le_refl _)⟩
      · have hne3 : (wordsP s).drop k = [] := List.drop_eq_nil_of_le (by omega)
        rw [if_pos hne3] at hr
        obtain ⟨rfl, h2⟩ := Prod.mk.inj hr
        obtain ⟨rfl, rfl⟩ := Prod.mk.inj h2
        have hkn : ¬ (k : Int) < (nw : Int) - 1 := by omega
        obtain ⟨d0, d1, d2, g0, g1, g2, _⟩ := blk3 b23
        have HREP := Lib.hid hrep
        clear hr h2 hne3 hrep
        go_wp2_with fail
        refine bodyPost_ret (WanW.results_rowB rfl _ _ w.heap.size #[.slice A2 m2 c2', .int .i64 sz, .int .i64 d] _ rfl (blk3_set b23) Tryd.underlying29 rfl (by kernel_rfl)) rfl ?_
        refine ⟨A2, m2, c2', sz, d, rfl, ?_, below3 HB3 (Nat.le_refl _)⟩
        intro n' sz' h
        cases h
        refine ⟨rfl, hmc, by have := words_len s; have := HS.out; omega, ext, ?_, by omega, ?_⟩
        · refine (hp3.set3 (g := w.heap.size) (fun b' hb => hb.1.elim (fun h => h.elim) (fun h => by omega))).wide (fun _ _ _ => trivial)
        · have := HREP.out
          rw [show m2 - 1 = ([] : List RP).length + ext.length - 1 by simp; omega]
          exact this
end SieW
end Go.Proofs.YtdeiehgghhiijaaDoor
