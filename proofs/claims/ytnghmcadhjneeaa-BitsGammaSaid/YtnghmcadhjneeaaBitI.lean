/- The law of package bits on writers: its walk. -/
import Derived.Test.YtnghmcadhjneeaaBitF
import Derived.Test.YtnghmcadhjneeaaBitH
import Derived.Test.YtnghmcadhjneeaaBitU
namespace Go.Proofs.Ytnghmcadhjneeaa
set_option linter.unusedVariables false
set_option linter.unusedSimpArgs false
set_option linter.unnecessarySimpa false
open Go.RowKit Go.ChangeShapes Go.WideShapes Go.Deep
namespace BitW

theorem Own.wfr {w w' : World} {base e size n c g : Nat} {ab : Option Nat} {A : Option Addr} {xs : List Value} (h : Own w base e size A n c xs) (hw : Wfr w w' g ab)
    (hd : ∀ k, blkOf A = some k → k ≠ g ∧ ab ≠ some k) : Own w' base e size A n c xs := by
  refine ⟨h.1, ?_⟩
  rcases h.2 with h2 | ⟨q, cap, cur, hv, hb, hg, r⟩
  · exact .inl h2
  · have hbk : blkOf A = some q := by
      have := congrArg (fun v => match v with | Value.slice A _ _ => blkOf A | _ => none) hv
      simpa [blkOf] using this
    obtain ⟨h3, h4⟩ := hd q hbk
    exact .inr ⟨q, cap, cur, hv, hb, (hw.block q (h.blk q hbk).2 h3 h4).trans hg, r⟩
theorem Wr.drew {w : World} {base g : Nat} {ab : Option Nat} {l : List Nat} (h : Wr w base g ab l) : Wr w.drew base g ab l := h.below ((Below.refl _ w).drew)
theorem Wr.grown {w w' : World} {base g : Nat} {ab row : Option Nat} {l : List Nat} (h : Wr w base g ab l) (hg : w.grownBy w' row) (h1 : some g ≠ row) (h2 : ∀ k, ab = some k → row ≠ some k) : Wr w' base g ab l := by
  obtain ⟨⟨A, nb, c, bs, r, k', bG, o, hab, hk, hr, e⟩, hgb⟩ := h
  refine ⟨⟨A, nb, c, bs, r, k', bG.grown hg h1, o.grown hg ?_, hab, hk, hr, e⟩, hgb⟩
  rw [hab]
  cases ab with
  | none => exact .inl rfl
  | some q => exact .inr (fun e => h2 q rfl e.symm)
theorem Put_in (w0 X : World) (ab : Option Nat) (L : List Nat) (n width : Int) (hX : Below w0.heap.size w0 X) (hz : w0.heap.size + 1 ≤ X.heap.size) (h : Wr X (w0.heap.size + 1) w0.heap.size ab L) (hf : fitsB n width = true) (hn : I64 n) (hl : L.length ≤ 900000) :
    Calls Try.prog 25 #[.pointer (some ⟨w0.heap.size, 0, none⟩), .int .i64 n, .int .i64 width] X fun e w' => e = .returned (.int .i64 0) ∧ ∃ ab', Puts X w' (w0.heap.size + 1) w0.heap.size ab (L ++ dg width.toNat n.toNat) ab' ∧ Below w0.heap.size w0 w' := by
  refine (Put_yes (w0.heap.size + 1) w0.heap.size ab L n width X hf hn h (by omega) hz).mono ?_
  rintro e w' ⟨rfl, ab', hP⟩
  exact ⟨rfl, ab', hP, hX.trans (hP.frame.below hX.size (Nat.le_refl _) (fun k hk => by have := (h.blk.2 k hk).1; omega))⟩
theorem Put_out (w0 X : World) (n width : Int) (hX : Below w0.heap.size w0 X) (hf : fitsB n width = false) (hn : I64 n) :
    Calls Try.prog 25 #[.pointer (some ⟨w0.heap.size, 0, none⟩), .int .i64 n, .int .i64 width] X fun e w' => e = .returned (.int .i64 2) ∧ X = w' ∧ Below w0.heap.size w0 w' := by
  refine (Put_no 0 w0.heap.size n width X hf hn).mono ?_
  rintro e w' ⟨rfl, rfl⟩
  exact ⟨rfl, rfl, hX⟩
theorem Gamma_in (w0 X : World) (ab : Option Nat) (L : List Nat) (n : Int) (hX : Below w0.heap.size w0 X) (hz : w0.heap.size + 1 ≤ X.heap.size) (h : Wr X (w0.heap.size + 1) w0.heap.size ab L) (hf : gamB n = true) (hn : I64 n) (hl : L.length ≤ 900000) :
    Calls Try.prog 23 #[.pointer (some ⟨w0.heap.size, 0, none⟩), .int .i64 n] X fun e w' => e = .returned (.int .i64 0) ∧ ∃ ab', Puts X w' (w0.heap.size + 1) w0.heap.size ab (L ++ gam n.toNat) ab' ∧ Below w0.heap.size w0 w' := by
  refine (Gamma_yes (w0.heap.size + 1) w0.heap.size ab L n X hf hn h (by omega) hz).mono ?_
  rintro e w' ⟨rfl, ab', hP⟩
  exact ⟨rfl, ab', hP, hX.trans (hP.frame.below hX.size (Nat.le_refl _) (fun k hk => by have := (h.blk.2 k hk).1; omega))⟩
theorem Gamma_out (w0 X : World) (n : Int) (hX : Below w0.heap.size w0 X) (hf : gamB n = false) (hn : I64 n) :
    Calls Try.prog 23 #[.pointer (some ⟨w0.heap.size, 0, none⟩), .int .i64 n] X fun e w' => e = .returned (.int .i64 2) ∧ X = w' ∧ Below w0.heap.size w0 w' := by
  refine (Gamma_no w0.heap.size n X hf hn).mono ?_
  rintro e w' ⟨rfl, rfl⟩
  exact ⟨rfl, rfl, hX⟩
/-- The writer and the list that should be in it. -/
structure WW (v : World) (B g : Nat) (ab : Option Nat) (A : Option Addr) (n c : Nat) (L : List Nat) : Prop where
  wr : Wr v B g ab L
  own : Own v B 3 1 A n c (bc L)
  apart : ∀ k, ab = some k → blkOf A ≠ some k
  two : ∀ d ∈ L, d < 2
theorem WW.len {v : World} {B g : Nat} {ab : Option Nat} {A : Option Addr} {n c : Nat} {L : List Nat} (h : WW v B g ab A n c L) : L.length = n := rd_bclen h.own.rd
theorem WW.below {v v' : World} {B g : Nat} {ab : Option Nat} {A : Option Addr} {n c : Nat} {L : List Nat} (h : WW v B g ab A n c L) (hb : Below v.heap.size v v') : WW v' B g ab A n c L :=
  ⟨h.wr.below hb, h.own.below hb, h.apart, h.two⟩
/-- After a put the list still stands as it was, beside the writer's new row. -/
theorem WW.put {v v' : World} {B g : Nat} {ab ab' : Option Nat} {A : Option Addr} {n c : Nat} {L L' : List Nat} (h : WW v B g ab A n c L) (hP : Puts v v' B g ab L' ab') :
    Own v' B 3 1 A n c (bc L) ∧ ∀ k, ab' = some k → blkOf A ≠ some k := by
  refine ⟨Own.wfr h.own hP.frame (fun k hk => ⟨by have := (h.own.blk k hk).1; have := h.wr.base_lt; omega, fun e => h.apart k e hk⟩), ?_⟩
  intro k hk e
  have hlt := (h.own.blk k e).2
  rcases hP.fresh with h1 | ⟨j, h1, h2⟩
  · subst h1; exact h.apart k hk e
  · rw [h1] at hk; cases hk; omega
theorem WW.app {v v' : World} {B g : Nat} {ab : Option Nat} {A A4 : Option Addr} {n c n4 c4 : Nat} {L L' : List Nat} (hw : Wr v B g ab L') (ho : Own v B 3 1 A n c (bc L)) (hap : ∀ k, ab = some k → blkOf A ≠ some k)
    (hg : v.grownBy v' (blkOf A)) (ho4 : Own v' B 3 1 A4 n4 c4 (bc L')) (hat : blkOf A4 = blkOf A ∨ blkOf A4 = some v.heap.size) (h2 : ∀ d ∈ L', d < 2) : WW v' B g ab A4 n4 c4 L' := by
  refine ⟨hw.grown hg (fun e => ?_) hap, ho4, ?_, h2⟩
  · have := (ho.blk g e.symm).1; have := hw.base_lt; omega
  · intro k hk e
    rcases hat with h | h
    · exact hap k hk (h ▸ e)
    · have := (hw.blk.2 k hk).2
      rw [h] at e; cases e; omega
theorem two_app {L a : List Nat} (h1 : ∀ d ∈ L, d < 2) (h2 : ∀ d ∈ a, d < 2) : ∀ d ∈ L ++ a, d < 2 := by
  intro d hd
  rcases List.mem_append.1 hd with h | h
  · exact h1 d h
  · exact h2 d h
theorem two_dg (w n : Nat) : ∀ d ∈ dg w n, d < 2 := dg_lt w n
theorem two_gam (n : Nat) : ∀ d ∈ gam n, d < 2 := two_app (dg_lt _ _) (dg_lt _ _)

set_option maxRecDepth 100000 in
set_option maxHeartbeats 4000000 in
theorem writes_law (A : Option Addr) (n c : Nat) (l : List (Int × Int)) (w : World)
    (h : Rd w w.heap.size 2 A n (fcells l)) (h64 : ∀ x ∈ l, I64 x.1 ∧ I64 x.2) (hn : n ≤ maxLen) :
    Calls Try.prog 5 #[.slice A n c] w fun e w' => e = .returned (.bool true) ∧ Below w.heap.size w w' := by
  unfold maxLen at hn
  by_cases h1 : (200 : Int) < n
  · clear h h64
    go_enter Try.func5, Try.ntmps5
    go_wp2_with fail
    refine (awake_any _).mono ?_
    rintro e w7 ⟨rfl, hb7⟩
    go_wp2_with fail
    go_ret
    exact ⟨rfl, hb7⟩
  have hl := rd_flen h
  have hl1 : l.length ≤ n := by omega
  have hl2 : n ≤ l.length := by omega
  have hn3 : n ≤ 200 := by omega
  have H64 := Lib.hid h64
  clear hl h64
  go_enter Try.func5, Try.ntmps5
  go_wp2_with fail
  have hWW : WW (w.alloc (.cells #[.slice none 0 0, .int .u64 0, .int .i64 0] 47)) (w.heap.size + 1) w.heap.size none none 0 0 [] := ⟨Wr.fresh w, Own.nil _ _ _ _, (by intro k hk; cases hk), (by simp)⟩
  have HB0 : Below w.heap.size w (w.alloc (.cells #[.slice none 0 0, .int .u64 0, .int .i64 0] 47)) := (by first | exact Below.refl _ _ | (repeat (first | exact Below.refl _ _ | assumption | refine Below.drew ?_ | refine Below.drewN_ ?_ _ | refine Below.alloc ?_ (by first | exact Nat.le_refl _ | (simp; done) | (simp; omega) | omega) _ | refine Below.setCell ?_ (by first | exact Nat.le_refl _ | (simp; done) | (simp; omega) | omega) _ | (refine Below.trans ?_ (Below.mono (by assumption) (by first | exact Nat.le_refl _ | (simp; done) | (simp; omega) | omega))))))
  have hz1 : w.heap.size + 1 ≤ (w.alloc (.cells #[.slice none 0 0, .int .u64 0, .int .i64 0] 47)).heap.size := by simp
  go_loopw [4, 5] (fun out i wr => ∃ (k n2 c2 : Nat) (ab : Option Nat) (A2 : Option Addr) (L : List Nat), i = .int .i64 k ∧ out = .slice A2 n2 c2 ∧ k ≤ n ∧ n2 ≤ 64 * k ∧ WW wr (w.heap.size + 1) w.heap.size ab A2 n2 c2 L ∧ w.heap.size + 1 ≤ wr.heap.size ∧ Below w.heap.size w wr) (fun _ i _ => n - (intOf i).toNat)
  case atStart => exact ⟨0, 0, 0, none, none, [], rfl, rfl, by omega, by omega, hWW, hz1, HB0⟩
  case round =>
    obtain ⟨k, n2, c2, ab, A2, L, rfl, rfl, hk, hn2, hW, hz, hbw⟩ := hrel
    clear hWW HB0 hz1
    have hsz := hbw.size
    have hL := hW.len
    by_cases hlt : k < n
    · have hkl : k < l.length := by omega
      obtain ⟨b, o, rfl, hb, hc⟩ := rd_fcells h (by omega)
      obtain ⟨e0, e1⟩ := hc k hkl
      have h6 := H64.out l[k] (List.getElem_mem hkl)
      generalize hr : l[k] = r at *
      obtain ⟨x0, x1⟩ := r
      dsimp only at e0 e1 h6
      obtain ⟨h6, _⟩ := h6
      have KEEP := Lib.hid (fun (w' : World) (hh : Below w.heap.size w w') => show w'.cell? ⟨b, o + k * 2, none⟩ = some (.int .i64 x0) ∧ w'.cell? ⟨b, o + k * 2 + 1, none⟩ = some (.int .i64 x1) from ⟨(hh.cell (p := ⟨b, o + k * 2, none⟩) hb).trans e0, (hh.cell (p := ⟨b, o + k * 2 + 1, none⟩) hb).trans e1⟩)
      have hki : (k : Int) < (n : Int) := by omega
      have hk0 : (0 : Int) ≤ (k : Int) := by omega
      obtain ⟨d0, d1⟩ := KEEP.out wr hbw
      clear hc hr e0 e1
      by_cases hneg : x1 < 0
      · skip
        have C := fun v => refGamma_any x0 v h6
        go_wp2_with fail
        refine (C _).mono ?_
        clear C
        rintro e w3 ⟨A3, k3, c3, xs, rfl, hk3, hc3, o3, hxs, hb3⟩
        have HB := hbw.trans (hb3.mono hsz)
        have W3 := hW.below hb3
        have z3 := hb3.size
        obtain ⟨d0, d1⟩ := KEEP.out w3 HB
        by_cases hf : gamB x0 = true
        · have HF := Lib.hid hf
          have hx3 := hxs hf
          subst hx3
          rw [hf]
          clear hxs
          have C2 := Gamma_in w w3 ab L x0 HB (by omega) W3.wr hf h6 (by omega)
          clear hf
          go_wp2_with fail
          refine C2.mono ?_
          clear C2
          rintro e w4 ⟨rfl, ab4, hP, HB4⟩
          have hz4 := hP.frame.size
          obtain ⟨oW, apW⟩ := W3.put hP
          have oD := Own.wfr o3 hP.frame (fun q hq => ⟨by have := (o3.blk q hq).1; omega, fun e => by have := (o3.blk q hq).1; have := (hW.wr.blk.2 q e).2; omega⟩)
          have wr4 := hP.wr
          have tw := two_app hW.two (two_gam x0.toNat)
          try simp only [World.size_drew] at hz4
          clear hP W3 o3
          have hlen3 := rd_bclen oD.rd
          go_wp2_with (at_builtin; with_reducible refine wp_append El_int2 rfl (s := .tmp 83) (x := .tmp 84) rfl rfl oW rfl oD.rd (bc_one _) (by unfold maxLen; omega) (by omega) (by omega) ?_; intro A5 c5 w5 o5 hg5 hat5)
          rw [← bc_app] at o5
          have W5 := WW.app wr4 oW apW hg5 o5 hat5 tw
          have HB5 := below_grown HB4 hg5 oW (Nat.le_succ _)
          have z5 := hg5.size
          clear o5 hg5 hat5 tw wr4 oW apW oD
          have hLF := W5.len
          have hzF := HB5.size
          go_wp2_with fail
          refine (Len_eq W5.wr (n2 + k3) hLF (by omega)).mono ?_
          rintro e w6 ⟨rfl, nq, hw6⟩
          have W6 := W5.below ((Below.refl _ _).drewN_ nq)
          have H6 := HB5.drewN_ nq
          have Z6 := ((Below.refl 0 w5).drewN_ nq).size
          rw [← hw6] at W6 H6 Z6
          clear hw6
          clear hLF
          go_wp2_with fail
          refine (text_any _ _ _ _ _ W6.wr (by have := W6.len; omega)).mono ?_
          rintro e w7 ⟨rfl, hb7⟩
          have W7 := W6.below hb7
          have H7 := H6.trans (hb7.mono H6.size)
          have Z7 := hb7.size
          go_wp2_with fail
          refine (refText_any _ _ _ _ _ W7.own.rd (by omega) W7.two).mono ?_
          rintro e w8 ⟨rfl, hb8⟩
          have W8 := W7.below hb8
          have H8 := H7.trans (hb8.mono H7.size)
          have Z8 := hb8.size
          clear W6 W7 hb7 hb8
          go_wp2_with fail
          go_roundw
          case rel => exact ⟨k + 1, _, _, _, _, _, by go_num, rfl, by omega, by omega, W8, by first | omega | (simp only [World.drewN, World.heap] at *; omega), H8⟩
          case measure => simp [intOf]; omega
        · have hf' : gamB x0 = false := by simpa using hf
          rw [hf']
          clear hf hxs o3
          have C2 := Gamma_out w w3 x0 HB hf' h6
          clear hf'
          go_wp2_with fail
          refine C2.mono ?_
          clear C2
          rintro e w4 ⟨rfl, hww, HB4⟩
          have W4 := W3
          rw [hww] at W4
          have z4 : w3.heap.size ≤ w4.heap.size := by rw [← hww]; exact Nat.le_refl _
          have hLF := W4.len
          have hzF := HB4.size
          go_wp2_with fail
          refine (Len_eq W4.wr n2 hLF (by omega)).mono ?_
          rintro e w6 ⟨rfl, nq, hw6⟩
          have W6 := W4.below ((Below.refl _ _).drewN_ nq)
          have H6 := HB4.drewN_ nq
          have Z6 := ((Below.refl 0 w4).drewN_ nq).size
          rw [← hw6] at W6 H6 Z6
          clear hw6
          clear hLF
          go_wp2_with fail
          refine (text_any _ _ _ _ _ W6.wr (by have := W6.len; omega)).mono ?_
          rintro e w7 ⟨rfl, hb7⟩
          have W7 := W6.below hb7
          have H7 := H6.trans (hb7.mono H6.size)
          have Z7 := hb7.size
          go_wp2_with fail
          refine (refText_any _ _ _ _ _ W7.own.rd (by omega) W7.two).mono ?_
          rintro e w8 ⟨rfl, hb8⟩
          have W8 := W7.below hb8
          have H8 := H7.trans (hb8.mono H7.size)
          have Z8 := hb8.size
          clear W6 W7 hb7 hb8
          go_wp2_with fail
          go_roundw
          case rel => exact ⟨k + 1, _, _, _, _, _, by go_num, rfl, by omega, by omega, W8, by first | omega | (simp only [World.drewN, World.heap] at *; omega), H8⟩
          case measure => simp [intOf]; omega
      · skip
        have C := fun v => digits_any x0 x1 v h6
        have HR : Below wr.heap.size wr wr := Below.refl _ _
        have HB := hbw
        go_wp2_with fail
        refine wp_region_held_drew (S := (fun w' => w'.cell? ⟨b, o + k * 2, none⟩ = some (.int .i64 x0) ∧ w'.cell? ⟨b, o + k * 2 + 1, none⟩ = some (.int .i64 x1))) (by kernel_rfl) ?_ (fun hHeld => ?_)
        · replace HR := Below.drew HR; replace HB := Below.drew HB; (try dsimp only); exact KEEP.out _ HB
        replace HR := Below.drew HR
        replace HB := Below.drew HB
        have zHR := HR.size
        have zHB := HB.size
        refine take_move 0 (Operand.tmp 0) rfl rfl (by first | exact .inl rfl | exact .inr rfl) rfl (by kernel_rfl) (by kernel_rfl) (by kernel_rfl) (fun _ _ _ h => h) (by assumption) ?_
        simp only [List.setIfInBounds_toArray, List.set_cons_zero, List.set_cons_succ]
        refine take_move 1 (Operand.tmp 5) rfl rfl (by first | exact .inl rfl | exact .inr rfl) rfl (by kernel_rfl) (by kernel_rfl) (by kernel_rfl) (fun _ _ _ h => h) (by assumption) ?_
        simp only [List.setIfInBounds_toArray, List.set_cons_zero, List.set_cons_succ]
        refine take_op (v := ?vu1x2) 2 (Op.indexAddr 32 (Operand.tmp 45) (Operand.tmp 46)) 0 rfl rfl rfl rfl rfl (by kernel_rfl) (by kernel_rfl) (by kernel_rfl) (fun _ _ _ h => h) ?yu1x2 (by assumption) ?ru1x2
        case yu1x2 => (intro w' hSw; (try dsimp only at hSw); go_simp; try (with_reducible rfl))
        simp only [List.setIfInBounds_toArray, List.set_cons_zero, List.set_cons_succ]
        refine take_op (v := ?vu1x3) 3 (Op.fieldAddr 49 (Operand.tmp 47) 0) 0 rfl rfl rfl rfl rfl (by kernel_rfl) (by kernel_rfl) (by kernel_rfl) (fun _ _ _ h => h) ?yu1x3 (by assumption) ?ru1x3
        case yu1x3 => (intro w' hSw; (try dsimp only at hSw); go_simp; try (with_reducible rfl))
        simp only [List.setIfInBounds_toArray, List.set_cons_zero, List.set_cons_succ]
        refine take_op (v := ?vu1x4) 4 (Op.load 3 (Operand.tmp 48)) 3 rfl rfl rfl rfl rfl (by kernel_rfl) (by kernel_rfl) (by kernel_rfl) (fun _ _ _ h => h) ?yu1x4 (by assumption) ?ru1x4
        case yu1x4 => (intro w' hSw; (try dsimp only at hSw); go_simp; try (with_reducible rfl))
        simp only [List.setIfInBounds_toArray, List.set_cons_zero, List.set_cons_succ]
        refine take_move 5 (Operand.tmp 0) rfl rfl (by first | exact .inl rfl | exact .inr rfl) rfl (by kernel_rfl) (by kernel_rfl) (by kernel_rfl) (fun _ _ _ h => h) (by assumption) ?_
        simp only [List.setIfInBounds_toArray, List.set_cons_zero, List.set_cons_succ]
        refine take_move 6 (Operand.tmp 5) rfl rfl (by first | exact .inl rfl | exact .inr rfl) rfl (by kernel_rfl) (by kernel_rfl) (by kernel_rfl) (fun _ _ _ h => h) (by assumption) ?_
        simp only [List.setIfInBounds_toArray, List.set_cons_zero, List.set_cons_succ]
        refine take_op (v := ?vu1x7) 7 (Op.indexAddr 32 (Operand.tmp 50) (Operand.tmp 51)) 0 rfl rfl rfl rfl rfl (by kernel_rfl) (by kernel_rfl) (by kernel_rfl) (fun _ _ _ h => h) ?yu1x7 (by assumption) ?ru1x7
        case yu1x7 => (intro w' hSw; (try dsimp only at hSw); go_simp; try (with_reducible rfl))
        simp only [List.setIfInBounds_toArray, List.set_cons_zero, List.set_cons_succ]
        refine take_op (v := ?vu1x8) 8 (Op.fieldAddr 49 (Operand.tmp 52) 1) 0 rfl rfl rfl rfl rfl (by kernel_rfl) (by kernel_rfl) (by kernel_rfl) (fun _ _ _ h => h) ?yu1x8 (by assumption) ?ru1x8
        case yu1x8 => (intro w' hSw; (try dsimp only at hSw); go_simp; try (with_reducible rfl))
        simp only [List.setIfInBounds_toArray, List.set_cons_zero, List.set_cons_succ]
        refine take_op (v := ?vu1x9) 9 (Op.load 3 (Operand.tmp 53)) 3 rfl rfl rfl rfl rfl (by kernel_rfl) (by kernel_rfl) (by kernel_rfl) (fun _ _ _ h => h) ?yu1x9 (by assumption) ?ru1x9
        case yu1x9 => (intro w' hSw; (try dsimp only at hSw); go_simp; try (with_reducible rfl))
        simp only [List.setIfInBounds_toArray, List.set_cons_zero, List.set_cons_succ]
        refine wpAnyH_ready (rs := [10]) (by kernel_rfl) (by simp) (AllReadyH.cons rfl (fun K10 hK10 => ?ku1x10) AllReadyH.nil)
        refine take_calls 10 24 [Operand.tmp 49, Operand.tmp 54] #[3, 3] rfl rfl (by kernel_rfl) (fun args w => run_enter Try.func24 (by kernel_rfl) rfl args w) ?_
        refine (C _).mono ?_
        rintro e w10 ⟨A3, k3, xs, rfl, hk3, o3, hxs, hb10⟩
        refine ⟨_, rfl, ?_⟩
        have z10 := hb10.size
        try simp only [World.size_drew] at z10
        replace HR := HR.trans (hb10.mono HR.size)
        have zHR10 := HR.size
        replace HB := HB.trans (hb10.mono HB.size)
        have zHB10 := HB.size
        refine hK10.out _ _ ?su1x10 (fun hHeld => ?ru1x10)
        case su1x10 => ((try dsimp only); exact KEEP.out _ HB)
        try simp only [List.setIfInBounds_toArray, List.set_cons_zero, List.set_cons_succ]
        refine take_move 11 (Operand.tmp 55) rfl rfl (by first | exact .inl rfl | exact .inr rfl) rfl (by kernel_rfl) (by kernel_rfl) (by kernel_rfl) (fun _ _ _ h => h) (by assumption) ?_
        simp only [List.setIfInBounds_toArray, List.set_cons_zero, List.set_cons_succ]
        refine take_op (v := ?vu1x12) 12 (Op.extract (Operand.tmp 44) 0) 33 rfl rfl rfl rfl rfl (by kernel_rfl) (by kernel_rfl) (by kernel_rfl) (fun _ _ _ h => h) ?yu1x12 (by assumption) ?ru1x12
        case yu1x12 => (intro w' hSw; (try dsimp only at hSw); go_simp; try (with_reducible rfl))
        simp only [List.setIfInBounds_toArray, List.set_cons_zero, List.set_cons_succ]
        refine take_op (v := ?vu1x13) 13 (Op.extract (Operand.tmp 44) 1) 4 rfl rfl rfl rfl rfl (by kernel_rfl) (by kernel_rfl) (by kernel_rfl) (fun _ _ _ h => h) ?yu1x13 (by assumption) ?ru1x13
        case yu1x13 => (intro w' hSw; (try dsimp only at hSw); go_simp; try (with_reducible rfl))
        simp only [List.setIfInBounds_toArray, List.set_cons_zero, List.set_cons_succ]
        refine take_op (v := ?vu1x14) 14 (Op.assign (Operand.tmp 56)) 33 rfl rfl rfl rfl rfl (by kernel_rfl) (by kernel_rfl) (by kernel_rfl) (fun _ _ _ h => h) ?yu1x14 (by assumption) ?ru1x14
        case yu1x14 => (intro w' hSw; (try dsimp only at hSw); go_simp; try (with_reducible rfl))
        simp only [List.setIfInBounds_toArray, List.set_cons_zero, List.set_cons_succ]
        refine take_op (v := ?vu1x15) 15 (Op.assign (Operand.tmp 57)) 4 rfl rfl rfl rfl rfl (by kernel_rfl) (by kernel_rfl) (by kernel_rfl) (fun _ _ _ h => h) ?yu1x15 (by assumption) ?ru1x15
        case yu1x15 => (intro w' hSw; (try dsimp only at hSw); go_simp; try (with_reducible rfl))
        simp only [List.setIfInBounds_toArray, List.set_cons_zero, List.set_cons_succ]
        refine wpAnyH_done (by kernel_rfl) ?_ _
        have W3 := hW.below HR
        clear hb10 z10
        generalize w10 = w3 at *
        have hb3 := HR
        obtain ⟨d0, d1⟩ := KEEP.out _ HB
        have z3 := HR.size
        by_cases hf : fitsB x0 x1 = true
        · have HF := Lib.hid hf
          have hx3 := hxs hf
          subst hx3
          rw [hf]
          clear hxs
          have C2 := fun (X : World) (hX : Below w.heap.size w X) (hzX : w.heap.size + 1 ≤ X.heap.size) (hWX : Wr X (w.heap.size + 1) w.heap.size ab L) => Put_in w X ab L x0 x1 hX hzX hWX hf h6 (by omega)
          clear hf
          go_wp2_with fail
          refine wp_region_held_drew (S := (fun w' => w'.cell? ⟨b, o + k * 2, none⟩ = some (.int .i64 x0) ∧ w'.cell? ⟨b, o + k * 2 + 1, none⟩ = some (.int .i64 x1))) (by kernel_rfl) ?_ (fun hHeld => ?_)
          · (try dsimp only); exact KEEP.out _ (by first | exact hb11 | exact HB.drew | exact HB)
          refine take_move 0 (Operand.tmp 3) rfl rfl (by first | exact .inl rfl | exact .inr rfl) rfl (by kernel_rfl) (by kernel_rfl) (by kernel_rfl) (fun _ _ _ h => h) (by assumption) ?_
          simp only [List.setIfInBounds_toArray, List.set_cons_zero, List.set_cons_succ]
          refine take_move 1 (Operand.tmp 0) rfl rfl (by first | exact .inl rfl | exact .inr rfl) rfl (by kernel_rfl) (by kernel_rfl) (by kernel_rfl) (fun _ _ _ h => h) (by assumption) ?_
          simp only [List.setIfInBounds_toArray, List.set_cons_zero, List.set_cons_succ]
          refine take_move 2 (Operand.tmp 5) rfl rfl (by first | exact .inl rfl | exact .inr rfl) rfl (by kernel_rfl) (by kernel_rfl) (by kernel_rfl) (fun _ _ _ h => h) (by assumption) ?_
          simp only [List.setIfInBounds_toArray, List.set_cons_zero, List.set_cons_succ]
          refine take_op (v := ?vu2x3) 3 (Op.indexAddr 32 (Operand.tmp 59) (Operand.tmp 60)) 0 rfl rfl rfl rfl rfl (by kernel_rfl) (by kernel_rfl) (by kernel_rfl) (fun _ _ _ h => h) ?yu2x3 (by assumption) ?ru2x3
          case yu2x3 => (intro w' hSw; (try dsimp only at hSw); go_simp; try (with_reducible rfl))
          simp only [List.setIfInBounds_toArray, List.set_cons_zero, List.set_cons_succ]
          refine take_op (v := ?vu2x4) 4 (Op.fieldAddr 49 (Operand.tmp 61) 0) 0 rfl rfl rfl rfl rfl (by kernel_rfl) (by kernel_rfl) (by kernel_rfl) (fun _ _ _ h => h) ?yu2x4 (by assumption) ?ru2x4
          case yu2x4 => (intro w' hSw; (try dsimp only at hSw); go_simp; try (with_reducible rfl))
          simp only [List.setIfInBounds_toArray, List.set_cons_zero, List.set_cons_succ]
          refine take_op (v := ?vu2x5) 5 (Op.load 3 (Operand.tmp 62)) 3 rfl rfl rfl rfl rfl (by kernel_rfl) (by kernel_rfl) (by kernel_rfl) (fun _ _ _ h => h) ?yu2x5 (by assumption) ?ru2x5
          case yu2x5 => (intro w' hSw; (try dsimp only at hSw); go_simp; try (with_reducible rfl))
          simp only [List.setIfInBounds_toArray, List.set_cons_zero, List.set_cons_succ]
          refine take_move 6 (Operand.tmp 0) rfl rfl (by first | exact .inl rfl | exact .inr rfl) rfl (by kernel_rfl) (by kernel_rfl) (by kernel_rfl) (fun _ _ _ h => h) (by assumption) ?_
          simp only [List.setIfInBounds_toArray, List.set_cons_zero, List.set_cons_succ]
          refine take_move 7 (Operand.tmp 5) rfl rfl (by first | exact .inl rfl | exact .inr rfl) rfl (by kernel_rfl) (by kernel_rfl) (by kernel_rfl) (fun _ _ _ h => h) (by assumption) ?_
          simp only [List.setIfInBounds_toArray, List.set_cons_zero, List.set_cons_succ]
          refine take_op (v := ?vu2x8) 8 (Op.indexAddr 32 (Operand.tmp 64) (Operand.tmp 65)) 0 rfl rfl rfl rfl rfl (by kernel_rfl) (by kernel_rfl) (by kernel_rfl) (fun _ _ _ h => h) ?yu2x8 (by assumption) ?ru2x8
          case yu2x8 => (intro w' hSw; (try dsimp only at hSw); go_simp; try (with_reducible rfl))
          simp only [List.setIfInBounds_toArray, List.set_cons_zero, List.set_cons_succ]
          refine take_op (v := ?vu2x9) 9 (Op.fieldAddr 49 (Operand.tmp 66) 1) 0 rfl rfl rfl rfl rfl (by kernel_rfl) (by kernel_rfl) (by kernel_rfl) (fun _ _ _ h => h) ?yu2x9 (by assumption) ?ru2x9
          case yu2x9 => (intro w' hSw; (try dsimp only at hSw); go_simp; try (with_reducible rfl))
          simp only [List.setIfInBounds_toArray, List.set_cons_zero, List.set_cons_succ]
          refine take_op (v := ?vu2x10) 10 (Op.load 3 (Operand.tmp 67)) 3 rfl rfl rfl rfl rfl (by kernel_rfl) (by kernel_rfl) (by kernel_rfl) (fun _ _ _ h => h) ?yu2x10 (by assumption) ?ru2x10
          case yu2x10 => (intro w' hSw; (try dsimp only at hSw); go_simp; try (with_reducible rfl))
          simp only [List.setIfInBounds_toArray, List.set_cons_zero, List.set_cons_succ]
          refine wpAnyH_ready (rs := [11]) (by kernel_rfl) (by simp) (AllReadyH.cons rfl (fun K11 hK11 => ?ku2x11) AllReadyH.nil)
          refine take_calls 11 25 [Operand.tmp 58, Operand.tmp 63, Operand.tmp 68] #[43, 3, 3] rfl rfl (by kernel_rfl) (fun args w => run_enter Try.func25 (by kernel_rfl) rfl args w) ?_
          refine (C2 _ HB.drew (by simp only [World.size_drew]; omega) W3.wr.drew).mono ?_
          rintro e w11 ⟨rfl, ab4, hP, hb11⟩
          refine ⟨_, rfl, ?_⟩
          have z11 := hb11.size
          try simp only [World.size_drew] at z11
          refine hK11.out _ _ ?su2x11 (fun hHeld => ?ru2x11)
          case su2x11 => ((try dsimp only); exact KEEP.out _ (by first | exact hb11 | exact HB.drew | exact HB))
          try simp only [List.setIfInBounds_toArray, List.set_cons_zero, List.set_cons_succ]
          refine take_op (v := ?vu2x12) 12 (Op.assign (Operand.tmp 69)) 27 rfl rfl rfl rfl rfl (by kernel_rfl) (by kernel_rfl) (by kernel_rfl) (fun _ _ _ h => h) ?yu2x12 (by assumption) ?ru2x12
          case yu2x12 => (intro w' hSw; (try dsimp only at hSw); go_simp; try (with_reducible rfl))
          simp only [List.setIfInBounds_toArray, List.set_cons_zero, List.set_cons_succ]
          refine wpAnyH_done (by kernel_rfl) ?_ _
          have HB4 := hb11
          have W3 := W3.below ((Below.refl _ _).drew)
          have o3 := o3.drew
          have hz4 := hP.frame.size
          obtain ⟨oW, apW⟩ := W3.put hP
          have oD := Own.wfr o3 hP.frame (fun q hq => ⟨by have := (o3.blk q hq).1; omega, fun e => by have := (o3.blk q hq).1; have := (hW.wr.blk.2 q e).2; omega⟩)
          have wr4 := hP.wr
          have tw := two_app hW.two (two_dg x1.toNat x0.toNat)
          try simp only [World.size_drew] at hz4
          clear hP W3 o3
          have hlen3 := rd_bclen oD.rd
          go_wp2_with (at_builtin; with_reducible refine wp_append El_int2 rfl (s := .tmp 83) (x := .tmp 84) rfl rfl oW rfl oD.rd (bc_one _) (by unfold maxLen; omega) (by omega) (by omega) ?_; intro A5 c5 w5 o5 hg5 hat5)
          rw [← bc_app] at o5
          have W5 := WW.app wr4 oW apW hg5 o5 hat5 tw
          have HB5 := below_grown HB4 hg5 oW (Nat.le_succ _)
          have z5 := hg5.size
          clear o5 hg5 hat5 tw wr4 oW apW oD
          have hLF := W5.len
          have hzF := HB5.size
          go_wp2_with fail
          refine (Len_eq W5.wr (n2 + k3) hLF (by omega)).mono ?_
          rintro e w6 ⟨rfl, nq, hw6⟩
          have W6 := W5.below ((Below.refl _ _).drewN_ nq)
          have H6 := HB5.drewN_ nq
          have Z6 := ((Below.refl 0 w5).drewN_ nq).size
          rw [← hw6] at W6 H6 Z6
          clear hw6
          clear hLF
          go_wp2_with fail
          refine (text_any _ _ _ _ _ W6.wr (by have := W6.len; omega)).mono ?_
          rintro e w7 ⟨rfl, hb7⟩
          have W7 := W6.below hb7
          have H7 := H6.trans (hb7.mono H6.size)
          have Z7 := hb7.size
          go_wp2_with fail
          refine (refText_any _ _ _ _ _ W7.own.rd (by omega) W7.two).mono ?_
          rintro e w8 ⟨rfl, hb8⟩
          have W8 := W7.below hb8
          have H8 := H7.trans (hb8.mono H7.size)
          have Z8 := hb8.size
          clear W6 W7 hb7 hb8
          go_wp2_with fail
          go_roundw
          case rel => exact ⟨k + 1, _, _, _, _, _, by go_num, rfl, by omega, by omega, W8, by first | omega | (simp only [World.drewN, World.heap] at *; omega), H8⟩
          case measure => simp [intOf]; omega
        · have hf' : fitsB x0 x1 = false := by simpa using hf
          rw [hf']
          clear hf hxs o3
          have C2 := fun (X : World) (hX : Below w.heap.size w X) => Put_out w X x0 x1 hX hf' h6
          clear hf'
          go_wp2_with fail
          refine wp_region_held_drew (S := (fun w' => w'.cell? ⟨b, o + k * 2, none⟩ = some (.int .i64 x0) ∧ w'.cell? ⟨b, o + k * 2 + 1, none⟩ = some (.int .i64 x1))) (by kernel_rfl) ?_ (fun hHeld => ?_)
          · (try dsimp only); exact KEEP.out _ (by first | exact hb11 | exact HB.drew | exact HB)
          refine take_move 0 (Operand.tmp 3) rfl rfl (by first | exact .inl rfl | exact .inr rfl) rfl (by kernel_rfl) (by kernel_rfl) (by kernel_rfl) (fun _ _ _ h => h) (by assumption) ?_
          simp only [List.setIfInBounds_toArray, List.set_cons_zero, List.set_cons_succ]
          refine take_move 1 (Operand.tmp 0) rfl rfl (by first | exact .inl rfl | exact .inr rfl) rfl (by kernel_rfl) (by kernel_rfl) (by kernel_rfl) (fun _ _ _ h => h) (by assumption) ?_
          simp only [List.setIfInBounds_toArray, List.set_cons_zero, List.set_cons_succ]
          refine take_move 2 (Operand.tmp 5) rfl rfl (by first | exact .inl rfl | exact .inr rfl) rfl (by kernel_rfl) (by kernel_rfl) (by kernel_rfl) (fun _ _ _ h => h) (by assumption) ?_
          simp only [List.setIfInBounds_toArray, List.set_cons_zero, List.set_cons_succ]
          refine take_op (v := ?vu3x3) 3 (Op.indexAddr 32 (Operand.tmp 59) (Operand.tmp 60)) 0 rfl rfl rfl rfl rfl (by kernel_rfl) (by kernel_rfl) (by kernel_rfl) (fun _ _ _ h => h) ?yu3x3 (by assumption) ?ru3x3
          case yu3x3 => (intro w' hSw; (try dsimp only at hSw); go_simp; try (with_reducible rfl))
          simp only [List.setIfInBounds_toArray, List.set_cons_zero, List.set_cons_succ]
          refine take_op (v := ?vu3x4) 4 (Op.fieldAddr 49 (Operand.tmp 61) 0) 0 rfl rfl rfl rfl rfl (by kernel_rfl) (by kernel_rfl) (by kernel_rfl) (fun _ _ _ h => h) ?yu3x4 (by assumption) ?ru3x4
          case yu3x4 => (intro w' hSw; (try dsimp only at hSw); go_simp; try (with_reducible rfl))
          simp only [List.setIfInBounds_toArray, List.set_cons_zero, List.set_cons_succ]
          refine take_op (v := ?vu3x5) 5 (Op.load 3 (Operand.tmp 62)) 3 rfl rfl rfl rfl rfl (by kernel_rfl) (by kernel_rfl) (by kernel_rfl) (fun _ _ _ h => h) ?yu3x5 (by assumption) ?ru3x5
          case yu3x5 => (intro w' hSw; (try dsimp only at hSw); go_simp; try (with_reducible rfl))
          simp only [List.setIfInBounds_toArray, List.set_cons_zero, List.set_cons_succ]
          refine take_move 6 (Operand.tmp 0) rfl rfl (by first | exact .inl rfl | exact .inr rfl) rfl (by kernel_rfl) (by kernel_rfl) (by kernel_rfl) (fun _ _ _ h => h) (by assumption) ?_
          simp only [List.setIfInBounds_toArray, List.set_cons_zero, List.set_cons_succ]
          refine take_move 7 (Operand.tmp 5) rfl rfl (by first | exact .inl rfl | exact .inr rfl) rfl (by kernel_rfl) (by kernel_rfl) (by kernel_rfl) (fun _ _ _ h => h) (by assumption) ?_
          simp only [List.setIfInBounds_toArray, List.set_cons_zero, List.set_cons_succ]
          refine take_op (v := ?vu3x8) 8 (Op.indexAddr 32 (Operand.tmp 64) (Operand.tmp 65)) 0 rfl rfl rfl rfl rfl (by kernel_rfl) (by kernel_rfl) (by kernel_rfl) (fun _ _ _ h => h) ?yu3x8 (by assumption) ?ru3x8
          case yu3x8 => (intro w' hSw; (try dsimp only at hSw); go_simp; try (with_reducible rfl))
          simp only [List.setIfInBounds_toArray, List.set_cons_zero, List.set_cons_succ]
          refine take_op (v := ?vu3x9) 9 (Op.fieldAddr 49 (Operand.tmp 66) 1) 0 rfl rfl rfl rfl rfl (by kernel_rfl) (by kernel_rfl) (by kernel_rfl) (fun _ _ _ h => h) ?yu3x9 (by assumption) ?ru3x9
          case yu3x9 => (intro w' hSw; (try dsimp only at hSw); go_simp; try (with_reducible rfl))
          simp only [List.setIfInBounds_toArray, List.set_cons_zero, List.set_cons_succ]
          refine take_op (v := ?vu3x10) 10 (Op.load 3 (Operand.tmp 67)) 3 rfl rfl rfl rfl rfl (by kernel_rfl) (by kernel_rfl) (by kernel_rfl) (fun _ _ _ h => h) ?yu3x10 (by assumption) ?ru3x10
          case yu3x10 => (intro w' hSw; (try dsimp only at hSw); go_simp; try (with_reducible rfl))
          simp only [List.setIfInBounds_toArray, List.set_cons_zero, List.set_cons_succ]
          refine wpAnyH_ready (rs := [11]) (by kernel_rfl) (by simp) (AllReadyH.cons rfl (fun K11 hK11 => ?ku3x11) AllReadyH.nil)
          refine take_calls 11 25 [Operand.tmp 58, Operand.tmp 63, Operand.tmp 68] #[43, 3, 3] rfl rfl (by kernel_rfl) (fun args w => run_enter Try.func25 (by kernel_rfl) rfl args w) ?_
          refine (C2 _ HB.drew).mono ?_
          rintro e w11 ⟨rfl, hww, hb11⟩
          refine ⟨_, rfl, ?_⟩
          have z11 := hb11.size
          try simp only [World.size_drew] at z11
          refine hK11.out _ _ ?su3x11 (fun hHeld => ?ru3x11)
          case su3x11 => ((try dsimp only); exact KEEP.out _ (by first | exact hb11 | exact HB.drew | exact HB))
          try simp only [List.setIfInBounds_toArray, List.set_cons_zero, List.set_cons_succ]
          refine take_op (v := ?vu3x12) 12 (Op.assign (Operand.tmp 69)) 27 rfl rfl rfl rfl rfl (by kernel_rfl) (by kernel_rfl) (by kernel_rfl) (fun _ _ _ h => h) ?yu3x12 (by assumption) ?ru3x12
          case yu3x12 => (intro w' hSw; (try dsimp only at hSw); go_simp; try (with_reducible rfl))
          simp only [List.setIfInBounds_toArray, List.set_cons_zero, List.set_cons_succ]
          refine wpAnyH_done (by kernel_rfl) ?_ _
          have HB4 := hb11
          have W4 := W3.below ((Below.refl _ _).drew)
          rw [hww] at W4
          have z4 : w3.heap.size ≤ w11.heap.size := by rw [← hww]; exact Nat.le_refl _
          generalize w11 = w4 at *
          clear hww
          have hLF := W4.len
          have hzF := HB4.size
          go_wp2_with fail
          refine (Len_eq W4.wr n2 hLF (by omega)).mono ?_
          rintro e w6 ⟨rfl, nq, hw6⟩
          have W6 := W4.below ((Below.refl _ _).drewN_ nq)
          have H6 := HB4.drewN_ nq
          have Z6 := ((Below.refl 0 w4).drewN_ nq).size
          rw [← hw6] at W6 H6 Z6
          clear hw6
          clear hLF
          go_wp2_with fail
          refine (text_any _ _ _ _ _ W6.wr (by have := W6.len; omega)).mono ?_
          rintro e w7 ⟨rfl, hb7⟩
          have W7 := W6.below hb7
          have H7 := H6.trans (hb7.mono H6.size)
          have Z7 := hb7.size
          go_wp2_with fail
          refine (refText_any _ _ _ _ _ W7.own.rd (by omega) W7.two).mono ?_
          rintro e w8 ⟨rfl, hb8⟩
          have W8 := W7.below hb8
          have H8 := H7.trans (hb8.mono H7.size)
          have Z8 := hb8.size
          clear W6 W7 hb7 hb8
          go_wp2_with fail
          go_roundw
          case rel => exact ⟨k + 1, _, _, _, _, _, by go_num, rfl, by omega, by omega, W8, by first | omega | (simp only [World.drewN, World.heap] at *; omega), H8⟩
          case measure => simp [intOf]; omega
    · go_wp2_with fail
      refine (nil_Put 0 1 _).mono ?_
      rintro e w3 ⟨rfl, rfl⟩
      go_wp2_with fail
      refine (nil_Gamma 1 _).mono ?_
      rintro e w4 ⟨rfl, rfl⟩
      go_wp2_with fail
      refine (nil_Len _).mono ?_
      rintro e w5 ⟨rfl, rfl⟩
      go_wp2_with fail
      refine (nil_Text _).mono ?_
      rintro e w6 ⟨rfl, rfl⟩
      go_wp2_with fail
      refine (awake_any _).mono ?_
      rintro e w7 ⟨rfl, hb7⟩
      go_wp2_with fail
      go_ret
      exact ⟨rfl, hbw.trans (hb7.mono hsz)⟩
end BitW
end Go.Proofs.Ytnghmcadhjneeaa
