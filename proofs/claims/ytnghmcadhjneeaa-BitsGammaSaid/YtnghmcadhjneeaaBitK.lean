/- The law of package bits on gamma bits: its walk. -/
import Derived.Test.YtnghmcadhjneeaaBitI
import Derived.Test.YtnghmcadhjneeaaBitJ
import Derived.BigQuiet
namespace Go.Proofs.Ytnghmcadhjneeaa
set_option linter.unusedVariables false
set_option linter.unusedSimpArgs false
set_option linter.unnecessarySimpa false
open Go.RowKit Go.ChangeShapes Go.WideShapes Go.Deep
namespace BitW

/-- The writer and two lists beside it. -/
structure GG (v : World) (B g : Nat) (ab : Option Nat) (L : List Nat) (A1 : Option Addr) (n1 c1 : Nat) (x1 : List Int) (A2 : Option Addr) (n2 c2 : Nat) (x2 : List Int) : Prop where
  wr : Wr v B g ab L
  o1 : Own v B 3 1 A1 n1 c1 (ints x1)
  o2 : Own v B 3 1 A2 n2 c2 (ints x2)
  p1 : ∀ k, ab = some k → blkOf A1 ≠ some k
  p2 : ∀ k, ab = some k → blkOf A2 ≠ some k
  p3 : ∀ k, blkOf A1 = some k → blkOf A2 ≠ some k
theorem GG.below {v v' : World} {B g : Nat} {ab : Option Nat} {L : List Nat} {A1 : Option Addr} {n1 c1 : Nat} {x1 : List Int} {A2 : Option Addr} {n2 c2 : Nat} {x2 : List Int}
    (h : GG v B g ab L A1 n1 c1 x1 A2 n2 c2 x2) (hb : Below v.heap.size v v') : GG v' B g ab L A1 n1 c1 x1 A2 n2 c2 x2 :=
  ⟨h.wr.below hb, h.o1.below hb, h.o2.below hb, h.p1, h.p2, h.p3⟩
theorem row_put {v v' : World} {B g : Nat} {ab ab' : Option Nat} {A : Option Addr} {n c : Nat} {xs : List Value} {L L' : List Nat} (hw : Wr v B g ab L) (ho : Own v B 3 1 A n c xs) (hap : ∀ k, ab = some k → blkOf A ≠ some k) (hP : Puts v v' B g ab L' ab') :
    Own v' B 3 1 A n c xs ∧ ∀ k, ab' = some k → blkOf A ≠ some k := by
  refine ⟨Own.wfr ho hP.frame (fun k hk => ⟨by have := (ho.blk k hk).1; have := hw.base_lt; omega, fun e => hap k e hk⟩), ?_⟩
  intro k hk e
  have hlt := (ho.blk k e).2
  rcases hP.fresh with h1 | ⟨j, h1, h2⟩
  · subst h1; exact hap k hk e
  · rw [h1] at hk; cases hk; omega
theorem GG.put {v v' : World} {B g : Nat} {ab ab' : Option Nat} {L L' : List Nat} {A1 : Option Addr} {n1 c1 : Nat} {x1 : List Int} {A2 : Option Addr} {n2 c2 : Nat} {x2 : List Int}
    (h : GG v B g ab L A1 n1 c1 x1 A2 n2 c2 x2) (hP : Puts v v' B g ab L' ab') : GG v' B g ab' L' A1 n1 c1 x1 A2 n2 c2 x2 := by
  obtain ⟨a1, a2⟩ := row_put h.wr h.o1 h.p1 hP
  obtain ⟨b1, b2⟩ := row_put h.wr h.o2 h.p2 hP
  exact ⟨hP.wr, a1, b1, a2, b2, h.p3⟩
theorem GG.app1 {v v' : World} {B g : Nat} {ab : Option Nat} {L : List Nat} {A1 A4 : Option Addr} {n1 c1 n4 c4 : Nat} {x1 x4 : List Int} {A2 : Option Addr} {n2 c2 : Nat} {x2 : List Int}
    (h : GG v B g ab L A1 n1 c1 x1 A2 n2 c2 x2) (hg : v.grownBy v' (blkOf A1)) (ho : Own v' B 3 1 A4 n4 c4 (ints x4)) (hat : blkOf A4 = blkOf A1 ∨ blkOf A4 = some v.heap.size) : GG v' B g ab L A4 n4 c4 x4 A2 n2 c2 x2 := by
  refine ⟨h.wr.grown hg (fun e => ?_) h.p1, ho, h.o2.other hg (fun k hk e => h.p3 k e hk), ?_, h.p2, ?_⟩
  · have := (h.o1.blk g e.symm).1; have := h.wr.base_lt; omega
  · intro k hk e
    rcases hat with h' | h'
    · exact h.p1 k hk (h' ▸ e)
    · have := (h.wr.blk.2 k hk).2
      rw [h'] at e; cases e; omega
  · intro k hk e
    rcases hat with h' | h'
    · exact h.p3 k (h' ▸ hk) e
    · have := (h.o2.blk k e).2
      rw [h'] at hk; cases hk; omega
theorem GG.app2 {v v' : World} {B g : Nat} {ab : Option Nat} {L : List Nat} {A1 A4 : Option Addr} {n1 c1 n4 c4 : Nat} {x1 x4 : List Int} {A2 : Option Addr} {n2 c2 : Nat} {x2 : List Int}
    (h : GG v B g ab L A1 n1 c1 x1 A2 n2 c2 x2) (hg : v.grownBy v' (blkOf A2)) (ho : Own v' B 3 1 A4 n4 c4 (ints x4)) (hat : blkOf A4 = blkOf A2 ∨ blkOf A4 = some v.heap.size) : GG v' B g ab L A1 n1 c1 x1 A4 n4 c4 x4 := by
  refine ⟨h.wr.grown hg (fun e => ?_) h.p2, h.o1.other hg h.p3, ho, h.p1, ?_, ?_⟩
  · have := (h.o2.blk g e.symm).1; have := h.wr.base_lt; omega
  · intro k hk e
    rcases hat with h' | h'
    · exact h.p2 k hk (h' ▸ e)
    · have := (h.wr.blk.2 k hk).2
      rw [h'] at e; cases e; omega
  · intro k hk e
    rcases hat with h' | h'
    · exact h.p3 k hk (h' ▸ e)
    · have := (h.o1.blk k hk).2
      rw [h'] at e; cases e; omega
def cast1 (H : List Nat) : List Int := H.map (fun x : Nat => (x : Int))
def sizes1 (H : List Nat) : List Int := H.map (fun x : Nat => ((gam x).length : Int))
theorem cast1_snoc (H : List Nat) (x : Nat) : ints (cast1 H) ++ ints [(x : Int)] = ints (cast1 (H ++ [x])) := by simp [ints, cast1]
theorem sizes1_snoc (H : List Nat) (x z : Nat) (hz : (gam x).length = z) : ints (sizes1 H) ++ ints [(z : Int)] = ints (sizes1 (H ++ [x])) := by subst hz; simp [ints, sizes1]
theorem w64n (n : Nat) (h : n ≤ 100000) : wrap64 (n : Int) = (n : Int) := by unfold wrap64; omega

set_option maxRecDepth 100000 in
set_option maxHeartbeats 4000000 in
theorem gamma_law (A : Option Addr) (n c : Nat) (l : List Int) (w : World)
    (h : Rd w w.heap.size 1 A n (ints l)) (h64 : ∀ x ∈ l, I64 x) (hn : n ≤ maxLen) :
    Calls Try.prog 7 #[.slice A n c] w fun e w' => e = .returned (.bool true) ∧ Below w.heap.size w w' := by
  unfold maxLen at hn
  by_cases h1 : (200 : Int) < n
  · clear h h64
    go_enter Try.func7, Try.ntmps7
    go_wp2_with fail
    refine (awake_any _).mono ?_
    rintro e w7 ⟨rfl, hb7⟩
    go_wp2_with fail
    go_ret
    exact ⟨rfl, hb7⟩
  have hl := rd_len h
  have hl1 : l.length ≤ n := by omega
  have hl2 : n ≤ l.length := by omega
  have hn3 : n ≤ 200 := by omega
  have H64 := Lib.hid h64
  clear hl h64
  go_enter Try.func7, Try.ntmps7
  go_wp2_with fail
  have hGG : GG (w.alloc (.cells #[.slice none 0 0, .int .u64 0, .int .i64 0] 47)) (w.heap.size + 1) w.heap.size none (gams []) none 0 0 (cast1 []) none 0 0 (sizes1 []) :=
    ⟨Wr.fresh w, Own.nil _ _ _ _, Own.nil _ _ _ _, (by intro k hk; cases hk), (by intro k hk; cases hk), (by intro k hk; cases hk)⟩
  have HB0 : Below w.heap.size w (w.alloc (.cells #[.slice none 0 0, .int .u64 0, .int .i64 0] 47)) := (by first | exact Below.refl _ _ | (repeat (first | exact Below.refl _ _ | assumption | refine Below.drew ?_ | refine Below.drewN_ ?_ _ | refine Below.alloc ?_ (by first | exact Nat.le_refl _ | (simp; done) | (simp; omega) | omega) _ | refine Below.setCell ?_ (by first | exact Nat.le_refl _ | (simp; done) | (simp; omega) | omega) _ | (refine Below.trans ?_ (Below.mono (by assumption) (by first | exact Nat.le_refl _ | (simp; done) | (simp; omega) | omega))))))
  have hz1 : w.heap.size + 1 ≤ (w.alloc (.cells #[.slice none 0 0, .int .u64 0, .int .i64 0] 47)).heap.size := by simp
  go_loopw [4, 5, 6] (fun hv sz i wr => ∃ (k m c1 c2 q : Nat) (ab : Option Nat) (A1 A2 : Option Addr) (H : List Nat), i = .int .i64 k ∧ hv = .slice A1 m c1 ∧ sz = .slice A2 m c2 ∧ k ≤ n ∧ H.length = m ∧ m ≤ k ∧ (gams H).length = q ∧ q ≤ 64 * k ∧ (∀ x ∈ H, 0 < x ∧ x < 2 ^ 32) ∧ GG wr (w.heap.size + 1) w.heap.size ab (gams H) A1 m c1 (cast1 H) A2 m c2 (sizes1 H) ∧ w.heap.size + 1 ≤ wr.heap.size ∧ Below w.heap.size w wr) (fun _ _ i _ => n - (intOf i).toNat)
  case atStart => exact ⟨0, 0, 0, 0, 0, none, none, none, [], rfl, rfl, rfl, by omega, rfl, by omega, rfl, by omega, by simp, hGG, hz1, HB0⟩
  case round =>
    obtain ⟨k, m, c1, c2, q, ab, A1, A2, H, rfl, rfl, rfl, hk, hHm, hmk, hq, hqk, hall, hG, hz, hbw⟩ := hrel
    clear hGG HB0 hz1
    have hsz := hbw.size
    have HA := Lib.hid hall
    clear hall
    by_cases hlt : k < n
    · have hkl : k < l.length := by omega
      obtain ⟨b, o, rfl, hb, hc⟩ := rd_ints h (by omega)
      have e0 := hc k hkl
      have h6 := H64.out l[k] (List.getElem_mem hkl)
      generalize hr : l[k] = x at *
      have KEEP := Lib.hid (fun (w' : World) (hh : Below w.heap.size w w') => show w'.cell? ⟨b, o + k, none⟩ = some (.int .i64 x) from (hh.cell (p := ⟨b, o + k, none⟩) hb).trans e0)
      have hki : (k : Int) < (n : Int) := by omega
      have hk0 : (0 : Int) ≤ (k : Int) := by omega
      clear hc hr e0
      go_wp2_with fail
      refine (Len_eq hG.wr q hq (by omega)).mono ?_
      rintro e w3 ⟨rfl, nq, hw3⟩
      have G3 := hG.below ((Below.refl _ _).drewN_ nq)
      have HB := hbw.drewN_ nq
      have z3 := ((Below.refl 0 wr).drewN_ nq).size
      rw [← hw3] at G3 HB z3
      clear hw3
      have d0 := KEEP.out w3 HB
      by_cases hf : gamB x = true
      · obtain ⟨y, hy, hy0, hy1⟩ := gamB_nat hf
        have C2 := Gamma_in w w3 ab (gams H) x HB (by omega) G3.wr hf h6 (by omega)
        subst hy
        rw [Int.toNat_natCast, ← gams_snoc] at C2
        obtain ⟨zz, hzz⟩ : ∃ zz, (gam y).length = zz := ⟨_, rfl⟩
        have hgl := gam_len hy0 hy1
        have hq2 : (gams (H ++ [y])).length = q + zz := by rw [gams_snoc, List.length_append]; omega
        have hzb : zz ≤ 64 := by omega
        have HY := Lib.hid (And.intro hy0 hy1)
        have HZ := Lib.hid hzz
        clear hf hy0 hy1 hgl hzz h6
        go_wp2_with fail
        refine C2.mono ?_
        clear C2
        rintro e w4 ⟨rfl, ab4, hP, HB4⟩
        have G4 := G3.put hP
        have z4 := hP.frame.size
        clear hP G3 d0
        have d0 := KEEP.out w4 HB4
        have G5 := G4.below ((Below.refl _ w4).alloc (Nat.le_refl _) (.cells #[.int .i64 y] 3))
        have HB5 := HB4.alloc HB4.size (.cells #[.int .i64 y] 3)
        have hrn : Rd (w4.alloc (.cells #[.int .i64 y] 3)) (w4.heap.size + 1) 1 (some ⟨w4.heap.size, 0, none⟩) 1 (ints [(y : Int)]) := rd_new (W0 := w4) (t := 3) (cs := ints [(y : Int)]) (size := 1) (m := 1) rfl rfl
        clear G4
        go_wp2_with (at_builtin; with_reducible refine wp_append El_int2 rfl (s := .tmp 33) (x := .tmp 38) rfl rfl G5.o1 rfl hrn (ints_one _) (by unfold maxLen; omega) (by omega) (by simp only [World.size_alloc]; omega) ?_; intro A6 c6 w6 o6 hg6 hat6)
        rw [cast1_snoc] at o6
        have G6 := G5.app1 hg6 o6 hat6
        have HB6 := below_grown HB5 hg6 G5.o1 (Nat.le_succ _)
        have z6 := hg6.size
        rw [World.size_alloc] at z6
        clear o6 hg6 hat6 G5 HB5 hrn
        refine (Len_eq G6.wr (q + zz) hq2 (by omega)).mono ?_
        rintro e w7 ⟨rfl, nq7, hw7⟩
        have hws : wrap64 (((q + zz : Nat) : Int) - (q : Int)) = (zz : Int) := by unfold wrap64; omega
        have hca : (q : Int) + (zz : Int) - (q : Int) = (zz : Int) := by omega
        have G7 := G6.below ((Below.refl _ _).drewN_ nq7)
        have HB7 := HB6.drewN_ nq7
        have z7 := ((Below.refl 0 w6).drewN_ nq7).size
        rw [← hw7] at G7 HB7 z7
        clear hw7 G6
        have G8 := G7.below ((Below.refl _ w7).alloc (Nat.le_refl _) (.cells #[.int .i64 zz] 3))
        have HB8 := HB7.alloc HB7.size (.cells #[.int .i64 zz] 3)
        have hrn : Rd (w7.alloc (.cells #[.int .i64 zz] 3)) (w7.heap.size + 1) 1 (some ⟨w7.heap.size, 0, none⟩) 1 (ints [(zz : Int)]) := rd_new (W0 := w7) (t := 3) (cs := ints [(zz : Int)]) (size := 1) (m := 1) rfl rfl
        clear G7
        go_wp2_with (at_builtin; with_reducible refine wp_append El_int2 rfl (s := .tmp 40) (x := .tmp 45) rfl rfl G8.o2 rfl hrn (ints_one _) (by unfold maxLen; omega) (by omega) (by simp only [World.size_alloc]; omega) ?_; intro A9 c9 w9 o9 hg9 hat9)
        rw [sizes1_snoc H y zz HZ.out] at o9
        have G9 := G8.app2 hg9 o9 hat9
        have HB9 := below_grown HB8 hg9 G8.o2 (Nat.le_succ _)
        have z9 := hg9.size
        rw [World.size_alloc] at z9
        clear o9 hg9 hat9 G8 HB8 hrn
        go_roundw
        case rel =>
          refine ⟨k + 1, m + 1, c6, c9, q + zz, ab4, A6, A9, H ++ [y], by go_num, rfl, rfl, by omega, by simp; omega, by omega, hq2, by omega, ?_, G9, by omega, HB9⟩
          intro x hx
          rcases List.mem_append.1 hx with hx | hx
          · exact HA.out x hx
          · simp only [List.mem_singleton] at hx; subst hx; exact HY.out
        case measure => simp [intOf]; omega
      · have hf' : gamB x = false := by simpa using hf
        have C2 := Gamma_out w w3 x HB hf' h6
        rcases gamB_not hf' with hx1 | ⟨hx1, hx2⟩
        all_goals
          clear hf hf'
          go_wp2_with fail
          refine C2.mono ?_
          clear C2
          rintro e w4 ⟨rfl, hww, HB4⟩
          have G4 := G3
          rw [hww] at G4
          have z4 : w3.heap.size ≤ w4.heap.size := by rw [← hww]; exact Nat.le_refl _
          clear hww G3 d0
          go_wp2_with fail
          refine (Len_eq G4.wr q hq (by omega)).mono ?_
          rintro e w7 ⟨rfl, nq7, hw7⟩
          have G7 := G4.below ((Below.refl _ _).drewN_ nq7)
          have HB7 := HB4.drewN_ nq7
          have z7 := ((Below.refl 0 w4).drewN_ nq7).size
          rw [← hw7] at G7 HB7 z7
          clear hw7 G4
          have d0 := KEEP.out w7 HB7
          go_wp2_with fail
          go_roundw
          case rel =>
            exact ⟨k + 1, m, c1, c2, q, ab, A1, A2, H, by go_num, rfl, rfl, by omega, hHm, by omega, hq, by omega, HA.out, G7, by omega, HB7⟩
          case measure => simp [intOf]; omega
    · obtain rfl : k = n := by omega
      have htl := textB_len (gams H)
      refine ?_
      go_wp2_with fail
      refine (text_any _ _ _ _ _ hG.wr (by omega)).mono ?_
      rintro e w3 ⟨rfl, hb3⟩
      have G3 := hG.below hb3
      have HB3 := hbw.trans (hb3.mono hsz)
      have z3 := hb3.size
      obtain ⟨kr, hkr, hbits⟩ := bits_text (gams H) (gams_lt H)
      generalize htx : textB (gams H) = tx at *
      have hbl := bitsB_len tx
      rw [hbits, List.length_append] at hbl
      have HT := Lib.hid hbits
      clear htx hbits hb3 hG
      go_wp2_with fail
      refine (new_any tx _).mono ?_
      rintro e w4 ⟨rfl, hw4⟩
      have B4 := Blk.new w3 105 (rdr tx 0)
      have hb4 := (Below.refl w3.heap.size w3).alloc (Nat.le_refl _) (.cells (rdr tx 0) 105)
      have r1 := G3.o1.rd.below hb4
      have r2 := G3.o2.rd.below hb4
      have HB4 := HB3.trans (hb4.mono HB3.size)
      rw [← hw4] at B4 r1 r2 HB4
      have z4 : w4.heap.size = w3.heap.size + 1 := by rw [hw4, World.size_alloc]
      generalize hg : w3.heap.size = g at *
      clear hw4 hb4 hg G3 HB3
      have hg1 : w.heap.size ≤ g := by omega
      go_wp2_with fail
      go_loopw [9] (fun i wr => ∃ (j p : Nat), j ≤ m ∧ i = .int .i64 j ∧ p = (gams (H.take j)).length ∧ p ≤ q ∧ Blk wr g 105 (rdr tx p) ∧ Below g w4 wr) (fun i _ => m - (intOf i).toNat)
      case atStart => exact ⟨0, 0, by omega, rfl, by simp [gams], by omega, B4, Below.refl _ _⟩
      case round =>
        obtain ⟨j, p, hj, rfl, hp, hpq, bR, hbw4⟩ := hrel
        have HP := Lib.hid hp
        have hs4 := hbw4.size
        clear hp B4
        by_cases hlt : j < m
        · have hjl : j < H.length := by omega
          obtain ⟨y0, y1⟩ := HA.out H[j] (List.getElem_mem hjl)
          have hat := gams_at H j hjl
          have hug := ung_at (s := tx) (pre := gams (H.take j)) (rest := gams (H.drop (j + 1)) ++ List.replicate kr 0) y0 y1 (by rw [HT.out, hat]; simp)
          rw [← HP.out] at hug
          have hpn : (gams (H.take (j + 1))).length = p + (gam H[j]).length := by rw [gams_take H j hjl, List.length_append, ← HP.out]
          have hpq2 : p + (gam H[j]).length ≤ q := by
            have := congrArg List.length hat
            simp only [List.length_append] at this
            rw [← HP.out] at this
            omega
          have HPN := Lib.hid hpn
          have hsz0 : (gam H[j]).length % 2 = 1 := by have := gam_len y0 y1; omega
          have C := gamma_any g tx p wr bR (by omega) (by omega) _ hug
          obtain ⟨b1, o1, rfl, hb1, hc1⟩ := rd_ints (r1.below hbw4) (by omega)
          obtain ⟨b2, o2, rfl, hb2, hc2⟩ := rd_ints (r2.below hbw4) (by omega)
          have d1 := hc1 j (by simp [cast1]; omega)
          have d2 := hc2 j (by simp [sizes1]; omega)
          simp only [cast1, sizes1, List.getElem_map] at d1 d2
          have HPREV : ∀ i, j = i + 1 → ∃ u v : Nat, wr.cell? ⟨b1, o1 + i, none⟩ = some (.int .i64 u) ∧ wr.cell? ⟨b2, o2 + i, none⟩ = some (.int .i64 v) ∧ (u < H[j] → v ≤ (gam H[j]).length) := by
            intro i hi
            have hil : i < H.length := by omega
            have f1 := hc1 i (by simp [cast1]; omega)
            have f2 := hc2 i (by simp [sizes1]; omega)
            simp only [cast1, sizes1, List.getElem_map] at f1 f2
            exact ⟨_, _, f1, f2, fun hlt => gam_mono (HA.out H[i] (List.getElem_mem hil)).1 y1 hlt⟩
          have hji : (j : Int) < (m : Int) := by omega
          have hj0 : (0 : Int) ≤ (j : Int) := by omega
          obtain ⟨y, hy⟩ : ∃ y, H[j] = y := ⟨_, rfl⟩
          rw [hy] at C d1 d2 HPREV HPN hsz0 hpq2
          obtain ⟨z, hz'⟩ : ∃ z, (gam y).length = z := ⟨_, rfl⟩
          rw [hz'] at C d2 HPREV HPN hsz0 hpq2
          have hz2 : (z : Int) % 2 = 1 := by omega
          dsimp only at C
          clear hc1 hc2 hug hat hpn hy hz' hsz0 r1 r2 y0 y1 hbl htl
          go_wp2_with fail
          refine C.mono ?_
          clear C
          rintro e w5 ⟨rfl, hR⟩
          have B5 := hR.1
          have hb5 := hR.below (B := g) (by omega) (Nat.le_refl _)
          have hb45 := hbw4.trans hb5
          have d1 := (hb5.cell (p := ⟨b1, o1 + j, none⟩) hb1).trans d1
          have d2 := (hb5.cell (p := ⟨b2, o2 + j, none⟩) hb2).trans d2
          clear hR
          rcases Nat.eq_zero_or_pos j with hj00 | hjp
          · subst hj00
            clear HPREV hb5
            have hb45' := fun nq => hb45.drewN_ nq
            simp only [Nat.add_zero] at d1 d2
            go_wp2_with fail
            go_quiet (fail)
            go_wp2
            go_roundw
            case rel => exact ⟨0 + 1, p + z, by omega, by go_num, by rw [HPN.out], by omega, Blk.drewN B5 _, Below.drewN_ hb45 _⟩
            case measure => simp [intOf]; omega
          · obtain ⟨i, rfl⟩ : ∃ i, j = i + 1 := ⟨j - 1, by omega⟩
            obtain ⟨u, v, f1, f2, huv⟩ := HPREV i rfl
            have f1 := (hb5.cell (p := ⟨b1, o1 + i, none⟩) hb1).trans f1
            have f2 := (hb5.cell (p := ⟨b2, o2 + i, none⟩) hb2).trans f2
            have hca : (i : Int) + 1 - 1 = (i : Int) := by omega
            have hip : (0 : Int) < (i : Int) + 1 := by omega
            have hii : (i : Int) < (m : Int) := by omega
            have hi0 : (0 : Int) ≤ (i : Int) := by omega
            by_cases hlt2 : u < y
            · have hu1 : (u : Int) < (y : Int) := by omega
              have hv1 : ¬ (z : Int) < (v : Int) := by have := huv hlt2; omega
              clear HPREV hb5 huv hlt2
              go_wp2_with fail
              go_quiet (fail)
              go_wp2
              go_roundw
              case rel => exact ⟨i + 1 + 1, p + z, by omega, by go_num, by rw [HPN.out], by omega, Blk.drewN B5 _, Below.drewN_ hb45 _⟩
              case measure => simp [intOf]; omega
            · have hu1 : ¬ (u : Int) < (y : Int) := by omega
              have hu2 : (y : Int) ≤ (u : Int) := by omega
              have hu3 : decide ((u : Int) < (y : Int)) = false := decide_eq_false hu1
              have hu4 : y ≤ u := by omega
              clear HPREV hb5 huv
              go_wp2_with fail
              first | go_big_quiet (fail) | (trace_state; fail)
              go_wp2
              go_roundw
              case rel => exact ⟨i + 1 + 1, p + z, by omega, by go_num, by rw [HPN.out], by omega, Blk.drewN B5 _, Below.drewN_ hb45 _⟩
              case measure => simp [intOf]; omega
        · obtain rfl : j = m := by omega
          have hfull : H.take j = H := List.take_of_length_le (by omega)
          have hdn := done_at (s := tx) (pre := gams H) hkr HT.out
          have hpe : p = (gams H).length := by rw [HP.out, hfull]
          rw [← hpe] at hdn
          rw [List.length_replicate] at hbl
          clear hfull hpe r1 r2
          go_wp2_with fail
          refine (Done_eq bR (by omega) (by omega) true hdn).mono ?_
          rintro e w5 ⟨rfl, nq, rfl⟩
          have HB5 := (HB4.trans (hbw4.mono hg1)).drewN_ nq
          go_wp2_with fail
          refine (awake_any _).mono ?_
          rintro e w7 ⟨rfl, hb7⟩
          go_wp2_with fail
          go_ret
          exact ⟨rfl, HB5.trans (hb7.mono HB5.size)⟩
end BitW
end Go.Proofs.Ytnghmcadhjneeaa
