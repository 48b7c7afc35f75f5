/- Walks over the laws of package bits: some fixed answers. -/
import Derived.Test.YtnghmcadhjneeaaBitX
import Derived.Test.YtnghmcadhjneeaaBitY
import Derived.Test.YtnghmcadhjneeaaBitN
namespace Go.Proofs.Ytnghmcadhjneeaa
set_option linter.unusedVariables false
set_option linter.unusedSimpArgs false
set_option linter.unnecessarySimpa false
open Go.RowKit
namespace BitW

theorem Wr.below {w w' : World} {base g : Nat} {ab : Option Nat} {l : List Nat} (h : Wr w base g ab l) (hb : Below w.heap.size w w') : Wr w' base g ab l := by
  obtain ⟨⟨A, nb, c, bs, r, k, bG, o, hab, hk, hr, e⟩, hgb⟩ := h
  exact ⟨⟨A, nb, c, bs, r, k, bG.below hb bG.lt, o.below hb, hab, hk, hr, e⟩, hgb⟩
theorem Wr.blk {w : World} {base g : Nat} {ab : Option Nat} {l : List Nat} (h : Wr w base g ab l) : g < w.heap.size ∧ ∀ k, ab = some k → base ≤ k ∧ k < w.heap.size := by
  obtain ⟨⟨A, nb, c, bs, r, k, bG, o, hab, hk, hr, e⟩, hgb⟩ := h
  exact ⟨bG.lt, fun k hk => o.blk k (hab.trans hk)⟩
theorem Wr.other {w w' : World} {base g k : Nat} {ab : Option Nat} {l : List Nat} (h : Wr w base g ab l) (hg : w.grownBy w' (some k)) (h1 : g ≠ k) (h2 : ab ≠ some k) : Wr w' base g ab l := by
  obtain ⟨⟨A, nb, c, bs, r, k', bG, o, hab, hk, hr, e⟩, hgb⟩ := h
  exact ⟨⟨A, nb, c, bs, r, k', bG.grown hg (by simpa using h1), o.grown hg (.inr (by rw [hab]; exact h2)), hab, hk, hr, e⟩, hgb⟩
theorem RLeft.below {w w' : World} {g B : Nat} {s : List UInt8} {p : Nat} (h : RLeft w w' g s p) (hB : B ≤ w.heap.size) (hg : B ≤ g) : Below B w w' :=
  (Below.refl B w).grown h.2 hB (fun k hk => by cases hk; exact hg)
theorem Len_eq {base g : Nat} {ab : Option Nat} {l : List Nat} {w : World} (h : Wr w base g ab l) (n : Nat) (hn : l.length = n) (h2 : n ≤ 1000000) :
    Calls Try.prog 26 #[.pointer (some ⟨g, 0, none⟩)] w fun e w' => e = .returned (.int .i64 (n : Nat)) ∧ ∃ nq, w' = w.drewN nq := hn ▸ len_any base g ab l w h (by omega)
theorem Text_eq {base g : Nat} {ab : Option Nat} {l : List Nat} {w : World} (h : Wr w base g ab l) (t : List UInt8) (ht : textB l = t) (h2 : l.length ≤ 1000000) :
    Calls Try.prog 27 #[.pointer (some ⟨g, 0, none⟩)] w fun e w' => e = .returned (str t) ∧ Below w.heap.size w w' := ht ▸ text_any base g ab l w h h2
theorem Left_eq {g : Nat} {s : List UInt8} {p : Nat} {w : World} (h : Blk w g 105 (rdr s p)) (hp : p ≤ 8 * s.length) (hs : s.length ≤ 1000000) (n : Nat) (hn : 8 * s.length - p = n) :
    Calls Try.prog 58 #[.pointer (some ⟨g, 0, none⟩)] w fun e w' => e = .returned (.int .i64 (n : Int)) ∧ ∃ nq, w' = w.drewN nq := hn ▸ left_any g s p w h hp hs
theorem Done_eq {g : Nat} {s : List UInt8} {p : Nat} {w : World} (h : Blk w g 105 (rdr s p)) (hp : p ≤ 8 * s.length) (hs : s.length ≤ 1000000) (b : Bool) (hb : doneB s p = b) :
    Calls Try.prog 31 #[.pointer (some ⟨g, 0, none⟩)] w fun e w' => e = .returned (.bool b) ∧ ∃ nq, w' = w.drewN nq := hb ▸ done_any g s p w h hp hs

set_option maxRecDepth 100000 in
set_option maxHeartbeats 4000000 in
theorem awake_any (w : World) :
    Calls Try.prog 16 #[] w fun e w' => e = .returned (.bool true) ∧ Below w.heap.size w w' := by
  go_enter Try.func16, Try.ntmps16
  go_wp2_with fail
  have HB := (Below.refl w.heap.size w).alloc (Nat.le_refl _) (.cells (fcells [(5, 3), (1, 2)]).toArray 49)
  have r1 := rd_new (W0 := w) (t := 49) (cs := fcells [(5, 3), (1, 2)]) (size := 2) (m := 2) rfl rfl
  refine (pack_any (some ⟨w.heap.size, 0, none⟩) 2 2 [(5, 3), (1, 2)] _ (r1.more (by simp)) (by intro f hf; simp at hf; rcases hf with rfl | rfl <;> (unfold I64; omega)) (by omega) ([168], 0) (by decide +kernel)).mono ?_
  rintro e w1 ⟨rfl, hb1⟩
  replace HB := HB.trans (hb1.mono HB.size)
  clear hb1 r1
  go_wp2_with fail
  replace HB := HB.alloc HB.size (.cells (ints [3, 2]).toArray 3)
  have r2 := rd_new (W0 := w1) (t := 3) (cs := ints [3, 2]) (size := 1) (m := 2) rfl rfl
  refine (unpack_any [168] (some ⟨w1.heap.size, 0, none⟩) 2 2 [3, 2] _ (r2.more (by simp)) (by decide) (by omega) ([5, 1], 5, 0) (by decide +kernel)).mono ?_
  rintro e w2 ⟨A2, n2, c2, rfl, hc2, o2, hb2⟩
  replace HB := HB.trans (hb2.mono HB.size)
  clear hb2 r2
  obtain rfl : 2 = n2 := rd_len o2
  go_wp2_with fail
  have zz := HB.size
  have HB3 := HB.alloc HB.size (.cells #[.slice none 0 0, .int .u64 0, .int .i64 0] 47)
  have W3 := Wr.fresh w2
  have o3 := (o2.below ((Below.refl w2.heap.size w2).alloc (Nat.le_refl _) (.cells #[.slice none 0 0, .int .u64 0, .int .i64 0] 47)))
  clear o2
  refine (Gamma_yes (w2.heap.size + 1) w2.heap.size none [] 5 _ (by decide) (by unfold I64; omega) W3 (by decide) (by simp)).mono ?_
  rintro e w4 ⟨rfl, ab, hP⟩
  have hb4 := hP.frame.below (B := w2.heap.size) (by simp) (Nat.le_refl _) (by intro k hk; cases hk)
  replace o3 := o3.below hb4
  have HB4 := HB3.trans (hb4.mono zz)
  have W4 := hP.wr
  have z4 := hP.frame.size
  rw [World.size_alloc] at z4
  have e4 : [] ++ gam (5 : Int).toNat = [0, 0, 1, 0, 1] := by decide +kernel
  rw [e4] at W4
  clear hP hb4 HB3 W3 HB
  go_wp2_with fail
  refine (new_any [40] _).mono ?_
  rintro e w5 ⟨rfl, hw5⟩
  have HB5 := HB4.alloc HB4.size (.cells (rdr [40] 0) 105)
  have B5 := Blk.new w4 105 (rdr [40] 0)
  have hb5 := (Below.refl w4.heap.size w4).alloc (Nat.le_refl _) (.cells (rdr [40] 0) 105)
  have W5 := W4.below hb5
  have hWb := W4.blk
  have o5 := o3.below (hb5.mono (by omega))
  rw [← hw5] at HB5 B5 W5 o5
  have z5 : w5.heap.size = w4.heap.size + 1 := by rw [hw5, World.size_alloc]
  generalize hg : w4.heap.size = g at *
  clear hw5 HB4 hb5 W4 o3
  go_wp2_with fail
  refine (gamma_any g [40] 0 _ B5 (by decide) (by decide) (5, 0, 5) (by decide +kernel)).mono ?_
  rintro e w6 ⟨rfl, hR⟩
  have hab : ab ≠ some g := fun e => by have := (hWb.2 g e).2; omega
  have W6 := W5.other hR.2 (by omega) hab
  have hb6 := hR.below (B := g) (by omega) (Nat.le_refl _)
  have hb6' := hR.2
  have B6 := hR.1
  have z6 := hb6.size
  dsimp only at B6
  simp only [Nat.zero_add] at B6
  clear hR
  go_wp2_with fail
  refine (get_any g [40] 5 4 _ B6 (by decide) (by decide) (0, 4) (by decide +kernel)).mono ?_
  rintro e w7 ⟨rfl, hR⟩
  have W7 := W6.other hR.2 (by omega) hab
  have B7 := hR.1
  simp only [show ¬ ((0, 4) : Int × Int).2 = 0 from by decide, if_false] at B7
  have hb7 := hR.below (B := g) (by omega) (Nat.le_refl _)
  have z7 := hb7.size
  have HB7 := (HB5.trans (hb6.mono (by omega))).trans (hb7.mono (by omega))
  have o7 := (o5.below (hb6.mono (by omega))).below (hb7.mono (by omega))
  clear hR hb6 hb7 hb6' o5 HB5 B6 W6 W5 B5
  obtain ⟨b, o, rfl, hb, hc⟩ := rd_ints o7 (by omega)
  have d0 := hc 0 (by decide)
  have d1 := hc 1 (by decide)
  dsimp only [List.getElem_cons_zero, List.getElem_cons_succ] at d0 d1
  simp only [Nat.add_zero] at d0 d1
  clear hc
  go_wp2_with fail
  refine (Len_eq W7 5 rfl (by decide)).mono ?_
  rintro e w8 ⟨rfl, nq, rfl⟩
  have W8 := W7.below ((Below.refl _ w7).drewN_ nq)
  have B8 := B7.drewN nq
  have HB8 := HB7.drewN_ nq
  clear W7
  generalize hw8 : w7.drewN nq = w8 at *
  have z8 : w8.heap.size = w7.heap.size := by rw [← hw8]; rfl
  clear hw8
  go_wp2_with fail
  refine (Text_eq W8 [40] (by decide +kernel) (by decide)).mono ?_
  rintro e w9 ⟨rfl, hb9⟩
  have B9 := B8.below hb9 B8.lt
  have HB9 := HB8.trans (hb9.mono HB8.size)
  go_wp2_with fail
  refine (Left_eq B9 (by decide) (by decide) 3 (by decide)).mono ?_
  rintro e w10 ⟨rfl, nq2, rfl⟩
  have B10 := B9.drewN nq2
  have HB10 := HB9.drewN_ nq2
  go_wp2_with fail
  refine (Done_eq B10 (by decide) (by decide) true (by decide +kernel)).mono ?_
  rintro e w11 ⟨rfl, nq3, rfl⟩
  have HB11 := HB10.drewN_ nq3
  go_wp2_with fail
  go_ret
  exact ⟨rfl, HB9.drewN_ _⟩
end BitW
end Go.Proofs.Ytnghmcadhjneeaa
