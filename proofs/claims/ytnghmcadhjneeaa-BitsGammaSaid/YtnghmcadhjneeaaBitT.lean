/- Walks over package bits: Unpack. -/
import Derived.Test.YtnghmcadhjneeaaBitS
namespace Go.Proofs.Ytnghmcadhjneeaa
set_option linter.unusedVariables false
set_option linter.unusedSimpArgs false
set_option linter.unnecessarySimpa false
open Go.RowKit
namespace BitW

theorem El_i64 : El Try.prog 33 3 1 8 := El.mk' Try.underlying33 (z := .int .i64 0) (by kernel_rfl) rfl (by decide)
abbrev getF (g : Nat) : Value := .func (.func 57) #[.pointer (some ⟨g, 0, none⟩)] #[]
/-- What the closure's call needs and leaves. -/
structure Un (w : World) (B bf bl be g base : Nat) (s : List UInt8) (p : Nat) (A : Option Addr) (n c : Nat) (acc : List Int) (er : Int) : Prop where
  bF : Blk w bf 102 #[getF g]
  bL : Blk w bl 33 #[.slice A n c]
  bE : Blk w be 27 #[.int .i64 er]
  bR : Blk w g 105 (rdr s p)
  o : Own w base 3 1 A n c (ints acc)
  hp : p ≤ 8 * s.length
  h1 : bf < base
  h2 : bl < base
  h3 : be < base
  h4 : g < base
  h5 : base ≤ w.heap.size
  d1 : bf ≠ bl ∧ bf ≠ be ∧ bf ≠ g ∧ bl ≠ be ∧ bl ≠ g ∧ be ≠ g
  b1 : B ≤ bf ∧ B ≤ bl ∧ B ≤ be ∧ B ≤ g
set_option maxRecDepth 100000 in
set_option maxHeartbeats 2000000 in
theorem one_no (B bf bl be g base : Nat) (s : List UInt8) (p : Nat) (A : Option Addr) (n c : Nat) (acc : List Int) (er width : Int) (w : World) (h : Un w B bf bl be g base s p A n c acc er) (hs : s.length ≤ 1000000) (v : Int × Int) (hv : getB (bitsB s) p width = v) (he : v.2 ≠ 0) :
    Calls Try.prog 59 #[.int .i64 width, .pointer (some ⟨bf, 0, none⟩), .pointer (some ⟨bl, 0, none⟩), .pointer (some ⟨be, 0, none⟩)] w fun e w' => e = .returned (.bool false) ∧ Un w' B bf bl be g base s p A n c acc v.2 ∧ Below B w w' := by
  obtain ⟨bF, bL, bE, bR, o, hp, h1, h2, h3, h4, h5, ⟨d1, d2, d3, d4, d5, d6⟩, b1, b2, b3, b4⟩ := h
  have C := get_any g s p width w bR hp hs v hv
  rw [if_neg he] at C
  have heI : (v.2 == 0) = false := by simpa using he
  obtain ⟨fc, ff, fz⟩ := blk1 bF
  clear hv he
  obtain ⟨v1, v2⟩ := v
  go_enter Try.func59, Try.ntmps59
  go_wp2_with fail
  refine C.mono ?_
  clear C
  rintro e w1 ⟨rfl, bR1, hg⟩
  have bF1 := bF.grown hg (by simpa using d3)
  have bL1 := bL.grown hg (by simpa using d5)
  have bE1 := bE.grown hg (by simpa using d6)
  have o1 := o.grown hg (.inr fun e => by have := (o.blk _ e).1; omega)
  have hb1 : Below B w w1 := Below.grown (Below.refl B w) hg (by omega) (fun k hk => by simp at hk; omega)
  have hsz := hg.size
  clear bF bL bE bR o hg fc ff
  have bE1' := bE1
  obtain ⟨ec, ef, ez⟩ := blk1 bE1'
  clear bE1'
  go_wp2_with fail
  go_ret
  exact ⟨rfl, ⟨bF1.far (by show bf ≠ be; exact d2) _, bL1.far (by show bl ≠ be; exact d4) _, bE1.set 0 _, bR1.far (by show g ≠ be; exact fun e => d6 e.symm) _, o1.far (fun e => by have := (o1.blk _ e).1; dsimp only at this; omega) _, hp, h1, h2, h3, h4, by simp [World.setCell]; omega, ⟨d1, d2, d3, d4, d5, d6⟩, b1, b2, b3, b4⟩, hb1.setCell (by show B ≤ be; exact b3) _⟩
set_option maxRecDepth 100000 in
set_option maxHeartbeats 2000000 in
theorem one_yes (B bf bl be g base : Nat) (s : List UInt8) (p : Nat) (A : Option Addr) (n c : Nat) (acc : List Int) (er width : Int) (w : World) (h : Un w B bf bl be g base s p A n c acc er) (hs : s.length ≤ 1000000) (hn : n ≤ 1000000) (v : Int × Int) (hv : getB (bitsB s) p width = v) (he : v.2 = 0) (hpw : p + width.toNat ≤ 8 * s.length) :
    Calls Try.prog 59 #[.int .i64 width, .pointer (some ⟨bf, 0, none⟩), .pointer (some ⟨bl, 0, none⟩), .pointer (some ⟨be, 0, none⟩)] w fun e w' => e = .returned (.bool true) ∧ ∃ A' c', Un w' B bf bl be g base s (p + width.toNat) A' (n + 1) c' (acc ++ [v.1]) 0 ∧ Below B w w' := by
  obtain ⟨bF, bL, bE, bR, o, hp, h1, h2, h3, h4, h5, ⟨d1, d2, d3, d4, d5, d6⟩, b1, b2, b3, b4⟩ := h
  have C := get_any g s p width w bR hp hs v hv
  rw [if_pos he] at C
  obtain ⟨v1, v2⟩ := v
  dsimp only at he
  subst he
  obtain ⟨fc, ff, fz⟩ := blk1 bF
  clear hv
  go_enter Try.func59, Try.ntmps59
  go_wp2_with fail
  refine C.mono ?_
  clear C
  rintro e w1 ⟨rfl, bR1, hg⟩
  have bF1 := bF.grown hg (by simpa using d3)
  have bL1 := bL.grown hg (by simpa using d5)
  have bE1 := bE.grown hg (by simpa using d6)
  have o1 := o.grown hg (.inr fun e => by have := (o.blk _ e).1; omega)
  have hb1 : Below B w w1 := Below.grown (Below.refl B w) hg (by omega) (fun k hk => by simp at hk; omega)
  have hsz := hg.size
  clear bF bL bE bR o hg fc ff
  have bL1' := bL1
  obtain ⟨lc, lf, lz⟩ := blk1 bL1'
  clear bL1'
  have hne : ∀ b, b < base → some b ≠ blkOf A := fun b hb e => by have := (o1.blk b e.symm).1; omega
  have d4' : be ≠ bl := fun e => d4 e.symm
  have hrn : Rd (w1.alloc (.cells #[.int .i64 v1] 3)) (w1.heap.size + 1) 1 (some ⟨w1.heap.size, 0, none⟩) 1 (ints [v1]) := rd_new (W0 := w1) (t := 3) (cs := ints [v1]) (size := 1) (m := 1) rfl rfl
  go_wp2_with (at_builtin; with_reducible refine wp_append El_i64 rfl (s := .tmp 16) (x := .tmp 18) rfl rfl (o1.alloc _) rfl hrn (ints_one _) (by unfold maxLen; omega) (by omega) (by simp; omega) ?_; intro A4 c4 w4 o4 hg4 hat4; clear hrn; have hbLx := (bL1.alloc (.cells #[.int .i64 v1] 3)).grown hg4 (hne _ h2); have hbEx := (bE1.alloc (.cells #[.int .i64 v1] 3)).grown hg4 (hne _ h3); obtain ⟨lcx, lfx, lzx⟩ := blk1 hbLx; obtain ⟨ecx, efx, ezx⟩ := blk1 hbEx)
  have bF4 := (bF1.alloc (.cells #[.int .i64 v1] 3)).grown hg4 (hne _ h1)
  have bL4 := (bL1.alloc (.cells #[.int .i64 v1] 3)).grown hg4 (hne _ h2)
  have bE4 := (bE1.alloc (.cells #[.int .i64 v1] 3)).grown hg4 (hne _ h3)
  have bR4 := (bR1.alloc (.cells #[.int .i64 v1] 3)).grown hg4 (hne _ h4)
  have hb4 : Below B w w4 := Below.grown (hb1.alloc (by omega) _) hg4 (by simp; omega) (fun k hk => by have := (o1.blk k hk).1; omega)
  have hs4 := hg4.size
  rw [World.size_alloc] at hs4
  have e1 : ints acc ++ ints [v1] = ints (acc ++ [v1]) := by simp [ints]
  rw [e1] at o4
  have bE5 := bE4.far (p := ⟨bl, 0, none⟩) (by show be ≠ bl; exact d4') (.slice A4 (n + 1) c4)
  go_ret
  refine ⟨rfl, A4, c4, ⟨(bF4.far (by show bf ≠ bl; exact d1) _).far (by show bf ≠ be; exact d2) _, (bL4.set 0 _).far (by show bl ≠ be; exact d4) _, bE5.set 0 _, (bR4.far (by show g ≠ bl; exact fun e => d5 e.symm) _).far (by show g ≠ be; exact fun e => d6 e.symm) _,
    (o4.far (fun e => by have := (o4.blk _ e).1; dsimp only at this; omega) _).far (fun e => by have := (o4.blk _ e).1; dsimp only at this; omega) _, hpw, h1, h2, h3, h4, by simp [World.setCell]; omega, ⟨d1, d2, d3, d4, d5, d6⟩, b1, b2, b3, b4⟩, (hb4.setCell (by show B ≤ bl; exact b2) _).setCell (by show B ≤ be; exact b3) _⟩
end BitW
end Go.Proofs.Ytnghmcadhjneeaa
