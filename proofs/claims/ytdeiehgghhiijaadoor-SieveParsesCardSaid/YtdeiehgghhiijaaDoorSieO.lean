/- Walks of the reference of package sieve: the parts in memory; a part more. -/
import Derived.Test.YtdeiehgghhiijaaDoorSieN
import Derived.Test.YtdeiehgghhiijaaDoorOpen
import Derived.Test.YtdeiehgghhiijaaDoorSieV
namespace Go.Proofs.YtdeiehgghhiijaaDoor
set_option linter.unusedVariables false
set_option linter.unusedSimpArgs false
set_option linter.unnecessarySimpa false
open Go.RowKit
namespace SieW

theorem El_part : El Tryd.prog 27 75 5 72 := El.mk' Tryd.underlying27 (z := .agg (pv [] 0 0 [] (.slice none 0 0))) (by kernel_rfl) rfl (by decide)
theorem El_of : El Tryd.prog 73 3 1 8 := El.mk' Tryd.underlying73 (z := .int .i64 0) (by kernel_rfl) rfl (by decide)
def nats (l : List Nat) : List Value := ints (l.map Int.ofNat)
theorem nats_len (l : List Nat) : (nats l).length = l.length := by simp [nats, ints_len]
theorem nats_one (l : List Nat) : ∀ u ∈ nats l, u.oneCell' = true := ints_one _
theorem nats_app (a b : List Nat) : nats (a ++ b) = nats a ++ nats b := by simp [nats, ints]
theorem nats_at (l : List Nat) (i : Nat) (h : i < l.length) : (nats l)[i]? = some (.int .i64 (l[i] : Nat)) := by simp [nats, ints, h]
/-- A row in blocks that S lets in. -/
def RdS (w : World) (S : Nat → Prop) (size : Nat) (A : Option Addr) (n : Nat) (xs : List Value) : Prop :=
  xs.length = n * size ∧ (0 < n → ∃ b o, A = some ⟨b, o, none⟩ ∧ S b ∧ b < w.heap.size ∧ ∀ j (h : j < xs.length), w.cell? ⟨b, o + j, none⟩ = some xs[j])
theorem RdS.rd {w : World} {S : Nat → Prop} {size n : Nat} {A : Option Addr} {xs : List Value} (h : RdS w S size A n xs) : Rd w w.heap.size size A n xs :=
  ⟨h.1, fun hn => by obtain ⟨b, o, h1, h2, h3, h4⟩ := h.2 hn; exact ⟨b, o, h1, h3, h4⟩⟩
theorem RdS.keep {w w' : World} {S S' : Nat → Prop} {size n : Nat} {A : Option Addr} {xs : List Value} (h : RdS w S size A n xs) (hk : ∀ b, S b → b < w.heap.size → w'.heap[b]? = w.heap[b]? ∧ S' b) : RdS w' S' size A n xs :=
  ⟨h.1, fun hn => by
    obtain ⟨b, o, h1, h2, h3, h4⟩ := h.2 hn
    obtain ⟨k1, k2⟩ := hk b h2 h3
    exact ⟨b, o, h1, k2, NdV.lt_of h3 k1, fun j hj => (cell_same k1 _).trans (h4 j hj)⟩⟩
theorem RdS.of_own {w : World} {S : Nat → Prop} {base e size n c : Nat} {A : Option Addr} {xs : List Value} (h : Own w base e size A n c xs) (hS : ∀ b, base ≤ b → b < w.heap.size → S b) : RdS w S size A n xs := by
  have hA := h.blk
  refine ⟨h.len, fun hn => ?_⟩
  obtain ⟨b, o, h1, h2, h3⟩ := h.rd.at_ hn
  obtain ⟨k1, k2⟩ := hA b (by rw [h1]; rfl)
  exact ⟨b, o, h1, hS b k1 k2, k2, h3⟩
theorem RdS.nil (w : World) (S : Nat → Prop) (size : Nat) (A : Option Addr) : RdS w S size A 0 [] := ⟨by simp, fun h => absurd h (by omega)⟩
/-- The numbers of a part's own parts, as they lie in memory. -/
def OfAt (w : World) (S : Nat → Prop) (v : Value) (l : List Nat) : Prop := ∃ A n c, v = .slice A n c ∧ n ≤ c ∧ c ≤ maxLen ∧ RdS w S 1 A n (nats l)
theorem OfAt.keep {w w' : World} {S S' : Nat → Prop} {v : Value} {l : List Nat} (h : OfAt w S v l) (hk : ∀ b, S b → b < w.heap.size → w'.heap[b]? = w.heap[b]? ∧ S' b) : OfAt w' S' v l := by
  obtain ⟨A, n, c, rfl, h1, h2, h3⟩ := h
  exact ⟨A, n, c, rfl, h1, h2, h3.keep hk⟩
theorem OfAt.nil (w : World) (S : Nat → Prop) : OfAt w S (.slice none 0 0) [] := ⟨none, 0, 0, rfl, Nat.le_refl _, Nat.zero_le _, RdS.nil _ _ _ _⟩
theorem OfAt.one {w : World} {S : Nat → Prop} {v : Value} {l : List Nat} (h : OfAt w S v l) : v.oneCell' = true := by obtain ⟨A, n, c, rfl, _⟩ := h; rfl
/-- A part and its numbers' value. -/
abbrev RV := RP × Value
def pcell (x : RV) : List Value := [str x.1.word, .int .i64 x.1.lo, .int .i64 x.1.hi, str x.1.what, x.2]
def plc (l : List RV) : List Value := l.flatMap pcell
theorem plc_len (l : List RV) : (plc l).length = l.length * 5 := flat_len pcell 5 l (fun x _ => rfl)
theorem plc_app (a b : List RV) : plc (a ++ b) = plc a ++ plc b := by simp [plc]
theorem plc_at (l : List RV) (k j : Nat) (hk : k < l.length) (hj : j < 5) : (plc l)[k * 5 + j]? = (pcell l[k])[j]? := flat_get pcell 5 l (fun x _ => rfl) k j hk hj
/-- The parts, as they lie in memory, in blocks that S lets in. -/
def PsAt (w : World) (S : Nat → Prop) (A : Option Addr) (n : Nat) (ps : List RP) : Prop :=
  ∃ pl : List RV, pl.map (·.1) = ps ∧ RdS w S 5 A n (plc pl) ∧ ∀ x ∈ pl, OfAt w S x.2 x.1.of_
theorem PsAt.len {w : World} {S : Nat → Prop} {A : Option Addr} {n : Nat} {ps : List RP} (h : PsAt w S A n ps) : ps.length = n := by
  obtain ⟨pl, rfl, h1, _⟩ := h
  have := h1.1
  rw [plc_len] at this
  simp; omega
theorem PsAt.keep {w w' : World} {S S' : Nat → Prop} {A : Option Addr} {n : Nat} {ps : List RP} (h : PsAt w S A n ps) (hk : ∀ b, S b → b < w.heap.size → w'.heap[b]? = w.heap[b]? ∧ S' b) : PsAt w' S' A n ps := by
  obtain ⟨pl, h0, h1, h2⟩ := h
  exact ⟨pl, h0, h1.keep hk, fun x hx => (h2 x hx).keep hk⟩
theorem PsAt.below {w w' : World} {S : Nat → Prop} {A : Option Addr} {n : Nat} {ps : List RP} (h : PsAt w S A n ps) (hb : Below w.heap.size w w') : PsAt w' (fun b => S b ∧ b < w.heap.size) A n ps :=
  h.keep fun b h1 h2 => ⟨hb.block b h2, h1, h2⟩
theorem PsAt.wide {w : World} {S S' : Nat → Prop} {A : Option Addr} {n : Nat} {ps : List RP} (h : PsAt w S A n ps) (hS : ∀ b, S b → b < w.heap.size → S' b) : PsAt w S' A n ps :=
  h.keep fun b h1 h2 => ⟨rfl, hS b h1 h2⟩
theorem PsAt.nil (w : World) (S : Nat → Prop) : PsAt w S none 0 [] := ⟨[], rfl, RdS.nil _ _ _ _, fun x hx => by cases hx⟩
/-- A block's cells are set: what does not lie there stays. -/
theorem PsAt.set3 {w : World} {S : Nat → Prop} {A : Option Addr} {n g : Nat} {ps : List RP} {a b c : Value} (h : PsAt w S A n ps) (hg : ∀ b, S b → b ≠ g) :
    PsAt (((w.setCell ⟨g, 0, none⟩ a).setCell ⟨g, 1, none⟩ b).setCell ⟨g, 2, none⟩ c) S A n ps :=
  h.keep fun k h1 h2 => ⟨by
    have hn := hg k h1
    rw [Below.heap_setCell _ ⟨g, 2, none⟩ _ k hn, Below.heap_setCell _ ⟨g, 1, none⟩ _ k hn, Below.heap_setCell _ ⟨g, 0, none⟩ _ k hn], h1⟩
theorem plc_one {l : List RV} (h : ∀ x ∈ l, x.2.oneCell' = true) : ∀ u ∈ plc l, u.oneCell' = true := by
  intro u hu
  simp only [plc, List.mem_flatMap] at hu
  obtain ⟨x, hx, hu⟩ := hu
  simp only [pcell, List.mem_cons, List.not_mem_nil, or_false] at hu
  rcases hu with rfl | rfl | rfl | rfl | rfl
  · rfl
  · rfl
  · rfl
  · rfl
  · exact h x hx
theorem blk3_set {w : World} {g : Nat} {t : TypeId} {a b c a' b' c' : Value} (h : Blk w g t #[a, b, c]) :
    Blk (((w.setCell ⟨g, 0, none⟩ a').setCell ⟨g, 1, none⟩ b').setCell ⟨g, 2, none⟩ c') g t #[a', b', c'] := blk_eq (((h.set 0 a').set 1 b').set 2 c') (by simp)
theorem below3 {B : Nat} {w w1 : World} {g : Nat} {a' b' c' : Value} (h : Below B w w1) (hg : B ≤ g) :
    Below B w (((w1.setCell ⟨g, 0, none⟩ a').setCell ⟨g, 1, none⟩ b').setCell ⟨g, 2, none⟩ c') :=
  ((h.setCell (p := ⟨g, 0, none⟩) hg _).setCell (p := ⟨g, 1, none⟩) hg _).setCell (p := ⟨g, 2, none⟩) hg _
theorem own_far3 {w : World} {base e size n c g : Nat} {A : Option Addr} {xs : List Value} {a b d : Value} (h : Own w base e size A n c xs) (hg : g < base) :
    Own (((w.setCell ⟨g, 0, none⟩ a).setCell ⟨g, 1, none⟩ b).setCell ⟨g, 2, none⟩ d) base e size A n c xs := by
  have hA := h.blk
  have hn : ∀ (i : Nat), blkOf A ≠ some (⟨g, i, none⟩ : Addr).block := fun i e => by have := (hA _ e).1; dsimp only at this; omega
  exact ((h.far (hn 0) _).far (hn 1) _).far (hn 2) _
theorem pcell_one {p : RP} {v : Value} (h : v.oneCell' = true) : ∀ u ∈ pcell (p, v), u.oneCell' = true := by
  intro u hu
  simp only [pcell, List.mem_cons, List.not_mem_nil, or_false] at hu
  rcases hu with rfl | rfl | rfl | rfl | rfl
  · rfl
  · rfl
  · rfl
  · rfl
  · exact h
set_option maxRecDepth 100000 in
set_option maxHeartbeats 8000000 in
theorem add_any (A : Option Addr) (n c : Nat) (ps : List RP) (sz dp : Int) (p : RP) (v : Value) (w : World) (S : Nat → Prop) (h : PsAt w S A n ps) (hn : n ≤ 5000) (hc : n ≤ c) (hv : OfAt w S v p.of_) :
    Calls Tryd.prog 32 #[.agg #[.slice A n c, .int .i64 sz, .int .i64 dp], .agg (pv p.word p.lo p.hi p.what v)] w fun e w' =>
      ∃ A' c', e = .returned (.agg #[.slice A' (n + 1) c', .int .i64 sz, .int .i64 dp]) ∧ n + 1 ≤ c' ∧ c' ≤ maxLen ∧ PsAt w' (fun b => S b ∨ w.heap.size ≤ b) A' (n + 1) (ps ++ [p]) ∧ Below w.heap.size w w' := by
  obtain ⟨pl, hpl, rP0, hO⟩ := h
  have rP := rP0.rd
  clear rP0
  have HPL := Lib.hid hpl
  have HO := Lib.hid hO
  have HV := Lib.hid hv
  have hone := plc_one (fun x hx => (hO x hx).one)
  have hvo := hv.one
  clear hpl hO hv
  obtain ⟨B, hB⟩ : ∃ B, w.heap.size = B := ⟨_, rfl⟩
  have HBq := Lib.hid hB
  have HB := (((Below.refl w.heap.size w).alloc (Nat.le_refl _) (.cells #[.slice A n c, .int .i64 sz, .int .i64 dp] 29)).alloc (by simp) (.cells (pv p.word p.lo p.hi p.what v) 75)).alloc (by simp; omega) (.cells #[.slice none 0 0, .int .i64 0, .int .i64 0] 29)
  have b1 := ((Blk.new w 29 #[.slice A n c, .int .i64 sz, .int .i64 dp]).alloc (.cells (pv p.word p.lo p.hi p.what v) 75)).alloc (.cells #[.slice none 0 0, .int .i64 0, .int .i64 0] 29)
  have b2 := (Blk.new (w.alloc (.cells #[.slice A n c, .int .i64 sz, .int .i64 dp] 29)) 75 (pv p.word p.lo p.hi p.what v)).alloc (.cells #[.slice none 0 0, .int .i64 0, .int .i64 0] 29)
  have b3 := Blk.new ((w.alloc (.cells #[.slice A n c, .int .i64 sz, .int .i64 dp] 29)).alloc (.cells (pv p.word p.lo p.hi p.what v) 75)) 29 #[.slice none 0 0, .int .i64 0, .int .i64 0]
  simp only [World.size_alloc] at b2 b3
  obtain ⟨w0, hw0⟩ : ∃ w0, ((w.alloc (.cells #[.slice A n c, .int .i64 sz, .int .i64 dp] 29)).alloc (.cells (pv p.word p.lo p.hi p.what v) 75)).alloc (.cells #[.slice none 0 0, .int .i64 0, .int .i64 0] 29) = w0 := ⟨_, rfl⟩
  have hz0 : w0.heap.size = B + 1 + 1 + 1 := by rw [← hw0]; simp [hB]
  rw [hw0] at HB b1 b2 b3
  rw [hB] at HB b1 b2 b3 rP
  have rP0 := rP.below HB
  go_enter Tryd.func32, Tryd.ntmps32
  go_wp2_with fail
  have HBB : Below w0.heap.size w0 w0 := Below.refl _ _
  clear rP
  refine wp_region_held_drew (S := (fun w' => w'.cell? ⟨B + 1, 0, none⟩ = some (str p.word) ∧ w'.cell? ⟨B + 1, 1, none⟩ = some (.int .i64 p.lo) ∧ w'.cell? ⟨B + 1, 2, none⟩ = some (.int .i64 p.hi) ∧ w'.cell? ⟨B + 1, 3, none⟩ = some (str p.what) ∧ w'.cell? ⟨B + 1, 4, none⟩ = some v)) (by kernel_rfl) ?_ (fun hHeld => ?_)
  · replace HBB := Below.drew HBB; replace rP0 := Rd.drew rP0; replace b1 := Blk.drew b1; replace b2 := Blk.drew b2; replace b3 := Blk.drew b3; (try dsimp only); exact ⟨b2.cell_ 0 rfl, b2.cell_ 1 rfl, b2.cell_ 2 rfl, b2.cell_ 3 rfl, b2.cell_ 4 rfl⟩
  replace HBB := Below.drew HBB
  replace rP0 := Rd.drew rP0
  replace b1 := Blk.drew b1
  replace b2 := Blk.drew b2
  replace b3 := Blk.drew b3
  have zHBB := HBB.size
  refine take_op (v := ?vu1x1) 1 (Op.fieldAddr 29 (Operand.tmp 2) 0) 0 rfl rfl rfl rfl rfl (by kernel_rfl) (by kernel_rfl) (by kernel_rfl) (fun _ _ _ h => h) ?yu1x1 (by assumption) ?ru1x1
  case yu1x1 => (intro w' hSw; (try dsimp only at hSw); go_simp; try (with_reducible rfl))
  simp only [List.setIfInBounds_toArray, List.set_cons_zero, List.set_cons_succ]
  refine wpAnyH_ready (rs := [0, 2, 4]) (by kernel_rfl) (by simp) (AllReadyH.cons rfl (fun K0 hK0 => ?ku1x0) (AllReadyH.cons rfl (fun K2 hK2 => ?ku1x2) (AllReadyH.cons rfl (fun K4 hK4 => ?ku1x4) AllReadyH.nil)))
  case ku1x0 =>
    refine take_build (e := 75) (len := 0) (size := 5) (B + 1 + 1 + 1) ([]) 0 (Op.buildSlice 27 0 #[]) 27 rfl rfl rfl (by kernel_rfl) ?eu1xb1x0 (by rfl) (by decide) (by first | exact Nat.le_refl _ | (simp only [World.size_alloc, World.size_setCell, World.size_drew] at *; omega) | omega) ?_
    case eu1xb1x0 => (go_simp; try (first | with_reducible rfl | (simp [rcells, rcell]; done) | (simp [fcells]; done) | (simp [tcells]; done) | rfl))
    intro gx0 w0 o0 gr0 l0 m0
    have z0 := gr0.size
    try simp only [World.size_drew] at z0
    replace HBB := below_grow HBB gr0
    have zHBB0 := HBB.size
    replace rP0 := Rd.grow0 rP0 gr0 (by first | exact Nat.le_refl _ | (simp only [World.size_alloc, World.size_setCell, World.size_drew] at *; omega) | omega)
    replace b1 := Blk.grow0 b1 gr0
    replace b2 := Blk.grow0 b2 gr0
    replace b3 := Blk.grow0 b3 gr0
    refine hK0.out _ _ ?su1xb1x0 (fun hHeld => ?ru1xb1x0)
    case su1xb1x0 => ((try dsimp only); exact ⟨b2.cell_ 0 rfl, b2.cell_ 1 rfl, b2.cell_ 2 rfl, b2.cell_ 3 rfl, b2.cell_ 4 rfl⟩)
    try simp only [List.setIfInBounds_toArray, List.set_cons_zero, List.set_cons_succ]
    refine wpAnyH_ready (rs := [2, 4]) (by kernel_rfl) (by simp) (AllReadyH.cons rfl (fun K2 hK2 => ?ku1xb1x2) (AllReadyH.cons rfl (fun K4 hK4 => ?ku1xb1x4) AllReadyH.nil))
    case ku1xb1x2 =>
      refine take_any 2 (Op.load 27 (Operand.tmp 6)) 27 rfl rfl rfl (by kernel_rfl) (v := .slice A n c) (by have cL := b1.cell_ 0 rfl; go_simp; try (with_reducible rfl)) ?_
      refine hK2.out _ _ ?su1xb1xb2x2 (fun hHeld => ?ru1xb1xb2x2)
      case su1xb1xb2x2 => ((try dsimp only); exact ⟨b2.cell_ 0 rfl, b2.cell_ 1 rfl, b2.cell_ 2 rfl, b2.cell_ 3 rfl, b2.cell_ 4 rfl⟩)
      try simp only [List.setIfInBounds_toArray, List.set_cons_zero, List.set_cons_succ]
      refine wpAnyH_ready (rs := [3, 4]) (by kernel_rfl) (by simp) (AllReadyH.cons rfl (fun K3 hK3 => ?ku1xb1xb2x3) (AllReadyH.cons rfl (fun K4 hK4 => ?ku1xb1xb2x4) AllReadyH.nil))
      case ku1xb1xb2x3 =>
        refine take_app El_part 3 (Operand.tmp 5) (Operand.tmp 7) 27 rfl rfl rfl (by kernel_rfl) o0 rfl (rP0) rfl (hone) (by unfold maxLen; omega) (by omega) (by first | exact Nat.le_refl _ | (simp only [World.size_alloc, World.size_setCell, World.size_drew] at *; omega) | omega) ?_
        intro A3 c3 w3 o3 gr3 at3
        have z3 := gr3.size
        try simp only [World.size_drew] at z3
        replace HBB := below_grown HBB gr3 o0 (by first | exact Nat.le_refl _ | (simp only [World.size_alloc, World.size_setCell, World.size_drew] at *; omega) | omega)
        have zHBB3 := HBB.size
        replace rP0 := Rd.grownOwn rP0 gr3 o0 (by first | exact Nat.le_refl _ | (simp only [World.size_alloc, World.size_setCell, World.size_drew] at *; omega) | omega) (by first | exact Nat.le_refl _ | (simp only [World.size_alloc, World.size_setCell, World.size_drew] at *; omega) | omega)
        replace b1 := Blk.grown b1 gr3 (by intro e; have := o0.blk _ e.symm; omega)
        replace b2 := Blk.grown b2 gr3 (by intro e; have := o0.blk _ e.symm; omega)
        replace b3 := Blk.grown b3 gr3 (by intro e; have := o0.blk _ e.symm; omega)
        refine hK3.out _ _ ?su1xb1xb2xb3x3 (fun hHeld => ?ru1xb1xb2xb3x3)
        case su1xb1xb2xb3x3 => ((try dsimp only); exact ⟨b2.cell_ 0 rfl, b2.cell_ 1 rfl, b2.cell_ 2 rfl, b2.cell_ 3 rfl, b2.cell_ 4 rfl⟩)
        try simp only [List.setIfInBounds_toArray, List.set_cons_zero, List.set_cons_succ]
        refine wpAnyH_ready (rs := [4]) (by kernel_rfl) (by simp) (AllReadyH.cons rfl (fun K4 hK4 => ?ku1xb1xb2xb3x4) AllReadyH.nil)
        refine take_any 4 (Op.load 75 (Operand.tmp 3)) 75 rfl rfl rfl (by kernel_rfl) (v := .agg (pv p.word p.lo p.hi p.what v)) (by obtain ⟨d0, d1, d2, d3, d4, _⟩ := blk5 b2; go_simp; try (with_reducible rfl)) ?_
        refine hK4.out _ _ ?su1xb1xb2xb3x4 (fun hHeld => ?ru1xb1xb2xb3x4)
        case su1xb1xb2xb3x4 => ((try dsimp only); exact ⟨b2.cell_ 0 rfl, b2.cell_ 1 rfl, b2.cell_ 2 rfl, b2.cell_ 3 rfl, b2.cell_ 4 rfl⟩)
        try simp only [List.setIfInBounds_toArray, List.set_cons_zero, List.set_cons_succ]
        refine wpAnyH_ready (rs := [5]) (by kernel_rfl) (by simp) (AllReadyH.cons rfl (fun K5 hK5 => ?ku1xb1xb2xb3x5) AllReadyH.nil)
        refine take_build (e := 75) (len := 1) (size := 5) (B + 1 + 1 + 1) (pcell (p, v)) 5 (Op.buildSlice 27 1 #[(0, Operand.tmp 9)]) 27 rfl rfl rfl (by kernel_rfl) ?eu1xb1xb2xb3x5 (by rfl) (by decide) (by first | exact Nat.le_refl _ | (simp only [World.size_alloc, World.size_setCell, World.size_drew] at *; omega) | omega) ?_
        case eu1xb1xb2xb3x5 => (go_simp; try (first | with_reducible rfl | (simp [rcells, rcell]; done) | (simp [fcells]; done) | (simp [tcells]; done) | rfl))
        intro gx5 w5 o5 gr5 l5 m5
        have z5 := gr5.size
        try simp only [World.size_drew] at z5
        replace HBB := below_grow HBB gr5
        have zHBB5 := HBB.size
        replace rP0 := Rd.grow0 rP0 gr5 (by first | exact Nat.le_refl _ | (simp only [World.size_alloc, World.size_setCell, World.size_drew] at *; omega) | omega)
        replace b1 := Blk.grow0 b1 gr5
        replace b2 := Blk.grow0 b2 gr5
        replace b3 := Blk.grow0 b3 gr5
        replace o3 := Own.grow0 o3 gr5
        refine hK5.out _ _ ?su1xb1xb2xb3x5 (fun hHeld => ?ru1xb1xb2xb3x5)
        case su1xb1xb2xb3x5 => ((try dsimp only); exact ⟨b2.cell_ 0 rfl, b2.cell_ 1 rfl, b2.cell_ 2 rfl, b2.cell_ 3 rfl, b2.cell_ 4 rfl⟩)
        try simp only [List.setIfInBounds_toArray, List.set_cons_zero, List.set_cons_succ]
        refine wpAnyH_ready (rs := [6]) (by kernel_rfl) (by simp) (AllReadyH.cons rfl (fun K6 hK6 => ?ku1xb1xb2xb3x6) AllReadyH.nil)
        refine take_app El_part 6 (Operand.tmp 8) (Operand.tmp 10) 27 rfl rfl rfl (by kernel_rfl) o3 rfl (o5.rd) rfl (pcell_one hvo) (by unfold maxLen; omega) (by omega) (by first | exact Nat.le_refl _ | (simp only [World.size_alloc, World.size_setCell, World.size_drew] at *; omega) | omega) ?_
        intro A6 c6 w6 o6 gr6 at6
        have z6 := gr6.size
        try simp only [World.size_drew] at z6
        replace HBB := below_grown HBB gr6 o3 (by first | exact Nat.le_refl _ | (simp only [World.size_alloc, World.size_setCell, World.size_drew] at *; omega) | omega)
        have zHBB6 := HBB.size
        replace rP0 := Rd.grownOwn rP0 gr6 o3 (by first | exact Nat.le_refl _ | (simp only [World.size_alloc, World.size_setCell, World.size_drew] at *; omega) | omega) (by first | exact Nat.le_refl _ | (simp only [World.size_alloc, World.size_setCell, World.size_drew] at *; omega) | omega)
        replace b1 := Blk.grown b1 gr6 (by intro e; have := o3.blk _ e.symm; omega)
        replace b2 := Blk.grown b2 gr6 (by intro e; have := o3.blk _ e.symm; omega)
        replace b3 := Blk.grown b3 gr6 (by intro e; have := o3.blk _ e.symm; omega)
        refine hK6.out _ _ ?su1xb1xb2xb3x6 (fun hHeld => ?ru1xb1xb2xb3x6)
        case su1xb1xb2xb3x6 => ((try dsimp only); exact ⟨b2.cell_ 0 rfl, b2.cell_ 1 rfl, b2.cell_ 2 rfl, b2.cell_ 3 rfl, b2.cell_ 4 rfl⟩)
        try simp only [List.setIfInBounds_toArray, List.set_cons_zero, List.set_cons_succ]
        refine take_op (v := ?vu1xb1xb2xb3x7) 7 (Op.fieldAddr 29 (Operand.tmp 2) 0) 0 rfl rfl rfl rfl rfl (by kernel_rfl) (by kernel_rfl) (by kernel_rfl) (fun _ _ _ h => h) ?yu1xb1xb2xb3x7 (by assumption) ?ru1xb1xb2xb3x7
        case yu1xb1xb2xb3x7 => (intro w' hSw; (try dsimp only at hSw); go_simp; try (with_reducible rfl))
        simp only [List.setIfInBounds_toArray, List.set_cons_zero, List.set_cons_succ]
        refine wpAnyH_ready (rs := [8]) (by kernel_rfl) (by simp) (AllReadyH.cons rfl (fun K8 hK8 => ?ku1xb1xb2xb3x8) AllReadyH.nil)
        refine take_store 8 (Op.store 27 (Operand.tmp 12) (Operand.tmp 11)) 0 rfl rfl rfl (by kernel_rfl) (w' := w6.setCell ⟨B, 0, none⟩ (.slice A6 (0 + n + 1) c6)) (by obtain ⟨cL, _, _, fL, _⟩ := blk3 b1; go_simp; try (with_reducible rfl)) ?_
        refine hK8.out _ _ (⟨(b2.far (p := ⟨B, 0, none⟩) (by dsimp only; omega) _).cell_ 0 rfl, (b2.far (p := ⟨B, 0, none⟩) (by dsimp only; omega) _).cell_ 1 rfl, (b2.far (p := ⟨B, 0, none⟩) (by dsimp only; omega) _).cell_ 2 rfl, (b2.far (p := ⟨B, 0, none⟩) (by dsimp only; omega) _).cell_ 3 rfl, (b2.far (p := ⟨B, 0, none⟩) (by dsimp only; omega) _).cell_ 4 rfl⟩) (fun hHeld => ?_)
        refine wpAnyH_done (by kernel_rfl) ?_ _
        simp only [Nat.zero_add, List.nil_append] at o6 ⊢
        have hA6 := o6.blk
        have b1' := b1.set 0 (.slice A6 (n + 1) c6)
        have b3' := b3.far (p := ⟨B, 0, none⟩) (by dsimp only; omega) (.slice A6 (n + 1) c6)
        have o6' := o6.far (p := ⟨B, 0, none⟩) (fun e => by have := (hA6 _ e).1; dsimp only at this; omega) (.slice A6 (n + 1) c6)
        have HW : Below B w (w6.setCell ⟨B, 0, none⟩ (.slice A6 (n + 1) c6)) := (HB.trans (HBB.mono (by omega))).setCell (p := ⟨B, 0, none⟩) (Nat.le_refl _) _
        generalize w6.setCell ⟨B, 0, none⟩ (.slice A6 (n + 1) c6) = w7 at *
        have b1q : Blk w7 B 29 #[.slice A6 (n + 1) c6, .int .i64 sz, .int .i64 dp] := b1'
        obtain ⟨c0, c1, c2, _⟩ := blk3 b1q
        obtain ⟨d0, d1, d2, f0, f1, f2, _⟩ := blk3 b3'
        clear b1 b2 b3 b1' rP0 o3 o6 HBB
        go_wp2_with fail
        refine bodyPost_ret (results_r1 rfl _ _ (B + 1 + 1) #[.slice A6 (n + 1) c6, .int .i64 sz, .int .i64 dp] _ rfl (blk_eq (((b3'.set 0 _).set 1 _).set 2 _) (by simp)) Tryd.underlying29 rfl (by kernel_rfl)) rfl ?_
        refine ⟨A6, c6, rfl, o6'.cap, o6'.capm, ⟨pl ++ [(p, v)], by rw [List.map_append, HPL.out]; rfl, ?_, ?_⟩, ?_⟩
        · have := own_far3 (a := .slice A6 (n + 1) c6) (b := .int .i64 sz) (d := .int .i64 dp) o6' (show B + 1 + 1 < B + 1 + 1 + 1 by omega)
          rw [plc_app]
          exact RdS.of_own this (fun b h1 _ => .inr (by rw [HBq.out]; omega))
        · have HW2 := below3 (a' := .slice A6 (n + 1) c6) (b' := .int .i64 sz) (c' := .int .i64 dp) HW (show B ≤ B + 1 + 1 by omega)
          rw [← HBq.out] at HW2
          have HK : ∀ b, S b → b < w.heap.size → (((w7.setCell ⟨B + 1 + 1, 0, none⟩ (.slice A6 (n + 1) c6)).setCell ⟨B + 1 + 1, 1, none⟩ (.int .i64 sz)).setCell ⟨B + 1 + 1, 2, none⟩ (.int .i64 dp)).heap[b]? = w.heap[b]? ∧ (S b ∨ w.heap.size ≤ b) :=
            fun b h1 h2 => by rw [HBq.out] at HW2 ⊢; exact ⟨HW2.block b (by rw [← HBq.out]; exact h2), .inl h1⟩
          intro x hx
          rcases List.mem_append.1 hx with h | h
          · exact (HO.out x h).keep HK
          · simp only [List.mem_singleton] at h
            subst h
            exact HV.out.keep HK
        · have HW2 := below3 (a' := .slice A6 (n + 1) c6) (b' := .int .i64 sz) (c' := .int .i64 dp) HW (show B ≤ B + 1 + 1 by omega)
          rw [HBq.out]
          exact HW2
      case ku1xb1xb2x4 =>
        refine take_any 4 (Op.load 75 (Operand.tmp 3)) 75 rfl rfl rfl (by kernel_rfl) (v := .agg (pv p.word p.lo p.hi p.what v)) (by obtain ⟨d0, d1, d2, d3, d4, _⟩ := blk5 b2; go_simp; try (with_reducible rfl)) ?_
        refine hK4.out _ _ ?su1xb1xb2xb8x4 (fun hHeld => ?ru1xb1xb2xb8x4)
        case su1xb1xb2xb8x4 => ((try dsimp only); exact ⟨b2.cell_ 0 rfl, b2.cell_ 1 rfl, b2.cell_ 2 rfl, b2.cell_ 3 rfl, b2.cell_ 4 rfl⟩)
        try simp only [List.setIfInBounds_toArray, List.set_cons_zero, List.set_cons_succ]
        refine wpAnyH_ready (rs := [3, 5]) (by kernel_rfl) (by simp) (AllReadyH.cons rfl (fun K3 hK3 => ?ku1xb1xb2xb8x3) (AllReadyH.cons rfl (fun K5 hK5 => ?ku1xb1xb2xb8x5) AllReadyH.nil))
        case ku1xb1xb2xb8x3 =>
          refine take_app El_part 3 (Operand.tmp 5) (Operand.tmp 7) 27 rfl rfl rfl (by kernel_rfl) o0 rfl (rP0) rfl (hone) (by unfold maxLen; omega) (by omega) (by first | exact Nat.le_refl _ | (simp only [World.size_alloc, World.size_setCell, World.size_drew] at *; omega) | omega) ?_
          intro A3 c3 w3 o3 gr3 at3
          have z3 := gr3.size
          try simp only [World.size_drew] at z3
          replace HBB := below_grown HBB gr3 o0 (by first | exact Nat.le_refl _ | (simp only [World.size_alloc, World.size_setCell, World.size_drew] at *; omega) | omega)
          have zHBB3 := HBB.size
          replace rP0 := Rd.grownOwn rP0 gr3 o0 (by first | exact Nat.le_refl _ | (simp only [World.size_alloc, World.size_setCell, World.size_drew] at *; omega) | omega) (by first | exact Nat.le_refl _ | (simp only [World.size_alloc, World.size_setCell, World.size_drew] at *; omega) | omega)
          replace b1 := Blk.grown b1 gr3 (by intro e; have := o0.blk _ e.symm; omega)
          replace b2 := Blk.grown b2 gr3 (by intro e; have := o0.blk _ e.symm; omega)
          replace b3 := Blk.grown b3 gr3 (by intro e; have := o0.blk _ e.symm; omega)
          refine hK3.out _ _ ?su1xb1xb2xb8xb9x3 (fun hHeld => ?ru1xb1xb2xb8xb9x3)
          case su1xb1xb2xb8xb9x3 => ((try dsimp only); exact ⟨b2.cell_ 0 rfl, b2.cell_ 1 rfl, b2.cell_ 2 rfl, b2.cell_ 3 rfl, b2.cell_ 4 rfl⟩)
          try simp only [List.setIfInBounds_toArray, List.set_cons_zero, List.set_cons_succ]
          refine wpAnyH_ready (rs := [5]) (by kernel_rfl) (by simp) (AllReadyH.cons rfl (fun K5 hK5 => ?ku1xb1xb2xb8xb9x5) AllReadyH.nil)
          refine take_build (e := 75) (len := 1) (size := 5) (B + 1 + 1 + 1) (pcell (p, v)) 5 (Op.buildSlice 27 1 #[(0, Operand.tmp 9)]) 27 rfl rfl rfl (by kernel_rfl) ?eu1xb1xb2xb8xb9x5 (by rfl) (by decide) (by first | exact Nat.le_refl _ | (simp only [World.size_alloc, World.size_setCell, World.size_drew] at *; omega) | omega) ?_
          case eu1xb1xb2xb8xb9x5 => (go_simp; try (first | with_reducible rfl | (simp [rcells, rcell]; done) | (simp [fcells]; done) | (simp [tcells]; done) | rfl))
          intro gx5 w5 o5 gr5 l5 m5
          have z5 := gr5.size
          try simp only [World.size_drew] at z5
          replace HBB := below_grow HBB gr5
          have zHBB5 := HBB.size
          replace rP0 := Rd.grow0 rP0 gr5 (by first | exact Nat.le_refl _ | (simp only [World.size_alloc, World.size_setCell, World.size_drew] at *; omega) | omega)
          replace b1 := Blk.grow0 b1 gr5
          replace b2 := Blk.grow0 b2 gr5
          replace b3 := Blk.grow0 b3 gr5
          replace o3 := Own.grow0 o3 gr5
          refine hK5.out _ _ ?su1xb1xb2xb8xb9x5 (fun hHeld => ?ru1xb1xb2xb8xb9x5)
          case su1xb1xb2xb8xb9x5 => ((try dsimp only); exact ⟨b2.cell_ 0 rfl, b2.cell_ 1 rfl, b2.cell_ 2 rfl, b2.cell_ 3 rfl, b2.cell_ 4 rfl⟩)
          try simp only [List.setIfInBounds_toArray, List.set_cons_zero, List.set_cons_succ]
          refine wpAnyH_ready (rs := [6]) (by kernel_rfl) (by simp) (AllReadyH.cons rfl (fun K6 hK6 => ?ku1xb1xb2xb8xb9x6) AllReadyH.nil)
          refine take_app El_part 6 (Operand.tmp 8) (Operand.tmp 10) 27 rfl rfl rfl (by kernel_rfl) o3 rfl (o5.rd) rfl (pcell_one hvo) (by unfold maxLen; omega) (by omega) (by first | exact Nat.le_refl _ | (simp only [World.size_alloc, World.size_setCell, World.size_drew] at *; omega) | omega) ?_
          intro A6 c6 w6 o6 gr6 at6
          have z6 := gr6.size
          try simp only [World.size_drew] at z6
          replace HBB := below_grown HBB gr6 o3 (by first | exact Nat.le_refl _ | (simp only [World.size_alloc, World.size_setCell, World.size_drew] at *; omega) | omega)
          have zHBB6 := HBB.size
          replace rP0 := Rd.grownOwn rP0 gr6 o3 (by first | exact Nat.le_refl _ | (simp only [World.size_alloc, World.size_setCell, World.size_drew] at *; omega) | omega) (by first | exact Nat.le_refl _ | (simp only [World.size_alloc, World.size_setCell, World.size_drew] at *; omega) | omega)
          replace b1 := Blk.grown b1 gr6 (by intro e; have := o3.blk _ e.symm; omega)
          replace b2 := Blk.grown b2 gr6 (by intro e; have := o3.blk _ e.symm; omega)
          replace b3 := Blk.grown b3 gr6 (by intro e; have := o3.blk _ e.symm; omega)
          refine hK6.out _ _ ?su1xb1xb2xb8xb9x6 (fun hHeld => ?ru1xb1xb2xb8xb9x6)
          case su1xb1xb2xb8xb9x6 => ((try dsimp only); exact ⟨b2.cell_ 0 rfl, b2.cell_ 1 rfl, b2.cell_ 2 rfl, b2.cell_ 3 rfl, b2.cell_ 4 rfl⟩)
          try simp only [List.setIfInBounds_toArray, List.set_cons_zero, List.set_cons_succ]
          refine take_op (v := ?vu1xb1xb2xb8xb9x7) 7 (Op.fieldAddr 29 (Operand.tmp 2) 0) 0 rfl rfl rfl rfl rfl (by kernel_rfl) (by kernel_rfl) (by kernel_rfl) (fun _ _ _ h => h) ?yu1xb1xb2xb8xb9x7 (by assumption) ?ru1xb1xb2xb8xb9x7
          case yu1xb1xb2xb8xb9x7 => (intro w' hSw; (try dsimp only at hSw); go_simp; try (with_reducible rfl))
          simp only [List.setIfInBounds_toArray, List.set_cons_zero, List.set_cons_succ]
          refine wpAnyH_ready (rs := [8]) (by kernel_rfl) (by simp) (AllReadyH.cons rfl (fun K8 hK8 => ?ku1xb1xb2xb8xb9x8) AllReadyH.nil)
          refine take_store 8 (Op.store 27 (Operand.tmp 12) (Operand.tmp 11)) 0 rfl rfl rfl (by kernel_rfl) (w' := w6.setCell ⟨B, 0, none⟩ (.slice A6 (0 + n + 1) c6)) (by obtain ⟨cL, _, _, fL, _⟩ := blk3 b1; go_simp; try (with_reducible rfl)) ?_
          refine hK8.out _ _ (⟨(b2.far (p := ⟨B, 0, none⟩) (by dsimp only; omega) _).cell_ 0 rfl, (b2.far (p := ⟨B, 0, none⟩) (by dsimp only; omega) _).cell_ 1 rfl, (b2.far (p := ⟨B, 0, none⟩) (by dsimp only; omega) _).cell_ 2 rfl, (b2.far (p := ⟨B, 0, none⟩) (by dsimp only; omega) _).cell_ 3 rfl, (b2.far (p := ⟨B, 0, none⟩) (by dsimp only; omega) _).cell_ 4 rfl⟩) (fun hHeld => ?_)
          refine wpAnyH_done (by kernel_rfl) ?_ _
          simp only [Nat.zero_add, List.nil_append] at o6 ⊢
          have hA6 := o6.blk
          have b1' := b1.set 0 (.slice A6 (n + 1) c6)
          have b3' := b3.far (p := ⟨B, 0, none⟩) (by dsimp only; omega) (.slice A6 (n + 1) c6)
          have o6' := o6.far (p := ⟨B, 0, none⟩) (fun e => by have := (hA6 _ e).1; dsimp only at this; omega) (.slice A6 (n + 1) c6)
          have HW : Below B w (w6.setCell ⟨B, 0, none⟩ (.slice A6 (n + 1) c6)) := (HB.trans (HBB.mono (by omega))).setCell (p := ⟨B, 0, none⟩) (Nat.le_refl _) _
          generalize w6.setCell ⟨B, 0, none⟩ (.slice A6 (n + 1) c6) = w7 at *
          have b1q : Blk w7 B 29 #[.slice A6 (n + 1) c6, .int .i64 sz, .int .i64 dp] := b1'
          obtain ⟨c0, c1, c2, _⟩ := blk3 b1q
          obtain ⟨d0, d1, d2, f0, f1, f2, _⟩ := blk3 b3'
          clear b1 b2 b3 b1' rP0 o3 o6 HBB
          go_wp2_with fail
          refine bodyPost_ret (results_r1 rfl _ _ (B + 1 + 1) #[.slice A6 (n + 1) c6, .int .i64 sz, .int .i64 dp] _ rfl (blk_eq (((b3'.set 0 _).set 1 _).set 2 _) (by simp)) Tryd.underlying29 rfl (by kernel_rfl)) rfl ?_
          refine ⟨A6, c6, rfl, o6'.cap, o6'.capm, ⟨pl ++ [(p, v)], by rw [List.map_append, HPL.out]; rfl, ?_, ?_⟩, ?_⟩
          · have := own_far3 (a := .slice A6 (n + 1) c6) (b := .int .i64 sz) (d := .int .i64 dp) o6' (show B + 1 + 1 < B + 1 + 1 + 1 by omega)
            rw [plc_app]
            exact RdS.of_own this (fun b h1 _ => .inr (by rw [HBq.out]; omega))
          · have HW2 := below3 (a' := .slice A6 (n + 1) c6) (b' := .int .i64 sz) (c' := .int .i64 dp) HW (show B ≤ B + 1 + 1 by omega)
            rw [← HBq.out] at HW2
            have HK : ∀ b, S b → b < w.heap.size → (((w7.setCell ⟨B + 1 + 1, 0, none⟩ (.slice A6 (n + 1) c6)).setCell ⟨B + 1 + 1, 1, none⟩ (.int .i64 sz)).setCell ⟨B + 1 + 1, 2, none⟩ (.int .i64 dp)).heap[b]? = w.heap[b]? ∧ (S b ∨ w.heap.size ≤ b) :=
              fun b h1 h2 => by rw [HBq.out] at HW2 ⊢; exact ⟨HW2.block b (by rw [← HBq.out]; exact h2), .inl h1⟩
            intro x hx
            rcases List.mem_append.1 hx with h | h
            · exact (HO.out x h).keep HK
            · simp only [List.mem_singleton] at h
              subst h
              exact HV.out.keep HK
          · have HW2 := below3 (a' := .slice A6 (n + 1) c6) (b' := .int .i64 sz) (c' := .int .i64 dp) HW (show B ≤ B + 1 + 1 by omega)
            rw [HBq.out]
            exact HW2
        case ku1xb1xb2xb8x5 =>
          refine take_build (e := 75) (len := 1) (size := 5) (B + 1 + 1 + 1) (pcell (p, v)) 5 (Op.buildSlice 27 1 #[(0, Operand.tmp 9)]) 27 rfl rfl rfl (by kernel_rfl) ?eu1xb1xb2xb8xb13x5 (by rfl) (by decide) (by first | exact Nat.le_refl _ | (simp only [World.size_alloc, World.size_setCell, World.size_drew] at *; omega) | omega) ?_
          case eu1xb1xb2xb8xb13x5 => (go_simp; try (first | with_reducible rfl | (simp [rcells, rcell]; done) | (simp [fcells]; done) | (simp [tcells]; done) | rfl))
          intro gx5 w5 o5 gr5 l5 m5
          have z5 := gr5.size
          try simp only [World.size_drew] at z5
          replace HBB := below_grow HBB gr5
          have zHBB5 := HBB.size
          replace rP0 := Rd.grow0 rP0 gr5 (by first | exact Nat.le_refl _ | (simp only [World.size_alloc, World.size_setCell, World.size_drew] at *; omega) | omega)
          replace b1 := Blk.grow0 b1 gr5
          replace b2 := Blk.grow0 b2 gr5
          replace b3 := Blk.grow0 b3 gr5
          replace o0 := Own.grow0 o0 gr5
          refine hK5.out _ _ ?su1xb1xb2xb8xb13x5 (fun hHeld => ?ru1xb1xb2xb8xb13x5)
          case su1xb1xb2xb8xb13x5 => ((try dsimp only); exact ⟨b2.cell_ 0 rfl, b2.cell_ 1 rfl, b2.cell_ 2 rfl, b2.cell_ 3 rfl, b2.cell_ 4 rfl⟩)
          try simp only [List.setIfInBounds_toArray, List.set_cons_zero, List.set_cons_succ]
          refine wpAnyH_ready (rs := [3]) (by kernel_rfl) (by simp) (AllReadyH.cons rfl (fun K3 hK3 => ?ku1xb1xb2xb8xb13x3) AllReadyH.nil)
          refine take_app El_part 3 (Operand.tmp 5) (Operand.tmp 7) 27 rfl rfl rfl (by kernel_rfl) o0 rfl (rP0) rfl (hone) (by unfold maxLen; omega) (by omega) (by first | exact Nat.le_refl _ | (simp only [World.size_alloc, World.size_setCell, World.size_drew] at *; omega) | omega) ?_
          intro A3 c3 w3 o3 gr3 at3
          have z3 := gr3.size
          try simp only [World.size_drew] at z3
          replace HBB := below_grown HBB gr3 o0 (by first | exact Nat.le_refl _ | (simp only [World.size_alloc, World.size_setCell, World.size_drew] at *; omega) | omega)
          have zHBB3 := HBB.size
          replace rP0 := Rd.grownOwn rP0 gr3 o0 (by first | exact Nat.le_refl _ | (simp only [World.size_alloc, World.size_setCell, World.size_drew] at *; omega) | omega) (by first | exact Nat.le_refl _ | (simp only [World.size_alloc, World.size_setCell, World.size_drew] at *; omega) | omega)
          replace b1 := Blk.grown b1 gr3 (by intro e; have := o0.blk _ e.symm; omega)
          replace b2 := Blk.grown b2 gr3 (by intro e; have := o0.blk _ e.symm; omega)
          replace b3 := Blk.grown b3 gr3 (by intro e; have := o0.blk _ e.symm; omega)
          replace o5 := Own.other o5 gr3 (by intro k hk e; simp only [blkOf, Option.map_some, Option.some.injEq] at hk e; omega)
          refine hK3.out _ _ ?su1xb1xb2xb8xb13x3 (fun hHeld => ?ru1xb1xb2xb8xb13x3)
          case su1xb1xb2xb8xb13x3 => ((try dsimp only); exact ⟨b2.cell_ 0 rfl, b2.cell_ 1 rfl, b2.cell_ 2 rfl, b2.cell_ 3 rfl, b2.cell_ 4 rfl⟩)
          try simp only [List.setIfInBounds_toArray, List.set_cons_zero, List.set_cons_succ]
          refine wpAnyH_ready (rs := [6]) (by kernel_rfl) (by simp) (AllReadyH.cons rfl (fun K6 hK6 => ?ku1xb1xb2xb8xb13x6) AllReadyH.nil)
          refine take_app El_part 6 (Operand.tmp 8) (Operand.tmp 10) 27 rfl rfl rfl (by kernel_rfl) o3 rfl (o5.rd) rfl (pcell_one hvo) (by unfold maxLen; omega) (by omega) (by first | exact Nat.le_refl _ | (simp only [World.size_alloc, World.size_setCell, World.size_drew] at *; omega) | omega) ?_
          intro A6 c6 w6 o6 gr6 at6
          have z6 := gr6.size
          try simp only [World.size_drew] at z6
          replace HBB := below_grown HBB gr6 o3 (by first | exact Nat.le_refl _ | (simp only [World.size_alloc, World.size_setCell, World.size_drew] at *; omega) | omega)
          have zHBB6 := HBB.size
          replace rP0 := Rd.grownOwn rP0 gr6 o3 (by first | exact Nat.le_refl _ | (simp only [World.size_alloc, World.size_setCell, World.size_drew] at *; omega) | omega) (by first | exact Nat.le_refl _ | (simp only [World.size_alloc, World.size_setCell, World.size_drew] at *; omega) | omega)
          replace b1 := Blk.grown b1 gr6 (by intro e; have := o3.blk _ e.symm; omega)
          replace b2 := Blk.grown b2 gr6 (by intro e; have := o3.blk _ e.symm; omega)
          replace b3 := Blk.grown b3 gr6 (by intro e; have := o3.blk _ e.symm; omega)
          refine hK6.out _ _ ?su1xb1xb2xb8xb13x6 (fun hHeld => ?ru1xb1xb2xb8xb13x6)
          case su1xb1xb2xb8xb13x6 => ((try dsimp only); exact ⟨b2.cell_ 0 rfl, b2.cell_ 1 rfl, b2.cell_ 2 rfl, b2.cell_ 3 rfl, b2.cell_ 4 rfl⟩)
          try simp only [List.setIfInBounds_toArray, List.set_cons_zero, List.set_cons_succ]
          refine take_op (v := ?vu1xb1xb2xb8xb13x7) 7 (Op.fieldAddr 29 (Operand.tmp 2) 0) 0 rfl rfl rfl rfl rfl (by kernel_rfl) (by kernel_rfl) (by kernel_rfl) (fun _ _ _ h => h) ?yu1xb1xb2xb8xb13x7 (by assumption) ?ru1xb1xb2xb8xb13x7
          case yu1xb1xb2xb8xb13x7 => (intro w' hSw; (try dsimp only at hSw); go_simp; try (with_reducible rfl))
          simp only [List.setIfInBounds_toArray, List.set_cons_zero, List.set_cons_succ]
          refine wpAnyH_ready (rs := [8]) (by kernel_rfl) (by simp) (AllReadyH.cons rfl (fun K8 hK8 => ?ku1xb1xb2xb8xb13x8) AllReadyH.nil)
          refine take_store 8 (Op.store 27 (Operand.tmp 12) (Operand.tmp 11)) 0 rfl rfl rfl (by kernel_rfl) (w' := w6.setCell ⟨B, 0, none⟩ (.slice A6 (0 + n + 1) c6)) (by obtain ⟨cL, _, _, fL, _⟩ := blk3 b1; go_simp; try (with_reducible rfl)) ?_
          refine hK8.out _ _ (⟨(b2.far (p := ⟨B, 0, none⟩) (by dsimp only; omega) _).cell_ 0 rfl, (b2.far (p := ⟨B, 0, none⟩) (by dsimp only; omega) _).cell_ 1 rfl, (b2.far (p := ⟨B, 0, none⟩) (by dsimp only; omega) _).cell_ 2 rfl, (b2.far (p := ⟨B, 0, none⟩) (by dsimp only; omega) _).cell_ 3 rfl, (b2.far (p := ⟨B, 0, none⟩) (by dsimp only; omega) _).cell_ 4 rfl⟩) (fun hHeld => ?_)
          refine wpAnyH_done (by kernel_rfl) ?_ _
          simp only [Nat.zero_add, List.nil_append] at o6 ⊢
          have hA6 := o6.blk
          have b1' := b1.set 0 (.slice A6 (n + 1) c6)
          have b3' := b3.far (p := ⟨B, 0, none⟩) (by dsimp only; omega) (.slice A6 (n + 1) c6)
          have o6' := o6.far (p := ⟨B, 0, none⟩) (fun e => by have := (hA6 _ e).1; dsimp only at this; omega) (.slice A6 (n + 1) c6)
          have HW : Below B w (w6.setCell ⟨B, 0, none⟩ (.slice A6 (n + 1) c6)) := (HB.trans (HBB.mono (by omega))).setCell (p := ⟨B, 0, none⟩) (Nat.le_refl _) _
          generalize w6.setCell ⟨B, 0, none⟩ (.slice A6 (n + 1) c6) = w7 at *
          have b1q : Blk w7 B 29 #[.slice A6 (n + 1) c6, .int .i64 sz, .int .i64 dp] := b1'
          obtain ⟨c0, c1, c2, _⟩ := blk3 b1q
          obtain ⟨d0, d1, d2, f0, f1, f2, _⟩ := blk3 b3'
          clear b1 b2 b3 b1' rP0 o3 o6 HBB
          go_wp2_with fail
          refine bodyPost_ret (results_r1 rfl _ _ (B + 1 + 1) #[.slice A6 (n + 1) c6, .int .i64 sz, .int .i64 dp] _ rfl (blk_eq (((b3'.set 0 _).set 1 _).set 2 _) (by simp)) Tryd.underlying29 rfl (by kernel_rfl)) rfl ?_
          refine ⟨A6, c6, rfl, o6'.cap, o6'.capm, ⟨pl ++ [(p, v)], by rw [List.map_append, HPL.out]; rfl, ?_, ?_⟩, ?_⟩
          · have := own_far3 (a := .slice A6 (n + 1) c6) (b := .int .i64 sz) (d := .int .i64 dp) o6' (show B + 1 + 1 < B + 1 + 1 + 1 by omega)
            rw [plc_app]
            exact RdS.of_own this (fun b h1 _ => .inr (by rw [HBq.out]; omega))
          · have HW2 := below3 (a' := .slice A6 (n + 1) c6) (b' := .int .i64 sz) (c' := .int .i64 dp) HW (show B ≤ B + 1 + 1 by omega)
            rw [← HBq.out] at HW2
            have HK : ∀ b, S b → b < w.heap.size → (((w7.setCell ⟨B + 1 + 1, 0, none⟩ (.slice A6 (n + 1) c6)).setCell ⟨B + 1 + 1, 1, none⟩ (.int .i64 sz)).setCell ⟨B + 1 + 1, 2, none⟩ (.int .i64 dp)).heap[b]? = w.heap[b]? ∧ (S b ∨ w.heap.size ≤ b) :=
              fun b h1 h2 => by rw [HBq.out] at HW2 ⊢; exact ⟨HW2.block b (by rw [← HBq.out]; exact h2), .inl h1⟩
            intro x hx
            rcases List.mem_append.1 hx with h | h
            · exact (HO.out x h).keep HK
            · simp only [List.mem_singleton] at h
              subst h
              exact HV.out.keep HK
          · have HW2 := below3 (a' := .slice A6 (n + 1) c6) (b' := .int .i64 sz) (c' := .int .i64 dp) HW (show B ≤ B + 1 + 1 by omega)
            rw [HBq.out]
            exact HW2
    case ku1xb1x4 =>
      refine take_any 4 (Op.load 75 (Operand.tmp 3)) 75 rfl rfl rfl (by kernel_rfl) (v := .agg (pv p.word p.lo p.hi p.what v)) (by obtain ⟨d0, d1, d2, d3, d4, _⟩ := blk5 b2; go_simp; try (with_reducible rfl)) ?_
      refine hK4.out _ _ ?su1xb1xb17x4 (fun hHeld => ?ru1xb1xb17x4)
      case su1xb1xb17x4 => ((try dsimp only); exact ⟨b2.cell_ 0 rfl, b2.cell_ 1 rfl, b2.cell_ 2 rfl, b2.cell_ 3 rfl, b2.cell_ 4 rfl⟩)
      try simp only [List.setIfInBounds_toArray, List.set_cons_zero, List.set_cons_succ]
      refine wpAnyH_ready (rs := [2, 5]) (by kernel_rfl) (by simp) (AllReadyH.cons rfl (fun K2 hK2 => ?ku1xb1xb17x2) (AllReadyH.cons rfl (fun K5 hK5 => ?ku1xb1xb17x5) AllReadyH.nil))
      case ku1xb1xb17x2 =>
        refine take_any 2 (Op.load 27 (Operand.tmp 6)) 27 rfl rfl rfl (by kernel_rfl) (v := .slice A n c) (by have cL := b1.cell_ 0 rfl; go_simp; try (with_reducible rfl)) ?_
        refine hK2.out _ _ ?su1xb1xb17xb18x2 (fun hHeld => ?ru1xb1xb17xb18x2)
        case su1xb1xb17xb18x2 => ((try dsimp only); exact ⟨b2.cell_ 0 rfl, b2.cell_ 1 rfl, b2.cell_ 2 rfl, b2.cell_ 3 rfl, b2.cell_ 4 rfl⟩)
        try simp only [List.setIfInBounds_toArray, List.set_cons_zero, List.set_cons_succ]
        refine wpAnyH_ready (rs := [3, 5]) (by kernel_rfl) (by simp) (AllReadyH.cons rfl (fun K3 hK3 => ?ku1xb1xb17xb18x3) (AllReadyH.cons rfl (fun K5 hK5 => ?ku1xb1xb17xb18x5) AllReadyH.nil))
        case ku1xb1xb17xb18x3 =>
          refine take_app El_part 3 (Operand.tmp 5) (Operand.tmp 7) 27 rfl rfl rfl (by kernel_rfl) o0 rfl (rP0) rfl (hone) (by unfold maxLen; omega) (by omega) (by first | exact Nat.le_refl _ | (simp only [World.size_alloc, World.size_setCell, World.size_drew] at *; omega) | omega) ?_
          intro A3 c3 w3 o3 gr3 at3
          have z3 := gr3.size
          try simp only [World.size_drew] at z3
          replace HBB := below_grown HBB gr3 o0 (by first | exact Nat.le_refl _ | (simp only [World.size_alloc, World.size_setCell, World.size_drew] at *; omega) | omega)
          have zHBB3 := HBB.size
          replace rP0 := Rd.grownOwn rP0 gr3 o0 (by first | exact Nat.le_refl _ | (simp only [World.size_alloc, World.size_setCell, World.size_drew] at *; omega) | omega) (by first | exact Nat.le_refl _ | (simp only [World.size_alloc, World.size_setCell, World.size_drew] at *; omega) | omega)
          replace b1 := Blk.grown b1 gr3 (by intro e; have := o0.blk _ e.symm; omega)
          replace b2 := Blk.grown b2 gr3 (by intro e; have := o0.blk _ e.symm; omega)
          replace b3 := Blk.grown b3 gr3 (by intro e; have := o0.blk _ e.symm; omega)
          refine hK3.out _ _ ?su1xb1xb17xb18xb19x3 (fun hHeld => ?ru1xb1xb17xb18xb19x3)
          case su1xb1xb17xb18xb19x3 => ((try dsimp only); exact ⟨b2.cell_ 0 rfl, b2.cell_ 1 rfl, b2.cell_ 2 rfl, b2.cell_ 3 rfl, b2.cell_ 4 rfl⟩)
          try simp only [List.setIfInBounds_toArray, List.set_cons_zero, List.set_cons_succ]
          refine wpAnyH_ready (rs := [5]) (by kernel_rfl) (by simp) (AllReadyH.cons rfl (fun K5 hK5 => ?ku1xb1xb17xb18xb19x5) AllReadyH.nil)
          refine take_build (e := 75) (len := 1) (size := 5) (B + 1 + 1 + 1) (pcell (p, v)) 5 (Op.buildSlice 27 1 #[(0, Operand.tmp 9)]) 27 rfl rfl rfl (by kernel_rfl) ?eu1xb1xb17xb18xb19x5 (by rfl) (by decide) (by first | exact Nat.le_refl _ | (simp only [World.size_alloc, World.size_setCell, World.size_drew] at *; omega) | omega) ?_
          case eu1xb1xb17xb18xb19x5 => (go_simp; try (first | with_reducible rfl | (simp [rcells, rcell]; done) | (simp [fcells]; done) | (simp [tcells]; done) | rfl))
          intro gx5 w5 o5 gr5 l5 m5
          have z5 := gr5.size
          try simp only [World.size_drew] at z5
          replace HBB := below_grow HBB gr5
          have zHBB5 := HBB.size
          replace rP0 := Rd.grow0 rP0 gr5 (by first | exact Nat.le_refl _ | (simp only [World.size_alloc, World.size_setCell, World.size_drew] at *; omega) | omega)
          replace b1 := Blk.grow0 b1 gr5
          replace b2 := Blk.grow0 b2 gr5
          replace b3 := Blk.grow0 b3 gr5
          replace o3 := Own.grow0 o3 gr5
          refine hK5.out _ _ ?su1xb1xb17xb18xb19x5 (fun hHeld => ?ru1xb1xb17xb18xb19x5)
          case su1xb1xb17xb18xb19x5 => ((try dsimp only); exact ⟨b2.cell_ 0 rfl, b2.cell_ 1 rfl, b2.cell_ 2 rfl, b2.cell_ 3 rfl, b2.cell_ 4 rfl⟩)
          try simp only [List.setIfInBounds_toArray, List.set_cons_zero, List.set_cons_succ]
          refine wpAnyH_ready (rs := [6]) (by kernel_rfl) (by simp) (AllReadyH.cons rfl (fun K6 hK6 => ?ku1xb1xb17xb18xb19x6) AllReadyH.nil)
          refine take_app El_part 6 (Operand.tmp 8) (Operand.tmp 10) 27 rfl rfl rfl (by kernel_rfl) o3 rfl (o5.rd) rfl (pcell_one hvo) (by unfold maxLen; omega) (by omega) (by first | exact Nat.le_refl _ | (simp only [World.size_alloc, World.size_setCell, World.size_drew] at *; omega) | omega) ?_
          intro A6 c6 w6 o6 gr6 at6
          have z6 := gr6.size
          try simp only [World.size_drew] at z6
          replace HBB := below_grown HBB gr6 o3 (by first | exact Nat.le_refl _ | (simp only [World.size_alloc, World.size_setCell, World.size_drew] at *; omega) | omega)
          have zHBB6 := HBB.size
          replace rP0 := Rd.grownOwn rP0 gr6 o3 (by first | exact Nat.le_refl _ | (simp only [World.size_alloc, World.size_setCell, World.size_drew] at *; omega) | omega) (by first | exact Nat.le_refl _ | (simp only [World.size_alloc, World.size_setCell, World.size_drew] at *; omega) | omega)
          replace b1 := Blk.grown b1 gr6 (by intro e; have := o3.blk _ e.symm; omega)
          replace b2 := Blk.grown b2 gr6 (by intro e; have := o3.blk _ e.symm; omega)
          replace b3 := Blk.grown b3 gr6 (by intro e; have := o3.blk _ e.symm; omega)
          refine hK6.out _ _ ?su1xb1xb17xb18xb19x6 (fun hHeld => ?ru1xb1xb17xb18xb19x6)
          case su1xb1xb17xb18xb19x6 => ((try dsimp only); exact ⟨b2.cell_ 0 rfl, b2.cell_ 1 rfl, b2.cell_ 2 rfl, b2.cell_ 3 rfl, b2.cell_ 4 rfl⟩)
          try simp only [List.setIfInBounds_toArray, List.set_cons_zero, List.set_cons_succ]
          refine take_op (v := ?vu1xb1xb17xb18xb19x7) 7 (Op.fieldAddr 29 (Operand.tmp 2) 0) 0 rfl rfl rfl rfl rfl (by kernel_rfl) (by kernel_rfl) (by kernel_rfl) (fun _ _ _ h => h) ?yu1xb1xb17xb18xb19x7 (by assumption) ?ru1xb1xb17xb18xb19x7
          case yu1xb1xb17xb18xb19x7 => (intro w' hSw; (try dsimp only at hSw); go_simp; try (with_reducible rfl))
          simp only [List.setIfInBounds_toArray, List.set_cons_zero, List.set_cons_succ]
          refine wpAnyH_ready (rs := [8]) (by kernel_rfl) (by simp) (AllReadyH.cons rfl (fun K8 hK8 => ?ku1xb1xb17xb18xb19x8) AllReadyH.nil)
          refine take_store 8 (Op.store 27 (Operand.tmp 12) (Operand.tmp 11)) 0 rfl rfl rfl (by kernel_rfl) (w' := w6.setCell ⟨B, 0, none⟩ (.slice A6 (0 + n + 1) c6)) (by obtain ⟨cL, _, _, fL, _⟩ := blk3 b1; go_simp; try (with_reducible rfl)) ?_
          refine hK8.out _ _ (⟨(b2.far (p := ⟨B, 0, none⟩) (by dsimp only; omega) _).cell_ 0 rfl, (b2.far (p := ⟨B, 0, none⟩) (by dsimp only; omega) _).cell_ 1 rfl, (b2.far (p := ⟨B, 0, none⟩) (by dsimp only; omega) _).cell_ 2 rfl, (b2.far (p := ⟨B, 0, none⟩) (by dsimp only; omega) _).cell_ 3 rfl, (b2.far (p := ⟨B, 0, none⟩) (by dsimp only; omega) _).cell_ 4 rfl⟩) (fun hHeld => ?_)
          refine wpAnyH_done (by kernel_rfl) ?_ _
          simp only [Nat.zero_add, List.nil_append] at o6 ⊢
          have hA6 := o6.blk
          have b1' := b1.set 0 (.slice A6 (n + 1) c6)
          have b3' := b3.far (p := ⟨B, 0, none⟩) (by dsimp only; omega) (.slice A6 (n + 1) c6)
          have o6' := o6.far (p := ⟨B, 0, none⟩) (fun e => by have := (hA6 _ e).1; dsimp only at this; omega) (.slice A6 (n + 1) c6)
          have HW : Below B w (w6.setCell ⟨B, 0, none⟩ (.slice A6 (n + 1) c6)) := (HB.trans (HBB.mono (by omega))).setCell (p := ⟨B, 0, none⟩) (Nat.le_refl _) _
          generalize w6.setCell ⟨B, 0, none⟩ (.slice A6 (n + 1) c6) = w7 at *
          have b1q : Blk w7 B 29 #[.slice A6 (n + 1) c6, .int .i64 sz, .int .i64 dp] := b1'
          obtain ⟨c0, c1, c2, _⟩ := blk3 b1q
          obtain ⟨d0, d1, d2, f0, f1, f2, _⟩ := blk3 b3'
          clear b1 b2 b3 b1' rP0 o3 o6 HBB
          go_wp2_with fail
          refine bodyPost_ret (results_r1 rfl _ _ (B + 1 + 1) #[.slice A6 (n + 1) c6, .int .i64 sz, .int .i64 dp] _ rfl (blk_eq (((b3'.set 0 _).set 1 _).set 2 _) (by simp)) Tryd.underlying29 rfl (by kernel_rfl)) rfl ?_
          refine ⟨A6, c6, rfl, o6'.cap, o6'.capm, ⟨pl ++ [(p, v)], by rw [List.map_append, HPL.out]; rfl, ?_, ?_⟩, ?_⟩
          · have := own_far3 (a := .slice A6 (n + 1) c6) (b := .int .i64 sz) (d := .int .i64 dp) o6' (show B + 1 + 1 < B + 1 + 1 + 1 by omega)
            rw [plc_app]
            exact RdS.of_own this (fun b h1 _ => .inr (by rw [HBq.out]; omega))
          · have HW2 := below3 (a' := .slice A6 (n + 1) c6) (b' := .int .i64 sz) (c' := .int .i64 dp) HW (show B ≤ B + 1 + 1 by omega)
            rw [← HBq.out] at HW2
            have HK : ∀ b, S b → b < w.heap.size → (((w7.setCell ⟨B + 1 + 1, 0, none⟩ (.slice A6 (n + 1) c6)).setCell ⟨B + 1 + 1, 1, none⟩ (.int .i64 sz)).setCell ⟨B + 1 + 1, 2, none⟩ (.int .i64 dp)).heap[b]? = w.heap[b]? ∧ (S b ∨ w.heap.size ≤ b) :=
              fun b h1 h2 => by rw [HBq.out] at HW2 ⊢; exact ⟨HW2.block b (by rw [← HBq.out]; exact h2), .inl h1⟩
            intro x hx
            rcases List.mem_append.1 hx with h | h
            · exact (HO.out x h).keep HK
            · simp only [List.mem_singleton] at h
              subst h
              exact HV.out.keep HK
          · have HW2 := below3 (a' := .slice A6 (n + 1) c6) (b' := .int .i64 sz) (c' := .int .i64 dp) HW (show B ≤ B + 1 + 1 by omega)
            rw [HBq.out]
            exact HW2
        case ku1xb1xb17xb18x5 =>
          refine take_build (e := 75) (len := 1) (size := 5) (B + 1 + 1 + 1) (pcell (p, v)) 5 (Op.buildSlice 27 1 #[(0, Operand.tmp 9)]) 27 rfl rfl rfl (by kernel_rfl) ?eu1xb1xb17xb18xb23x5 (by rfl) (by decide) (by first | exact Nat.le_refl _ | (simp only [World.size_alloc, World.size_setCell, World.size_drew] at *; omega) | omega) ?_
          case eu1xb1xb17xb18xb23x5 => (go_simp; try (first | with_reducible rfl | (simp [rcells, rcell]; done) | (simp [fcells]; done) | (simp [tcells]; done) | rfl))
          intro gx5 w5 o5 gr5 l5 m5
          have z5 := gr5.size
          try simp only [World.size_drew] at z5
          replace HBB := below_grow HBB gr5
          have zHBB5 := HBB.size
          replace rP0 := Rd.grow0 rP0 gr5 (by first | exact Nat.le_refl _ | (simp only [World.size_alloc, World.size_setCell, World.size_drew] at *; omega) | omega)
          replace b1 := Blk.grow0 b1 gr5
          replace b2 := Blk.grow0 b2 gr5
          replace b3 := Blk.grow0 b3 gr5
          replace o0 := Own.grow0 o0 gr5
          refine hK5.out _ _ ?su1xb1xb17xb18xb23x5 (fun hHeld => ?ru1xb1xb17xb18xb23x5)
          case su1xb1xb17xb18xb23x5 => ((try dsimp only); exact ⟨b2.cell_ 0 rfl, b2.cell_ 1 rfl, b2.cell_ 2 rfl, b2.cell_ 3 rfl, b2.cell_ 4 rfl⟩)
          try simp only [List.setIfInBounds_toArray, List.set_cons_zero, List.set_cons_succ]
          refine wpAnyH_ready (rs := [3]) (by kernel_rfl) (by simp) (AllReadyH.cons rfl (fun K3 hK3 => ?ku1xb1xb17xb18xb23x3) AllReadyH.nil)
          refine take_app El_part 3 (Operand.tmp 5) (Operand.tmp 7) 27 rfl rfl rfl (by kernel_rfl) o0 rfl (rP0) rfl (hone) (by unfold maxLen; omega) (by omega) (by first | exact Nat.le_refl _ | (simp only [World.size_alloc, World.size_setCell, World.size_drew] at *; omega) | omega) ?_
          intro A3 c3 w3 o3 gr3 at3
          have z3 := gr3.size
          try simp only [World.size_drew] at z3
          replace HBB := below_grown HBB gr3 o0 (by first | exact Nat.le_refl _ | (simp only [World.size_alloc, World.size_setCell, World.size_drew] at *; omega) | omega)
          have zHBB3 := HBB.size
          replace rP0 := Rd.grownOwn rP0 gr3 o0 (by first | exact Nat.le_refl _ | (simp only [World.size_alloc, World.size_setCell, World.size_drew] at *; omega) | omega) (by first | exact Nat.le_refl _ | (simp only [World.size_alloc, World.size_setCell, World.size_drew] at *; omega) | omega)
          replace b1 := Blk.grown b1 gr3 (by intro e; have := o0.blk _ e.symm; omega)
          replace b2 := Blk.grown b2 gr3 (by intro e; have := o0.blk _ e.symm; omega)
          replace b3 := Blk.grown b3 gr3 (by intro e; have := o0.blk _ e.symm; omega)
          replace o5 := Own.other o5 gr3 (by intro k hk e; simp only [blkOf, Option.map_some, Option.some.injEq] at hk e; omega)
          refine hK3.out _ _ ?su1xb1xb17xb18xb23x3 (fun hHeld => ?ru1xb1xb17xb18xb23x3)
          case su1xb1xb17xb18xb23x3 => ((try dsimp only); exact ⟨b2.cell_ 0 rfl, b2.cell_ 1 rfl, b2.cell_ 2 rfl, b2.cell_ 3 rfl, b2.cell_ 4 rfl⟩)
          try simp only [List.setIfInBounds_toArray, List.set_cons_zero, List.set_cons_succ]
          refine wpAnyH_ready (rs := [6]) (by kernel_rfl) (by simp) (AllReadyH.cons rfl (fun K6 hK6 => ?ku1xb1xb17xb18xb23x6) AllReadyH.nil)
          refine take_app El_part 6 (Operand.tmp 8) (Operand.tmp 10) 27 rfl rfl rfl (by kernel_rfl) o3 rfl (o5.rd) rfl (pcell_one hvo) (by unfold maxLen; omega) (by omega) (by first | exact Nat.le_refl _ | (simp only [World.size_alloc, World.size_setCell, World.size_drew] at *; omega) | omega) ?_
          intro A6 c6 w6 o6 gr6 at6
          have z6 := gr6.size
          try simp only [World.size_drew] at z6
          replace HBB := below_grown HBB gr6 o3 (by first | exact Nat.le_refl _ | (simp only [World.size_alloc, World.size_setCell, World.size_drew] at *; omega) | omega)
          have zHBB6 := HBB.size
          replace rP0 := Rd.grownOwn rP0 gr6 o3 (by first | exact Nat.le_refl _ | (simp only [World.size_alloc, World.size_setCell, World.size_drew] at *; omega) | omega) (by first | exact Nat.le_refl _ | (simp only [World.size_alloc, World.size_setCell, World.size_drew] at *; omega) | omega)
          replace b1 := Blk.grown b1 gr6 (by intro e; have := o3.blk _ e.symm; omega)
          replace b2 := Blk.grown b2 gr6 (by intro e; have := o3.blk _ e.symm; omega)
          replace b3 := Blk.grown b3 gr6 (by intro e; have := o3.blk _ e.symm; omega)
          refine hK6.out _ _ ?su1xb1xb17xb18xb23x6 (fun hHeld => ?ru1xb1xb17xb18xb23x6)
          case su1xb1xb17xb18xb23x6 => ((try dsimp only); exact ⟨b2.cell_ 0 rfl, b2.cell_ 1 rfl, b2.cell_ 2 rfl, b2.cell_ 3 rfl, b2.cell_ 4 rfl⟩)
          try simp only [List.setIfInBounds_toArray, List.set_cons_zero, List.set_cons_succ]
          refine take_op (v := ?vu1xb1xb17xb18xb23x7) 7 (Op.fieldAddr 29 (Operand.tmp 2) 0) 0 rfl rfl rfl rfl rfl (by kernel_rfl) (by kernel_rfl) (by kernel_rfl) (fun _ _ _ h => h) ?yu1xb1xb17xb18xb23x7 (by assumption) ?ru1xb1xb17xb18xb23x7
          case yu1xb1xb17xb18xb23x7 => (intro w' hSw; (try dsimp only at hSw); go_simp; try (with_reducible rfl))
          simp only [List.setIfInBounds_toArray, List.set_cons_zero, List.set_cons_succ]
          refine wpAnyH_ready (rs := [8]) (by kernel_rfl) (by simp) (AllReadyH.cons rfl (fun K8 hK8 => ?ku1xb1xb17xb18xb23x8) AllReadyH.nil)
          refine take_store 8 (Op.store 27 (Operand.tmp 12) (Operand.tmp 11)) 0 rfl rfl rfl (by kernel_rfl) (w' := w6.setCell ⟨B, 0, none⟩ (.slice A6 (0 + n + 1) c6)) (by obtain ⟨cL, _, _, fL, _⟩ := blk3 b1; go_simp; try (with_reducible rfl)) ?_
          refine hK8.out _ _ (⟨(b2.far (p := ⟨B, 0, none⟩) (by dsimp only; omega) _).cell_ 0 rfl, (b2.far (p := ⟨B, 0, none⟩) (by dsimp only; omega) _).cell_ 1 rfl, (b2.far (p := ⟨B, 0, none⟩) (by dsimp only; omega) _).cell_ 2 rfl, (b2.far (p := ⟨B, 0, none⟩) (by dsimp only; omega) _).cell_ 3 rfl, (b2.far (p := ⟨B, 0, none⟩) (by dsimp only; omega) _).cell_ 4 rfl⟩) (fun hHeld => ?_)
          refine wpAnyH_done (by kernel_rfl) ?_ _
          simp only [Nat.zero_add, List.nil_append] at o6 ⊢
          have hA6 := o6.blk
          have b1' := b1.set 0 (.slice A6 (n + 1) c6)
          have b3' := b3.far (p := ⟨B, 0, none⟩) (by dsimp only; omega) (.slice A6 (n + 1) c6)
          have o6' := o6.far (p := ⟨B, 0, none⟩) (fun e => by have := (hA6 _ e).1; dsimp only at this; omega) (.slice A6 (n + 1) c6)
          have HW : Below B w (w6.setCell ⟨B, 0, none⟩ (.slice A6 (n + 1) c6)) := (HB.trans (HBB.mono (by omega))).setCell (p := ⟨B, 0, none⟩) (Nat.le_refl _) _
          generalize w6.setCell ⟨B, 0, none⟩ (.slice A6 (n + 1) c6) = w7 at *
          have b1q : Blk w7 B 29 #[.slice A6 (n + 1) c6, .int .i64 sz, .int .i64 dp] := b1'
          obtain ⟨c0, c1, c2, _⟩ := blk3 b1q
          obtain ⟨d0, d1, d2, f0, f1, f2, _⟩ := blk3 b3'
          clear b1 b2 b3 b1' rP0 o3 o6 HBB
          go_wp2_with fail
          refine bodyPost_ret (results_r1 rfl _ _ (B + 1 + 1) #[.slice A6 (n + 1) c6, .int .i64 sz, .int .i64 dp] _ rfl (blk_eq (((b3'.set 0 _).set 1 _).set 2 _) (by simp)) Tryd.underlying29 rfl (by kernel_rfl)) rfl ?_
          refine ⟨A6, c6, rfl, o6'.cap, o6'.capm, ⟨pl ++ [(p, v)], by rw [List.map_append, HPL.out]; rfl, ?_, ?_⟩, ?_⟩
          · have := own_far3 (a := .slice A6 (n + 1) c6) (b := .int .i64 sz) (d := .int .i64 dp) o6' (show B + 1 + 1 < B + 1 + 1 + 1 by omega)
            rw [plc_app]
            exact RdS.of_own this (fun b h1 _ => .inr (by rw [HBq.out]; omega))
          · have HW2 := below3 (a' := .slice A6 (n + 1) c6) (b' := .int .i64 sz) (c' := .int .i64 dp) HW (show B ≤ B + 1 + 1 by omega)
            rw [← HBq.out] at HW2
            have HK : ∀ b, S b → b < w.heap.size → (((w7.setCell ⟨B + 1 + 1, 0, none⟩ (.slice A6 (n + 1) c6)).setCell ⟨B + 1 + 1, 1, none⟩ (.int .i64 sz)).setCell ⟨B + 1 + 1, 2, none⟩ (.int .i64 dp)).heap[b]? = w.heap[b]? ∧ (S b ∨ w.heap.size ≤ b) :=
              fun b h1 h2 => by rw [HBq.out] at HW2 ⊢; exact ⟨HW2.block b (by rw [← HBq.out]; exact h2), .inl h1⟩
            intro x hx
            rcases List.mem_append.1 hx with h | h
            · exact (HO.out x h).keep HK
            · simp only [List.mem_singleton] at h
              subst h
              exact HV.out.keep HK
          · have HW2 := below3 (a' := .slice A6 (n + 1) c6) (b' := .int .i64 sz) (c' := .int .i64 dp) HW (show B ≤ B + 1 + 1 by omega)
            rw [HBq.out]
            exact HW2
      case ku1xb1xb17x5 =>
        refine take_build (e := 75) (len := 1) (size := 5) (B + 1 + 1 + 1) (pcell (p, v)) 5 (Op.buildSlice 27 1 #[(0, Operand.tmp 9)]) 27 rfl rfl rfl (by kernel_rfl) ?eu1xb1xb17xb27x5 (by rfl) (by decide) (by first | exact Nat.le_refl _ | (simp only [World.size_alloc, World.size_setCell, World.size_drew] at *; omega) | omega) ?_
        case eu1xb1xb17xb27x5 => (go_simp; try (first | with_reducible rfl | (simp [rcells, rcell]; done) | (simp [fcells]; done) | (simp [tcells]; done) | rfl))
        intro gx5 w5 o5 gr5 l5 m5
        have z5 := gr5.size
        try simp only [World.size_drew] at z5
        replace HBB := below_grow HBB gr5
        have zHBB5 := HBB.size
        replace rP0 := Rd.grow0 rP0 gr5 (by first | exact Nat.le_refl _ | (simp only [World.size_alloc, World.size_setCell, World.size_drew] at *; omega) | omega)
        replace b1 := Blk.grow0 b1 gr5
        replace b2 := Blk.grow0 b2 gr5
        replace b3 := Blk.grow0 b3 gr5
        replace o0 := Own.grow0 o0 gr5
        refine hK5.out _ _ ?su1xb1xb17xb27x5 (fun hHeld => ?ru1xb1xb17xb27x5)
        case su1xb1xb17xb27x5 => ((try dsimp only); exact ⟨b2.cell_ 0 rfl, b2.cell_ 1 rfl, b2.cell_ 2 rfl, b2.cell_ 3 rfl, b2.cell_ 4 rfl⟩)
        try simp only [List.setIfInBounds_toArray, List.set_cons_zero, List.set_cons_succ]
        refine wpAnyH_ready (rs := [2]) (by kernel_rfl) (by simp) (AllReadyH.cons rfl (fun K2 hK2 => ?ku1xb1xb17xb27x2) AllReadyH.nil)
        refine take_any 2 (Op.load 27 (Operand.tmp 6)) 27 rfl rfl rfl (by kernel_rfl) (v := .slice A n c) (by have cL := b1.cell_ 0 rfl; go_simp; try (with_reducible rfl)) ?_
        refine hK2.out _ _ ?su1xb1xb17xb27x2 (fun hHeld => ?ru1xb1xb17xb27x2)
        case su1xb1xb17xb27x2 => ((try dsimp only); exact ⟨b2.cell_ 0 rfl, b2.cell_ 1 rfl, b2.cell_ 2 rfl, b2.cell_ 3 rfl, b2.cell_ 4 rfl⟩)
        try simp only [List.setIfInBounds_toArray, List.set_cons_zero, List.set_cons_succ]
        refine wpAnyH_ready (rs := [3]) (by kernel_rfl) (by simp) (AllReadyH.cons rfl (fun K3 hK3 => ?ku1xb1xb17xb27x3) AllReadyH.nil)
        refine take_app El_part 3 (Operand.tmp 5) (Operand.tmp 7) 27 rfl rfl rfl (by kernel_rfl) o0 rfl (rP0) rfl (hone) (by unfold maxLen; omega) (by omega) (by first | exact Nat.le_refl _ | (simp only [World.size_alloc, World.size_setCell, World.size_drew] at *; omega) | omega) ?_
        intro A3 c3 w3 o3 gr3 at3
        have z3 := gr3.size
        try simp only [World.size_drew] at z3
        replace HBB := below_grown HBB gr3 o0 (by first | exact Nat.le_refl _ | (simp only [World.size_alloc, World.size_setCell, World.size_drew] at *; omega) | omega)
        have zHBB3 := HBB.size
        replace rP0 := Rd.grownOwn rP0 gr3 o0 (by first | exact Nat.le_refl _ | (simp only [World.size_alloc, World.size_setCell, World.size_drew] at *; omega) | omega) (by first | exact Nat.le_refl _ | (simp only [World.size_alloc, World.size_setCell, World.size_drew] at *; omega) | omega)
        replace b1 := Blk.grown b1 gr3 (by intro e; have := o0.blk _ e.symm; omega)
        replace b2 := Blk.grown b2 gr3 (by intro e; have := o0.blk _ e.symm; omega)
        replace b3 := Blk.grown b3 gr3 (by intro e; have := o0.blk _ e.symm; omega)
        replace o5 := Own.other o5 gr3 (by intro k hk e; simp only [blkOf, Option.map_some, Option.some.injEq] at hk e; omega)
        refine hK3.out _ _ ?su1xb1xb17xb27x3 (fun hHeld => ?ru1xb1xb17xb27x3)
        case su1xb1xb17xb27x3 => ((try dsimp only); exact ⟨b2.cell_ 0 rfl, b2.cell_ 1 rfl, b2.cell_ 2 rfl, b2.cell_ 3 rfl, b2.cell_ 4 rfl⟩)
        try simp only [List.setIfInBounds_toArray, List.set_cons_zero, List.set_cons_succ]
        refine wpAnyH_ready (rs := [6]) (by kernel_rfl) (by simp) (AllReadyH.cons rfl (fun K6 hK6 => ?ku1xb1xb17xb27x6) AllReadyH.nil)
        refine take_app El_part 6 (Operand.tmp 8) (Operand.tmp 10) 27 rfl rfl rfl (by kernel_rfl) o3 rfl (o5.rd) rfl (pcell_one hvo) (by unfold maxLen; omega) (by omega) (by first | exact Nat.le_refl _ | (simp only [World.size_alloc, World.size_setCell, World.size_drew] at *; omega) | omega) ?_
        intro A6 c6 w6 o6 gr6 at6
        have z6 := gr6.size
        try simp only [World.size_drew] at z6
        replace HBB := below_grown HBB gr6 o3 (by first | exact Nat.le_refl _ | (simp only [World.size_alloc, World.size_setCell, World.size_drew] at *; omega) | omega)
        have zHBB6 := HBB.size
        replace rP0 := Rd.grownOwn rP0 gr6 o3 (by first | exact Nat.le_refl _ | (simp only [World.size_alloc, World.size_setCell, World.size_drew] at *; omega) | omega) (by first | exact Nat.le_refl _ | (simp only [World.size_alloc, World.size_setCell, World.size_drew] at *; omega) | omega)
        replace b1 := Blk.grown b1 gr6 (by intro e; have := o3.blk _ e.symm; omega)
        replace b2 := Blk.grown b2 gr6 (by intro e; have := o3.blk _ e.symm; omega)
        replace b3 := Blk.grown b3 gr6 (by intro e; have := o3.blk _ e.symm; omega)
        refine hK6.out _ _ ?su1xb1xb17xb27x6 (fun hHeld => ?ru1xb1xb17xb27x6)
        case su1xb1xb17xb27x6 => ((try dsimp only); exact ⟨b2.cell_ 0 rfl, b2.cell_ 1 rfl, b2.cell_ 2 rfl, b2.cell_ 3 rfl, b2.cell_ 4 rfl⟩)
        try simp only [List.setIfInBounds_toArray, List.set_cons_zero, List.set_cons_succ]
        refine take_op (v := ?vu1xb1xb17xb27x7) 7 (Op.fieldAddr 29 (Operand.tmp 2) 0) 0 rfl rfl rfl rfl rfl (by kernel_rfl) (by kernel_rfl) (by kernel_rfl) (fun _ _ _ h => h) ?yu1xb1xb17xb27x7 (by assumption) ?ru1xb1xb17xb27x7
        case yu1xb1xb17xb27x7 => (intro w' hSw; (try dsimp only at hSw); go_simp; try (with_reducible rfl))
        simp only [List.setIfInBounds_toArray, List.set_cons_zero, List.set_cons_succ]
        refine wpAnyH_ready (rs := [8]) (by kernel_rfl) (by simp) (AllReadyH.cons rfl (fun K8 hK8 => ?ku1xb1xb17xb27x8) AllReadyH.nil)
        refine take_store 8 (Op.store 27 (Operand.tmp 12) (Operand.tmp 11)) 0 rfl rfl rfl (by kernel_rfl) (w' := w6.setCell ⟨B, 0, none⟩ (.slice A6 (0 + n + 1) c6)) (by obtain ⟨cL, _, _, fL, _⟩ := blk3 b1; go_simp; try (with_reducible rfl)) ?_
        refine hK8.out _ _ (⟨(b2.far (p := ⟨B, 0, none⟩) (by dsimp only; omega) _).cell_ 0 rfl, (b2.far (p := ⟨B, 0, none⟩) (by dsimp only; omega) _).cell_ 1 rfl, (b2.far (p := ⟨B, 0, none⟩) (by dsimp only; omega) _).cell_ 2 rfl, (b2.far (p := ⟨B, 0, none⟩) (by dsimp only; omega) _).cell_ 3 rfl, (b2.far (p := ⟨B, 0, none⟩) (by dsimp only; omega) _).cell_ 4 rfl⟩) (fun hHeld => ?_)
        refine wpAnyH_done (by kernel_rfl) ?_ _
        simp only [Nat.zero_add, List.nil_append] at o6 ⊢
        have hA6 := o6.blk
        have b1' := b1.set 0 (.slice A6 (n + 1) c6)
        have b3' := b3.far (p := ⟨B, 0, none⟩) (by dsimp only; omega) (.slice A6 (n + 1) c6)
        have o6' := o6.far (p := ⟨B, 0, none⟩) (fun e => by have := (hA6 _ e).1; dsimp only at this; omega) (.slice A6 (n + 1) c6)
        have HW : Below B w (w6.setCell ⟨B, 0, none⟩ (.slice A6 (n + 1) c6)) := (HB.trans (HBB.mono (by omega))).setCell (p := ⟨B, 0, none⟩) (Nat.le_refl _) _
        generalize w6.setCell ⟨B, 0, none⟩ (.slice A6 (n + 1) c6) = w7 at *
        have b1q : Blk w7 B 29 #[.slice A6 (n + 1) c6, .int .i64 sz, .int .i64 dp] := b1'
        obtain ⟨c0, c1, c2, _⟩ := blk3 b1q
        obtain ⟨d0, d1, d2, f0, f1, f2, _⟩ := blk3 b3'
        clear b1 b2 b3 b1' rP0 o3 o6 HBB
        go_wp2_with fail
        refine bodyPost_ret (results_r1 rfl _ _ (B + 1 + 1) #[.slice A6 (n + 1) c6, .int .i64 sz, .int .i64 dp] _ rfl (blk_eq (((b3'.set 0 _).set 1 _).set 2 _) (by simp)) Tryd.underlying29 rfl (by kernel_rfl)) rfl ?_
        refine ⟨A6, c6, rfl, o6'.cap, o6'.capm, ⟨pl ++ [(p, v)], by rw [List.map_append, HPL.out]; rfl, ?_, ?_⟩, ?_⟩
        · have := own_far3 (a := .slice A6 (n + 1) c6) (b := .int .i64 sz) (d := .int .i64 dp) o6' (show B + 1 + 1 < B + 1 + 1 + 1 by omega)
          rw [plc_app]
          exact RdS.of_own this (fun b h1 _ => .inr (by rw [HBq.out]; omega))
        · have HW2 := below3 (a' := .slice A6 (n + 1) c6) (b' := .int .i64 sz) (c' := .int .i64 dp) HW (show B ≤ B + 1 + 1 by omega)
          rw [← HBq.out] at HW2
          have HK : ∀ b, S b → b < w.heap.size → (((w7.setCell ⟨B + 1 + 1, 0, none⟩ (.slice A6 (n + 1) c6)).setCell ⟨B + 1 + 1, 1, none⟩ (.int .i64 sz)).setCell ⟨B + 1 + 1, 2, none⟩ (.int .i64 dp)).heap[b]? = w.heap[b]? ∧ (S b ∨ w.heap.size ≤ b) :=
            fun b h1 h2 => by rw [HBq.out] at HW2 ⊢; exact ⟨HW2.block b (by rw [← HBq.out]; exact h2), .inl h1⟩
          intro x hx
          rcases List.mem_append.1 hx with h | h
          · exact (HO.out x h).keep HK
          · simp only [List.mem_singleton] at h
            subst h
            exact HV.out.keep HK
        · have HW2 := below3 (a' := .slice A6 (n + 1) c6) (b' := .int .i64 sz) (c' := .int .i64 dp) HW (show B ≤ B + 1 + 1 by omega)
          rw [HBq.out]
          exact HW2
  case ku1x2 =>
    refine take_any 2 (Op.load 27 (Operand.tmp 6)) 27 rfl rfl rfl (by kernel_rfl) (v := .slice A n c) (by have cL := b1.cell_ 0 rfl; go_simp; try (with_reducible rfl)) ?_
    refine hK2.out _ _ ?su1xb32x2 (fun hHeld => ?ru1xb32x2)
    case su1xb32x2 => ((try dsimp only); exact ⟨b2.cell_ 0 rfl, b2.cell_ 1 rfl, b2.cell_ 2 rfl, b2.cell_ 3 rfl, b2.cell_ 4 rfl⟩)
    try simp only [List.setIfInBounds_toArray, List.set_cons_zero, List.set_cons_succ]
    refine wpAnyH_ready (rs := [0, 4]) (by kernel_rfl) (by simp) (AllReadyH.cons rfl (fun K0 hK0 => ?ku1xb32x0) (AllReadyH.cons rfl (fun K4 hK4 => ?ku1xb32x4) AllReadyH.nil))
    case ku1xb32x0 =>
      refine take_build (e := 75) (len := 0) (size := 5) (B + 1 + 1 + 1) ([]) 0 (Op.buildSlice 27 0 #[]) 27 rfl rfl rfl (by kernel_rfl) ?eu1xb32xb33x0 (by rfl) (by decide) (by first | exact Nat.le_refl _ | (simp only [World.size_alloc, World.size_setCell, World.size_drew] at *; omega) | omega) ?_
      case eu1xb32xb33x0 => (go_simp; try (first | with_reducible rfl | (simp [rcells, rcell]; done) | (simp [fcells]; done) | (simp [tcells]; done) | rfl))
      intro gx0 w0 o0 gr0 l0 m0
      have z0 := gr0.size
      try simp only [World.size_drew] at z0
      replace HBB := below_grow HBB gr0
      have zHBB0 := HBB.size
      replace rP0 := Rd.grow0 rP0 gr0 (by first | exact Nat.le_refl _ | (simp only [World.size_alloc, World.size_setCell, World.size_drew] at *; omega) | omega)
      replace b1 := Blk.grow0 b1 gr0
      replace b2 := Blk.grow0 b2 gr0
      replace b3 := Blk.grow0 b3 gr0
      refine hK0.out _ _ ?su1xb32xb33x0 (fun hHeld => ?ru1xb32xb33x0)
      case su1xb32xb33x0 => ((try dsimp only); exact ⟨b2.cell_ 0 rfl, b2.cell_ 1 rfl, b2.cell_ 2 rfl, b2.cell_ 3 rfl, b2.cell_ 4 rfl⟩)
      try simp only [List.setIfInBounds_toArray, List.set_cons_zero, List.set_cons_succ]
      refine wpAnyH_ready (rs := [3, 4]) (by kernel_rfl) (by simp) (AllReadyH.cons rfl (fun K3 hK3 => ?ku1xb32xb33x3) (AllReadyH.cons rfl (fun K4 hK4 => ?ku1xb32xb33x4) AllReadyH.nil))
      case ku1xb32xb33x3 =>
        refine take_app El_part 3 (Operand.tmp 5) (Operand.tmp 7) 27 rfl rfl rfl (by kernel_rfl) o0 rfl (rP0) rfl (hone) (by unfold maxLen; omega) (by omega) (by first | exact Nat.le_refl _ | (simp only [World.size_alloc, World.size_setCell, World.size_drew] at *; omega) | omega) ?_
        intro A3 c3 w3 o3 gr3 at3
        have z3 := gr3.size
        try simp only [World.size_drew] at z3
        replace HBB := below_grown HBB gr3 o0 (by first | exact Nat.le_refl _ | (simp only [World.size_alloc, World.size_setCell, World.size_drew] at *; omega) | omega)
        have zHBB3 := HBB.size
        replace rP0 := Rd.grownOwn rP0 gr3 o0 (by first | exact Nat.le_refl _ | (simp only [World.size_alloc, World.size_setCell, World.size_drew] at *; omega) | omega) (by first | exact Nat.le_refl _ | (simp only [World.size_alloc, World.size_setCell, World.size_drew] at *; omega) | omega)
        replace b1 := Blk.grown b1 gr3 (by intro e; have := o0.blk _ e.symm; omega)
        replace b2 := Blk.grown b2 gr3 (by intro e; have := o0.blk _ e.symm; omega)
        replace b3 := Blk.grown b3 gr3 (by intro e; have := o0.blk _ e.symm; omega)
        refine hK3.out _ _ ?su1xb32xb33xb34x3 (fun hHeld => ?ru1xb32xb33xb34x3)
        case su1xb32xb33xb34x3 => ((try dsimp only); exact ⟨b2.cell_ 0 rfl, b2.cell_ 1 rfl, b2.cell_ 2 rfl, b2.cell_ 3 rfl, b2.cell_ 4 rfl⟩)
        try simp only [List.setIfInBounds_toArray, List.set_cons_zero, List.set_cons_succ]
        refine wpAnyH_ready (rs := [4]) (by kernel_rfl) (by simp) (AllReadyH.cons rfl (fun K4 hK4 => ?ku1xb32xb33xb34x4) AllReadyH.nil)
        refine take_any 4 (Op.load 75 (Operand.tmp 3)) 75 rfl rfl rfl (by kernel_rfl) (v := .agg (pv p.word p.lo p.hi p.what v)) (by obtain ⟨d0, d1, d2, d3, d4, _⟩ := blk5 b2; go_simp; try (with_reducible rfl)) ?_
        refine hK4.out _ _ ?su1xb32xb33xb34x4 (fun hHeld => ?ru1xb32xb33xb34x4)
        case su1xb32xb33xb34x4 => ((try dsimp only); exact ⟨b2.cell_ 0 rfl, b2.cell_ 1 rfl, b2.cell_ 2 rfl, b2.cell_ 3 rfl, b2.cell_ 4 rfl⟩)
        try simp only [List.setIfInBounds_toArray, List.set_cons_zero, List.set_cons_succ]
        refine wpAnyH_ready (rs := [5]) (by kernel_rfl) (by simp) (AllReadyH.cons rfl (fun K5 hK5 => ?ku1xb32xb33xb34x5) AllReadyH.nil)
        refine take_build (e := 75) (len := 1) (size := 5) (B + 1 + 1 + 1) (pcell (p, v)) 5 (Op.buildSlice 27 1 #[(0, Operand.tmp 9)]) 27 rfl rfl rfl (by kernel_rfl) ?eu1xb32xb33xb34x5 (by rfl) (by decide) (by first | exact Nat.le_refl _ | (simp only [World.size_alloc, World.size_setCell, World.size_drew] at *; omega) | omega) ?_
        case eu1xb32xb33xb34x5 => (go_simp; try (first | with_reducible rfl | (simp [rcells, rcell]; done) | (simp [fcells]; done) | (simp [tcells]; done) | rfl))
        intro gx5 w5 o5 gr5 l5 m5
        have z5 := gr5.size
        try simp only [World.size_drew] at z5
        replace HBB := below_grow HBB gr5
        have zHBB5 := HBB.size
        replace rP0 := Rd.grow0 rP0 gr5 (by first | exact Nat.le_refl _ | (simp only [World.size_alloc, World.size_setCell, World.size_drew] at *; omega) | omega)
        replace b1 := Blk.grow0 b1 gr5
        replace b2 := Blk.grow0 b2 gr5
        replace b3 := Blk.grow0 b3 gr5
        replace o3 := Own.grow0 o3 gr5
        refine hK5.out _ _ ?su1xb32xb33xb34x5 (fun hHeld => ?ru1xb32xb33xb34x5)
        case su1xb32xb33xb34x5 => ((try dsimp only); exact ⟨b2.cell_ 0 rfl, b2.cell_ 1 rfl, b2.cell_ 2 rfl, b2.cell_ 3 rfl, b2.cell_ 4 rfl⟩)
        try simp only [List.setIfInBounds_toArray, List.set_cons_zero, List.set_cons_succ]
        refine wpAnyH_ready (rs := [6]) (by kernel_rfl) (by simp) (AllReadyH.cons rfl (fun K6 hK6 => ?ku1xb32xb33xb34x6) AllReadyH.nil)
        refine take_app El_part 6 (Operand.tmp 8) (Operand.tmp 10) 27 rfl rfl rfl (by kernel_rfl) o3 rfl (o5.rd) rfl (pcell_one hvo) (by unfold maxLen; omega) (by omega) (by first | exact Nat.le_refl _ | (simp only [World.size_alloc, World.size_setCell, World.size_drew] at *; omega) | omega) ?_
        intro A6 c6 w6 o6 gr6 at6
        have z6 := gr6.size
        try simp only [World.size_drew] at z6
        replace HBB := below_grown HBB gr6 o3 (by first | exact Nat.le_refl _ | (simp only [World.size_alloc, World.size_setCell, World.size_drew] at *; omega) | omega)
        have zHBB6 := HBB.size
        replace rP0 := Rd.grownOwn rP0 gr6 o3 (by first | exact Nat.le_refl _ | (simp only [World.size_alloc, World.size_setCell, World.size_drew] at *; omega) | omega) (by first | exact Nat.le_refl _ | (simp only [World.size_alloc, World.size_setCell, World.size_drew] at *; omega) | omega)
        replace b1 := Blk.grown b1 gr6 (by intro e; have := o3.blk _ e.symm; omega)
        replace b2 := Blk.grown b2 gr6 (by intro e; have := o3.blk _ e.symm; omega)
        replace b3 := Blk.grown b3 gr6 (by intro e; have := o3.blk _ e.symm; omega)
        refine hK6.out _ _ ?su1xb32xb33xb34x6 (fun hHeld => ?ru1xb32xb33xb34x6)
        case su1xb32xb33xb34x6 => ((try dsimp only); exact ⟨b2.cell_ 0 rfl, b2.cell_ 1 rfl, b2.cell_ 2 rfl, b2.cell_ 3 rfl, b2.cell_ 4 rfl⟩)
        try simp only [List.setIfInBounds_toArray, List.set_cons_zero, List.set_cons_succ]
        refine take_op (v := ?vu1xb32xb33xb34x7) 7 (Op.fieldAddr 29 (Operand.tmp 2) 0) 0 rfl rfl rfl rfl rfl (by kernel_rfl) (by kernel_rfl) (by kernel_rfl) (fun _ _ _ h => h) ?yu1xb32xb33xb34x7 (by assumption) ?ru1xb32xb33xb34x7
        case yu1xb32xb33xb34x7 => (intro w' hSw; (try dsimp only at hSw); go_simp; try (with_reducible rfl))
        simp only [List.setIfInBounds_toArray, List.set_cons_zero, List.set_cons_succ]
        refine wpAnyH_ready (rs := [8]) (by kernel_rfl) (by simp) (AllReadyH.cons rfl (fun K8 hK8 => ?ku1xb32xb33xb34x8) AllReadyH.nil)
        refine take_store 8 (Op.store 27 (Operand.tmp 12) (Operand.tmp 11)) 0 rfl rfl rfl (by kernel_rfl) (w' := w6.setCell ⟨B, 0, none⟩ (.slice A6 (0 + n + 1) c6)) (by obtain ⟨cL, _, _, fL, _⟩ := blk3 b1; go_simp; try (with_reducible rfl)) ?_
        refine hK8.out _ _ (⟨(b2.far (p := ⟨B, 0, none⟩) (by dsimp only; omega) _).cell_ 0 rfl, (b2.far (p := ⟨B, 0, none⟩) (by dsimp only; omega) _).cell_ 1 rfl, (b2.far (p := ⟨B, 0, none⟩) (by dsimp only; omega) _).cell_ 2 rfl, (b2.far (p := ⟨B, 0, none⟩) (by dsimp only; omega) _).cell_ 3 rfl, (b2.far (p := ⟨B, 0, none⟩) (by dsimp only; omega) _).cell_ 4 rfl⟩) (fun hHeld => ?_)
        refine wpAnyH_done (by kernel_rfl) ?_ _
        simp only [Nat.zero_add, List.nil_append] at o6 ⊢
        have hA6 := o6.blk
        have b1' := b1.set 0 (.slice A6 (n + 1) c6)
        have b3' := b3.far (p := ⟨B, 0, none⟩) (by dsimp only; omega) (.slice A6 (n + 1) c6)
        have o6' := o6.far (p := ⟨B, 0, none⟩) (fun e => by have := (hA6 _ e).1; dsimp only at this; omega) (.slice A6 (n + 1) c6)
        have HW : Below B w (w6.setCell ⟨B, 0, none⟩ (.slice A6 (n + 1) c6)) := (HB.trans (HBB.mono (by omega))).setCell (p := ⟨B, 0, none⟩) (Nat.le_refl _) _
        generalize w6.setCell ⟨B, 0, none⟩ (.slice A6 (n + 1) c6) = w7 at *
        have b1q : Blk w7 B 29 #[.slice A6 (n + 1) c6, .int .i64 sz, .int .i64 dp] := b1'
        obtain ⟨c0, c1, c2, _⟩ := blk3 b1q
        obtain ⟨d0, d1, d2, f0, f1, f2, _⟩ := blk3 b3'
        clear b1 b2 b3 b1' rP0 o3 o6 HBB
        go_wp2_with fail
        refine bodyPost_ret (results_r1 rfl _ _ (B + 1 + 1) #[.slice A6 (n + 1) c6, .int .i64 sz, .int .i64 dp] _ rfl (blk_eq (((b3'.set 0 _).set 1 _).set 2 _) (by simp)) Tryd.underlying29 rfl (by kernel_rfl)) rfl ?_
        refine ⟨A6, c6, rfl, o6'.cap, o6'.capm, ⟨pl ++ [(p, v)], by rw [List.map_append, HPL.out]; rfl, ?_, ?_⟩, ?_⟩
        · have := own_far3 (a := .slice A6 (n + 1) c6) (b := .int .i64 sz) (d := .int .i64 dp) o6' (show B + 1 + 1 < B + 1 + 1 + 1 by omega)
          rw [plc_app]
          exact RdS.of_own this (fun b h1 _ => .inr (by rw [HBq.out]; omega))
        · have HW2 := below3 (a' := .slice A6 (n + 1) c6) (b' := .int .i64 sz) (c' := .int .i64 dp) HW (show B ≤ B + 1 + 1 by omega)
          rw [← HBq.out] at HW2
          have HK : ∀ b, S b → b < w.heap.size → (((w7.setCell ⟨B + 1 + 1, 0, none⟩ (.slice A6 (n + 1) c6)).setCell ⟨B + 1 + 1, 1, none⟩ (.int .i64 sz)).setCell ⟨B + 1 + 1, 2, none⟩ (.int .i64 dp)).heap[b]? = w.heap[b]? ∧ (S b ∨ w.heap.size ≤ b) :=
            fun b h1 h2 => by rw [HBq.out] at HW2 ⊢; exact ⟨HW2.block b (by rw [← HBq.out]; exact h2), .inl h1⟩
          intro x hx
          rcases List.mem_append.1 hx with h | h
          · exact (HO.out x h).keep HK
          · simp only [List.mem_singleton] at h
            subst h
            exact HV.out.keep HK
        · have HW2 := below3 (a' := .slice A6 (n + 1) c6) (b' := .int .i64 sz) (c' := .int .i64 dp) HW (show B ≤ B + 1 + 1 by omega)
          rw [HBq.out]
          exact HW2
      case ku1xb32xb33x4 =>
        refine take_any 4 (Op.load 75 (Operand.tmp 3)) 75 rfl rfl rfl (by kernel_rfl) (v := .agg (pv p.word p.lo p.hi p.what v)) (by obtain ⟨d0, d1, d2, d3, d4, _⟩ := blk5 b2; go_simp; try (with_reducible rfl)) ?_
        refine hK4.out _ _ ?su1xb32xb33xb39x4 (fun hHeld => ?ru1xb32xb33xb39x4)
        case su1xb32xb33xb39x4 => ((try dsimp only); exact ⟨b2.cell_ 0 rfl, b2.cell_ 1 rfl, b2.cell_ 2 rfl, b2.cell_ 3 rfl, b2.cell_ 4 rfl⟩)
        try simp only [List.setIfInBounds_toArray, List.set_cons_zero, List.set_cons_succ]
        refine wpAnyH_ready (rs := [3, 5]) (by kernel_rfl) (by simp) (AllReadyH.cons rfl (fun K3 hK3 => ?ku1xb32xb33xb39x3) (AllReadyH.cons rfl (fun K5 hK5 => ?ku1xb32xb33xb39x5) AllReadyH.nil))
        case ku1xb32xb33xb39x3 =>
          refine take_app El_part 3 (Operand.tmp 5) (Operand.tmp 7) 27 rfl rfl rfl (by kernel_rfl) o0 rfl (rP0) rfl (hone) (by unfold maxLen; omega) (by omega) (by first | exact Nat.le_refl _ | (simp only [World.size_alloc, World.size_setCell, World.size_drew] at *; omega) | omega) ?_
          intro A3 c3 w3 o3 gr3 at3
          have z3 := gr3.size
          try simp only [World.size_drew] at z3
          replace HBB := below_grown HBB gr3 o0 (by first | exact Nat.le_refl _ | (simp only [World.size_alloc, World.size_setCell, World.size_drew] at *; omega) | omega)
          have zHBB3 := HBB.size
          replace rP0 := Rd.grownOwn rP0 gr3 o0 (by first | exact Nat.le_refl _ | (simp only [World.size_alloc, World.size_setCell, World.size_drew] at *; omega) | omega) (by first | exact Nat.le_refl _ | (simp only [World.size_alloc, World.size_setCell, World.size_drew] at *; omega) | omega)
          replace b1 := Blk.grown b1 gr3 (by intro e; have := o0.blk _ e.symm; omega)
          replace b2 := Blk.grown b2 gr3 (by intro e; have := o0.blk _ e.symm; omega)
          replace b3 := Blk.grown b3 gr3 (by intro e; have := o0.blk _ e.symm; omega)
          refine hK3.out _ _ ?su1xb32xb33xb39xb40x3 (fun hHeld => ?ru1xb32xb33xb39xb40x3)
          case su1xb32xb33xb39xb40x3 => ((try dsimp only); exact ⟨b2.cell_ 0 rfl, b2.cell_ 1 rfl, b2.cell_ 2 rfl, b2.cell_ 3 rfl, b2.cell_ 4 rfl⟩)
          try simp only [List.setIfInBounds_toArray, List.set_cons_zero, List.set_cons_succ]
          refine wpAnyH_ready (rs := [5]) (by kernel_rfl) (by simp) (AllReadyH.cons rfl (fun K5 hK5 => ?ku1xb32xb33xb39xb40x5) AllReadyH.nil)
          refine take_build (e := 75) (len := 1) (size := 5) (B + 1 + 1 + 1) (pcell (p, v)) 5 (Op.buildSlice 27 1 #[(0, Operand.tmp 9)]) 27 rfl rfl rfl (by kernel_rfl) ?eu1xb32xb33xb39xb40x5 (by rfl) (by decide) (by first | exact Nat.le_refl _ | (simp only [World.size_alloc, World.size_setCell, World.size_drew] at *; omega) | omega) ?_
          case eu1xb32xb33xb39xb40x5 => (go_simp; try (first | with_reducible rfl | (simp [rcells, rcell]; done) | (simp [fcells]; done) | (simp [tcells]; done) | rfl))
          intro gx5 w5 o5 gr5 l5 m5
          have z5 := gr5.size
          try simp only [World.size_drew] at z5
          replace HBB := below_grow HBB gr5
          have zHBB5 := HBB.size
          replace rP0 := Rd.grow0 rP0 gr5 (by first | exact Nat.le_refl _ | (simp only [World.size_alloc, World.size_setCell, World.size_drew] at *; omega) | omega)
          replace b1 := Blk.grow0 b1 gr5
          replace b2 := Blk.grow0 b2 gr5
          replace b3 := Blk.grow0 b3 gr5
          replace o3 := Own.grow0 o3 gr5
          refine hK5.out _ _ ?su1xb32xb33xb39xb40x5 (fun hHeld => ?ru1xb32xb33xb39xb40x5)
          case su1xb32xb33xb39xb40x5 => ((try dsimp only); exact ⟨b2.cell_ 0 rfl, b2.cell_ 1 rfl, b2.cell_ 2 rfl, b2.cell_ 3 rfl, b2.cell_ 4 rfl⟩)
          try simp only [List.setIfInBounds_toArray, List.set_cons_zero, List.set_cons_succ]
          refine wpAnyH_ready (rs := [6]) (by kernel_rfl) (by simp) (AllReadyH.cons rfl (fun K6 hK6 => ?ku1xb32xb33xb39xb40x6) AllReadyH.nil)
          refine take_app El_part 6 (Operand.tmp 8) (Operand.tmp 10) 27 rfl rfl rfl (by kernel_rfl) o3 rfl (o5.rd) rfl (pcell_one hvo) (by unfold maxLen; omega) (by omega) (by first | exact Nat.le_refl _ | (simp only [World.size_alloc, World.size_setCell, World.size_drew] at *; omega) | omega) ?_
          intro A6 c6 w6 o6 gr6 at6
          have z6 := gr6.size
          try simp only [World.size_drew] at z6
          replace HBB := below_grown HBB gr6 o3 (by first | exact Nat.le_refl _ | (simp only [World.size_alloc, World.size_setCell, World.size_drew] at *; omega) | omega)
          have zHBB6 := HBB.size
          replace rP0 := Rd.grownOwn rP0 gr6 o3 (by first | exact Nat.le_refl _ | (simp only [World.size_alloc, World.size_setCell, World.size_drew] at *; omega) | omega) (by first | exact Nat.le_refl _ | (simp only [World.size_alloc, World.size_setCell, World.size_drew] at *; omega) | omega)
          replace b1 := Blk.grown b1 gr6 (by intro e; have := o3.blk _ e.symm; omega)
          replace b2 := Blk.grown b2 gr6 (by intro e; have := o3.blk _ e.symm; omega)
          replace b3 := Blk.grown b3 gr6 (by intro e; have := o3.blk _ e.symm; omega)
          refine hK6.out _ _ ?su1xb32xb33xb39xb40x6 (fun hHeld => ?ru1xb32xb33xb39xb40x6)
          case su1xb32xb33xb39xb40x6 => ((try dsimp only); exact ⟨b2.cell_ 0 rfl, b2.cell_ 1 rfl, b2.cell_ 2 rfl, b2.cell_ 3 rfl, b2.cell_ 4 rfl⟩)
          try simp only [List.setIfInBounds_toArray, List.set_cons_zero, List.set_cons_succ]
          refine take_op (v := ?vu1xb32xb33xb39xb40x7) 7 (Op.fieldAddr 29 (Operand.tmp 2) 0) 0 rfl rfl rfl rfl rfl (by kernel_rfl) (by kernel_rfl) (by kernel_rfl) (fun _ _ _ h => h) ?yu1xb32xb33xb39xb40x7 (by assumption) ?ru1xb32xb33xb39xb40x7
          case yu1xb32xb33xb39xb40x7 => (intro w' hSw; (try dsimp only at hSw); go_simp; try (with_reducible rfl))
          simp only [List.setIfInBounds_toArray, List.set_cons_zero, List.set_cons_succ]
          refine wpAnyH_ready (rs := [8]) (by kernel_rfl) (by simp) (AllReadyH.cons rfl (fun K8 hK8 => ?ku1xb32xb33xb39xb40x8) AllReadyH.nil)
          refine take_store 8 (Op.store 27 (Operand.tmp 12) (Operand.tmp 11)) 0 rfl rfl rfl (by kernel_rfl) (w' := w6.setCell ⟨B, 0, none⟩ (.slice A6 (0 + n + 1) c6)) (by obtain ⟨cL, _, _, fL, _⟩ := blk3 b1; go_simp; try (with_reducible rfl)) ?_
          refine hK8.out _ _ (⟨(b2.far (p := ⟨B, 0, none⟩) (by dsimp only; omega) _).cell_ 0 rfl, (b2.far (p := ⟨B, 0, none⟩) (by dsimp only; omega) _).cell_ 1 rfl, (b2.far (p := ⟨B, 0, none⟩) (by dsimp only; omega) _).cell_ 2 rfl, (b2.far (p := ⟨B, 0, none⟩) (by dsimp only; omega) _).cell_ 3 rfl, (b2.far (p := ⟨B, 0, none⟩) (by dsimp only; omega) _).cell_ 4 rfl⟩) (fun hHeld => ?_)
          refine wpAnyH_done (by kernel_rfl) ?_ _
          simp only [Nat.zero_add, List.nil_append] at o6 ⊢
          have hA6 := o6.blk
          have b1' := b1.set 0 (.slice A6 (n + 1) c6)
          have b3' := b3.far (p := ⟨B, 0, none⟩) (by dsimp only; omega) (.slice A6 (n + 1) c6)
          have o6' := o6.far (p := ⟨B, 0, none⟩) (fun e => by have := (hA6 _ e).1; dsimp only at this; omega) (.slice A6 (n + 1) c6)
          have HW : Below B w (w6.setCell ⟨B, 0, none⟩ (.slice A6 (n + 1) c6)) := (HB.trans (HBB.mono (by omega))).setCell (p := ⟨B, 0, none⟩) (Nat.le_refl _) _
          generalize w6.setCell ⟨B, 0, none⟩ (.slice A6 (n + 1) c6) = w7 at *
          have b1q : Blk w7 B 29 #[.slice A6 (n + 1) c6, .int .i64 sz, .int .i64 dp] := b1'
          obtain ⟨c0, c1, c2, _⟩ := blk3 b1q
          obtain ⟨d0, d1, d2, f0, f1, f2, _⟩ := blk3 b3'
          clear b1 b2 b3 b1' rP0 o3 o6 HBB
          go_wp2_with fail
          refine bodyPost_ret (results_r1 rfl _ _ (B + 1 + 1) #[.slice A6 (n + 1) c6, .int .i64 sz, .int .i64 dp] _ rfl (blk_eq (((b3'.set 0 _).set 1 _).set 2 _) (by simp)) Tryd.underlying29 rfl (by kernel_rfl)) rfl ?_
          refine ⟨A6, c6, rfl, o6'.cap, o6'.capm, ⟨pl ++ [(p, v)], by rw [List.map_append, HPL.out]; rfl, ?_, ?_⟩, ?_⟩
          · have := own_far3 (a := .slice A6 (n + 1) c6) (b := .int .i64 sz) (d := .int .i64 dp) o6' (show B + 1 + 1 < B + 1 + 1 + 1 by omega)
            rw [plc_app]
            exact RdS.of_own this (fun b h1 _ => .inr (by rw [HBq.out]; omega))
          · have HW2 := below3 (a' := .slice A6 (n + 1) c6) (b' := .int .i64 sz) (c' := .int .i64 dp) HW (show B ≤ B + 1 + 1 by omega)
            rw [← HBq.out] at HW2
            have HK : ∀ b, S b → b < w.heap.size → (((w7.setCell ⟨B + 1 + 1, 0, none⟩ (.slice A6 (n + 1) c6)).setCell ⟨B + 1 + 1, 1, none⟩ (.int .i64 sz)).setCell ⟨B + 1 + 1, 2, none⟩ (.int .i64 dp)).heap[b]? = w.heap[b]? ∧ (S b ∨ w.heap.size ≤ b) :=
              fun b h1 h2 => by rw [HBq.out] at HW2 ⊢; exact ⟨HW2.block b (by rw [← HBq.out]; exact h2), .inl h1⟩
            intro x hx
            rcases List.mem_append.1 hx with h | h
            · exact (HO.out x h).keep HK
            · simp only [List.mem_singleton] at h
              subst h
              exact HV.out.keep HK
          · have HW2 := below3 (a' := .slice A6 (n + 1) c6) (b' := .int .i64 sz) (c' := .int .i64 dp) HW (show B ≤ B + 1 + 1 by omega)
            rw [HBq.out]
            exact HW2
        case ku1xb32xb33xb39x5 =>
          refine take_build (e := 75) (len := 1) (size := 5) (B + 1 + 1 + 1) (pcell (p, v)) 5 (Op.buildSlice 27 1 #[(0, Operand.tmp 9)]) 27 rfl rfl rfl (by kernel_rfl) ?eu1xb32xb33xb39xb44x5 (by rfl) (by decide) (by first | exact Nat.le_refl _ | (simp only [World.size_alloc, World.size_setCell, World.size_drew] at *; omega) | omega) ?_
          case eu1xb32xb33xb39xb44x5 => (go_simp; try (first | with_reducible rfl | (simp [rcells, rcell]; done) | (simp [fcells]; done) | (simp [tcells]; done) | rfl))
          intro gx5 w5 o5 gr5 l5 m5
          have z5 := gr5.size
          try simp only [World.size_drew] at z5
          replace HBB := below_grow HBB gr5
          have zHBB5 := HBB.size
          replace rP0 := Rd.grow0 rP0 gr5 (by first | exact Nat.le_refl _ | (simp only [World.size_alloc, World.size_setCell, World.size_drew] at *; omega) | omega)
          replace b1 := Blk.grow0 b1 gr5
          replace b2 := Blk.grow0 b2 gr5
          replace b3 := Blk.grow0 b3 gr5
          replace o0 := Own.grow0 o0 gr5
          refine hK5.out _ _ ?su1xb32xb33xb39xb44x5 (fun hHeld => ?ru1xb32xb33xb39xb44x5)
          case su1xb32xb33xb39xb44x5 => ((try dsimp only); exact ⟨b2.cell_ 0 rfl, b2.cell_ 1 rfl, b2.cell_ 2 rfl, b2.cell_ 3 rfl, b2.cell_ 4 rfl⟩)
          try simp only [List.setIfInBounds_toArray, List.set_cons_zero, List.set_cons_succ]
          refine wpAnyH_ready (rs := [3]) (by kernel_rfl) (by simp) (AllReadyH.cons rfl (fun K3 hK3 => ?ku1xb32xb33xb39xb44x3) AllReadyH.nil)
          refine take_app El_part 3 (Operand.tmp 5) (Operand.tmp 7) 27 rfl rfl rfl (by kernel_rfl) o0 rfl (rP0) rfl (hone) (by unfold maxLen; omega) (by omega) (by first | exact Nat.le_refl _ | (simp only [World.size_alloc, World.size_setCell, World.size_drew] at *; omega) | omega) ?_
          intro A3 c3 w3 o3 gr3 at3
          have z3 := gr3.size
          try simp only [World.size_drew] at z3
          replace HBB := below_grown HBB gr3 o0 (by first | exact Nat.le_refl _ | (simp only [World.size_alloc, World.size_setCell, World.size_drew] at *; omega) | omega)
          have zHBB3 := HBB.size
          replace rP0 := Rd.grownOwn rP0 gr3 o0 (by first | exact Nat.le_refl _ | (simp only [World.size_alloc, World.size_setCell, World.size_drew] at *; omega) | omega) (by first | exact Nat.le_refl _ | (simp only [World.size_alloc, World.size_setCell, World.size_drew] at *; omega) | omega)
          replace b1 := Blk.grown b1 gr3 (by intro e; have := o0.blk _ e.symm; omega)
          replace b2 := Blk.grown b2 gr3 (by intro e; have := o0.blk _ e.symm; omega)
          replace b3 := Blk.grown b3 gr3 (by intro e; have := o0.blk _ e.symm; omega)
          replace o5 := Own.other o5 gr3 (by intro k hk e; simp only [blkOf, Option.map_some, Option.some.injEq] at hk e; omega)
          refine hK3.out _ _ ?su1xb32xb33xb39xb44x3 (fun hHeld => ?ru1xb32xb33xb39xb44x3)
          case su1xb32xb33xb39xb44x3 => ((try dsimp only); exact ⟨b2.cell_ 0 rfl, b2.cell_ 1 rfl, b2.cell_ 2 rfl, b2.cell_ 3 rfl, b2.cell_ 4 rfl⟩)
          try simp only [List.setIfInBounds_toArray, List.set_cons_zero, List.set_cons_succ]
          refine wpAnyH_ready (rs := [6]) (by kernel_rfl) (by simp) (AllReadyH.cons rfl (fun K6 hK6 => ?ku1xb32xb33xb39xb44x6) AllReadyH.nil)
          refine take_app El_part 6 (Operand.tmp 8) (Operand.tmp 10) 27 rfl rfl rfl (by kernel_rfl) o3 rfl (o5.rd) rfl (pcell_one hvo) (by unfold maxLen; omega) (by omega) (by first | exact Nat.le_refl _ | (simp only [World.size_alloc, World.size_setCell, World.size_drew] at *; omega) | omega) ?_
          intro A6 c6 w6 o6 gr6 at6
          have z6 := gr6.size
          try simp only [World.size_drew] at z6
          replace HBB := below_grown HBB gr6 o3 (by first | exact Nat.le_refl _ | (simp only [World.size_alloc, World.size_setCell, World.size_drew] at *; omega) | omega)
          have zHBB6 := HBB.size
          replace rP0 := Rd.grownOwn rP0 gr6 o3 (by first | exact Nat.le_refl _ | (simp only [World.size_alloc, World.size_setCell, World.size_drew] at *; omega) | omega) (by first | exact Nat.le_refl _ | (simp only [World.size_alloc, World.size_setCell, World.size_drew] at *; omega) | omega)
          replace b1 := Blk.grown b1 gr6 (by intro e; have := o3.blk _ e.symm; omega)
          replace b2 := Blk.grown b2 gr6 (by intro e; have := o3.blk _ e.symm; omega)
          replace b3 := Blk.grown b3 gr6 (by intro e; have := o3.blk _ e.symm; omega)
          refine hK6.out _ _ ?su1xb32xb33xb39xb44x6 (fun hHeld => ?ru1xb32xb33xb39xb44x6)
          case su1xb32xb33xb39xb44x6 => ((try dsimp only); exact ⟨b2.cell_ 0 rfl, b2.cell_ 1 rfl, b2.cell_ 2 rfl, b2.cell_ 3 rfl, b2.cell_ 4 rfl⟩)
          try simp only [List.setIfInBounds_toArray, List.set_cons_zero, List.set_cons_succ]
          refine take_op (v := ?vu1xb32xb33xb39xb44x7) 7 (Op.fieldAddr 29 (Operand.tmp 2) 0) 0 rfl rfl rfl rfl rfl (by kernel_rfl) (by kernel_rfl) (by kernel_rfl) (fun _ _ _ h => h) ?yu1xb32xb33xb39xb44x7 (by assumption) ?ru1xb32xb33xb39xb44x7
          case yu1xb32xb33xb39xb44x7 => (intro w' hSw; (try dsimp only at hSw); go_simp; try (with_reducible rfl))
          simp only [List.setIfInBounds_toArray, List.set_cons_zero, List.set_cons_succ]
          refine wpAnyH_ready (rs := [8]) (by kernel_rfl) (by simp) (AllReadyH.cons rfl (fun K8 hK8 => ?ku1xb32xb33xb39xb44x8) AllReadyH.nil)
          refine take_store 8 (Op.store 27 (Operand.tmp 12) (Operand.tmp 11)) 0 rfl rfl rfl (by kernel_rfl) (w' := w6.setCell ⟨B, 0, none⟩ (.slice A6 (0 + n + 1) c6)) (by obtain ⟨cL, _, _, fL, _⟩ := blk3 b1; go_simp; try (with_reducible rfl)) ?_
          refine hK8.out _ _ (⟨(b2.far (p := ⟨B, 0, none⟩) (by dsimp only; omega) _).cell_ 0 rfl, (b2.far (p := ⟨B, 0, none⟩) (by dsimp only; omega) _).cell_ 1 rfl, (b2.far (p := ⟨B, 0, none⟩) (by dsimp only; omega) _).cell_ 2 rfl, (b2.far (p := ⟨B, 0, none⟩) (by dsimp only; omega) _).cell_ 3 rfl, (b2.far (p := ⟨B, 0, none⟩) (by dsimp only; omega) _).cell_ 4 rfl⟩) (fun hHeld => ?_)
          refine wpAnyH_done (by kernel_rfl) ?_ _
          simp only [Nat.zero_add, List.nil_append] at o6 ⊢
          have hA6 := o6.blk
          have b1' := b1.set 0 (.slice A6 (n + 1) c6)
          have b3' := b3.far (p := ⟨B, 0, none⟩) (by dsimp only; omega) (.slice A6 (n + 1) c6)
          have o6' := o6.far (p := ⟨B, 0, none⟩) (fun e => by have := (hA6 _ e).1; dsimp only at this; omega) (.slice A6 (n + 1) c6)
          have HW : Below B w (w6.setCell ⟨B, 0, none⟩ (.slice A6 (n + 1) c6)) := (HB.trans (HBB.mono (by omega))).setCell (p := ⟨B, 0, none⟩) (Nat.le_refl _) _
          generalize w6.setCell ⟨B, 0, none⟩ (.slice A6 (n + 1) c6) = w7 at *
          have b1q : Blk w7 B 29 #[.slice A6 (n + 1) c6, .int .i64 sz, .int .i64 dp] := b1'
          obtain ⟨c0, c1, c2, _⟩ := blk3 b1q
          obtain ⟨d0, d1, d2, f0, f1, f2, _⟩ := blk3 b3'
          clear b1 b2 b3 b1' rP0 o3 o6 HBB
          go_wp2_with fail
          refine bodyPost_ret (results_r1 rfl _ _ (B + 1 + 1) #[.slice A6 (n + 1) c6, .int .i64 sz, .int .i64 dp] _ rfl (blk_eq (((b3'.set 0 _).set 1 _).set 2 _) (by simp)) Tryd.underlying29 rfl (by kernel_rfl)) rfl ?_
          refine ⟨A6, c6, rfl, o6'.cap, o6'.capm, ⟨pl ++ [(p, v)], by rw [List.map_append, HPL.out]; rfl, ?_, ?_⟩, ?_⟩
          · have := own_far3 (a := .slice A6 (n + 1) c6) (b := .int .i64 sz) (d := .int .i64 dp) o6' (show B + 1 + 1 < B + 1 + 1 + 1 by omega)
            rw [plc_app]
            exact RdS.of_own this (fun b h1 _ => .inr (by rw [HBq.out]; omega))
          · have HW2 := below3 (a' := .slice A6 (n + 1) c6) (b' := .int .i64 sz) (c' := .int .i64 dp) HW (show B ≤ B + 1 + 1 by omega)
            rw [← HBq.out] at HW2
            have HK : ∀ b, S b → b < w.heap.size → (((w7.setCell ⟨B + 1 + 1, 0, none⟩ (.slice A6 (n + 1) c6)).setCell ⟨B + 1 + 1, 1, none⟩ (.int .i64 sz)).setCell ⟨B + 1 + 1, 2, none⟩ (.int .i64 dp)).heap[b]? = w.heap[b]? ∧ (S b ∨ w.heap.size ≤ b) :=
              fun b h1 h2 => by rw [HBq.out] at HW2 ⊢; exact ⟨HW2.block b (by rw [← HBq.out]; exact h2), .inl h1⟩
            intro x hx
            rcases List.mem_append.1 hx with h | h
            · exact (HO.out x h).keep HK
            · simp only [List.mem_singleton] at h
              subst h
              exact HV.out.keep HK
          · have HW2 := below3 (a' := .slice A6 (n + 1) c6) (b' := .int .i64 sz) (c' := .int .i64 dp) HW (show B ≤ B + 1 + 1 by omega)
            rw [HBq.out]
            exact HW2
    case ku1xb32x4 =>
      refine take_any 4 (Op.load 75 (Operand.tmp 3)) 75 rfl rfl rfl (by kernel_rfl) (v := .agg (pv p.word p.lo p.hi p.what v)) (by obtain ⟨d0, d1, d2, d3, d4, _⟩ := blk5 b2; go_simp; try (with_reducible rfl)) ?_
      refine hK4.out _ _ ?su1xb32xb48x4 (fun hHeld => ?ru1xb32xb48x4)
      case su1xb32xb48x4 => ((try dsimp only); exact ⟨b2.cell_ 0 rfl, b2.cell_ 1 rfl, b2.cell_ 2 rfl, b2.cell_ 3 rfl, b2.cell_ 4 rfl⟩)
      try simp only [List.setIfInBounds_toArray, List.set_cons_zero, List.set_cons_succ]
      refine wpAnyH_ready (rs := [0, 5]) (by kernel_rfl) (by simp) (AllReadyH.cons rfl (fun K0 hK0 => ?ku1xb32xb48x0) (AllReadyH.cons rfl (fun K5 hK5 => ?ku1xb32xb48x5) AllReadyH.nil))
      case ku1xb32xb48x0 =>
        refine take_build (e := 75) (len := 0) (size := 5) (B + 1 + 1 + 1) ([]) 0 (Op.buildSlice 27 0 #[]) 27 rfl rfl rfl (by kernel_rfl) ?eu1xb32xb48xb49x0 (by rfl) (by decide) (by first | exact Nat.le_refl _ | (simp only [World.size_alloc, World.size_setCell, World.size_drew] at *; omega) | omega) ?_
        case eu1xb32xb48xb49x0 => (go_simp; try (first | with_reducible rfl | (simp [rcells, rcell]; done) | (simp [fcells]; done) | (simp [tcells]; done) | rfl))
        intro gx0 w0 o0 gr0 l0 m0
        have z0 := gr0.size
        try simp only [World.size_drew] at z0
        replace HBB := below_grow HBB gr0
        have zHBB0 := HBB.size
        replace rP0 := Rd.grow0 rP0 gr0 (by first | exact Nat.le_refl _ | (simp only [World.size_alloc, World.size_setCell, World.size_drew] at *; omega) | omega)
        replace b1 := Blk.grow0 b1 gr0
        replace b2 := Blk.grow0 b2 gr0
        replace b3 := Blk.grow0 b3 gr0
        refine hK0.out _ _ ?su1xb32xb48xb49x0 (fun hHeld => ?ru1xb32xb48xb49x0)
        case su1xb32xb48xb49x0 => ((try dsimp only); exact ⟨b2.cell_ 0 rfl, b2.cell_ 1 rfl, b2.cell_ 2 rfl, b2.cell_ 3 rfl, b2.cell_ 4 rfl⟩)
        try simp only [List.setIfInBounds_toArray, List.set_cons_zero, List.set_cons_succ]
        refine wpAnyH_ready (rs := [3, 5]) (by kernel_rfl) (by simp) (AllReadyH.cons rfl (fun K3 hK3 => ?ku1xb32xb48xb49x3) (AllReadyH.cons rfl (fun K5 hK5 => ?ku1xb32xb48xb49x5) AllReadyH.nil))
        case ku1xb32xb48xb49x3 =>
          refine take_app El_part 3 (Operand.tmp 5) (Operand.tmp 7) 27 rfl rfl rfl (by kernel_rfl) o0 rfl (rP0) rfl (hone) (by unfold maxLen; omega) (by omega) (by first | exact Nat.le_refl _ | (simp only [World.size_alloc, World.size_setCell, World.size_drew] at *; omega) | omega) ?_
          intro A3 c3 w3 o3 gr3 at3
          have z3 := gr3.size
          try simp only [World.size_drew] at z3
          replace HBB := below_grown HBB gr3 o0 (by first | exact Nat.le_refl _ | (simp only [World.size_alloc, World.size_setCell, World.size_drew] at *; omega) | omega)
          have zHBB3 := HBB.size
          replace rP0 := Rd.grownOwn rP0 gr3 o0 (by first | exact Nat.le_refl _ | (simp only [World.size_alloc, World.size_setCell, World.size_drew] at *; omega) | omega) (by first | exact Nat.le_refl _ | (simp only [World.size_alloc, World.size_setCell, World.size_drew] at *; omega) | omega)
          replace b1 := Blk.grown b1 gr3 (by intro e; have := o0.blk _ e.symm; omega)
          replace b2 := Blk.grown b2 gr3 (by intro e; have := o0.blk _ e.symm; omega)
          replace b3 := Blk.grown b3 gr3 (by intro e; have := o0.blk _ e.symm; omega)
          refine hK3.out _ _ ?su1xb32xb48xb49xb50x3 (fun hHeld => ?ru1xb32xb48xb49xb50x3)
          case su1xb32xb48xb49xb50x3 => ((try dsimp only); exact ⟨b2.cell_ 0 rfl, b2.cell_ 1 rfl, b2.cell_ 2 rfl, b2.cell_ 3 rfl, b2.cell_ 4 rfl⟩)
          try simp only [List.setIfInBounds_toArray, List.set_cons_zero, List.set_cons_succ]
          refine wpAnyH_ready (rs := [5]) (by kernel_rfl) (by simp) (AllReadyH.cons rfl (fun K5 hK5 => ?ku1xb32xb48xb49xb50x5) AllReadyH.nil)
          refine take_build (e := 75) (len := 1) (size := 5) (B + 1 + 1 + 1) (pcell (p, v)) 5 (Op.buildSlice 27 1 #[(0, Operand.tmp 9)]) 27 rfl rfl rfl (by kernel_rfl) ?eu1xb32xb48xb49xb50x5 (by rfl) (by decide) (by first | exact Nat.le_refl _ | (simp only [World.size_alloc, World.size_setCell, World.size_drew] at *; omega) | omega) ?_
          case eu1xb32xb48xb49xb50x5 => (go_simp; try (first | with_reducible rfl | (simp [rcells, rcell]; done) | (simp [fcells]; done) | (simp [tcells]; done) | rfl))
          intro gx5 w5 o5 gr5 l5 m5
          have z5 := gr5.size
          try simp only [World.size_drew] at z5
          replace HBB := below_grow HBB gr5
          have zHBB5 := HBB.size
          replace rP0 := Rd.grow0 rP0 gr5 (by first | exact Nat.le_refl _ | (simp only [World.size_alloc, World.size_setCell, World.size_drew] at *; omega) | omega)
          replace b1 := Blk.grow0 b1 gr5
          replace b2 := Blk.grow0 b2 gr5
          replace b3 := Blk.grow0 b3 gr5
          replace o3 := Own.grow0 o3 gr5
          refine hK5.out _ _ ?su1xb32xb48xb49xb50x5 (fun hHeld => ?ru1xb32xb48xb49xb50x5)
          case su1xb32xb48xb49xb50x5 => ((try dsimp only); exact ⟨b2.cell_ 0 rfl, b2.cell_ 1 rfl, b2.cell_ 2 rfl, b2.cell_ 3 rfl, b2.cell_ 4 rfl⟩)
          try simp only [List.setIfInBounds_toArray, List.set_cons_zero, List.set_cons_succ]
          refine wpAnyH_ready (rs := [6]) (by kernel_rfl) (by simp) (AllReadyH.cons rfl (fun K6 hK6 => ?ku1xb32xb48xb49xb50x6) AllReadyH.nil)
          refine take_app El_part 6 (Operand.tmp 8) (Operand.tmp 10) 27 rfl rfl rfl (by kernel_rfl) o3 rfl (o5.rd) rfl (pcell_one hvo) (by unfold maxLen; omega) (by omega) (by first | exact Nat.le_refl _ | (simp only [World.size_alloc, World.size_setCell, World.size_drew] at *; omega) | omega) ?_
          intro A6 c6 w6 o6 gr6 at6
          have z6 := gr6.size
          try simp only [World.size_drew] at z6
          replace HBB := below_grown HBB gr6 o3 (by first | exact Nat.le_refl _ | (simp only [World.size_alloc, World.size_setCell, World.size_drew] at *; omega) | omega)
          have zHBB6 := HBB.size
          replace rP0 := Rd.grownOwn rP0 gr6 o3 (by first | exact Nat.le_refl _ | (simp only [World.size_alloc, World.size_setCell, World.size_drew] at *; omega) | omega) (by first | exact Nat.le_refl _ | (simp only [World.size_alloc, World.size_setCell, World.size_drew] at *; omega) | omega)
          replace b1 := Blk.grown b1 gr6 (by intro e; have := o3.blk _ e.symm; omega)
          replace b2 := Blk.grown b2 gr6 (by intro e; have := o3.blk _ e.symm; omega)
          replace b3 := Blk.grown b3 gr6 (by intro e; have := o3.blk _ e.symm; omega)
          refine hK6.out _ _ ?su1xb32xb48xb49xb50x6 (fun hHeld => ?ru1xb32xb48xb49xb50x6)
          case su1xb32xb48xb49xb50x6 => ((try dsimp only); exact ⟨b2.cell_ 0 rfl, b2.cell_ 1 rfl, b2.cell_ 2 rfl, b2.cell_ 3 rfl, b2.cell_ 4 rfl⟩)
          try simp only [List.setIfInBounds_toArray, List.set_cons_zero, List.set_cons_succ]
          refine take_op (v := ?vu1xb32xb48xb49xb50x7) 7 (Op.fieldAddr 29 (Operand.tmp 2) 0) 0 rfl rfl rfl rfl rfl (by kernel_rfl) (by kernel_rfl) (by kernel_rfl) (fun _ _ _ h => h) ?yu1xb32xb48xb49xb50x7 (by assumption) ?ru1xb32xb48xb49xb50x7
          case yu1xb32xb48xb49xb50x7 => (intro w' hSw; (try dsimp only at hSw); go_simp; try (with_reducible rfl))
          simp only [List.setIfInBounds_toArray, List.set_cons_zero, List.set_cons_succ]
          refine wpAnyH_ready (rs := [8]) (by kernel_rfl) (by simp) (AllReadyH.cons rfl (fun K8 hK8 => ?ku1xb32xb48xb49xb50x8) AllReadyH.nil)
          refine take_store 8 (Op.store 27 (Operand.tmp 12) (Operand.tmp 11)) 0 rfl rfl rfl (by kernel_rfl) (w' := w6.setCell ⟨B, 0, none⟩ (.slice A6 (0 + n + 1) c6)) (by obtain ⟨cL, _, _, fL, _⟩ := blk3 b1; go_simp; try (with_reducible rfl)) ?_
          refine hK8.out _ _ (⟨(b2.far (p := ⟨B, 0, none⟩) (by dsimp only; omega) _).cell_ 0 rfl, (b2.far (p := ⟨B, 0, none⟩) (by dsimp only; omega) _).cell_ 1 rfl, (b2.far (p := ⟨B, 0, none⟩) (by dsimp only; omega) _).cell_ 2 rfl, (b2.far (p := ⟨B, 0, none⟩) (by dsimp only; omega) _).cell_ 3 rfl, (b2.far (p := ⟨B, 0, none⟩) (by dsimp only; omega) _).cell_ 4 rfl⟩) (fun hHeld => ?_)
          refine wpAnyH_done (by kernel_rfl) ?_ _
          simp only [Nat.zero_add, List.nil_append] at o6 ⊢
          have hA6 := o6.blk
          have b1' := b1.set 0 (.slice A6 (n + 1) c6)
          have b3' := b3.far (p := ⟨B, 0, none⟩) (by dsimp only; omega) (.slice A6 (n + 1) c6)
          have o6' := o6.far (p := ⟨B, 0, none⟩) (fun e => by have := (hA6 _ e).1; dsimp only at this; omega) (.slice A6 (n + 1) c6)
          have HW : Below B w (w6.setCell ⟨B, 0, none⟩ (.slice A6 (n + 1) c6)) := (HB.trans (HBB.mono (by omega))).setCell (p := ⟨B, 0, none⟩) (Nat.le_refl _) _
          generalize w6.setCell ⟨B, 0, none⟩ (.slice A6 (n + 1) c6) = w7 at *
          have b1q : Blk w7 B 29 #[.slice A6 (n + 1) c6, .int .i64 sz, .int .i64 dp] := b1'
          obtain ⟨c0, c1, c2, _⟩ := blk3 b1q
          obtain ⟨d0, d1, d2, f0, f1, f2, _⟩ := blk3 b3'
          clear b1 b2 b3 b1' rP0 o3 o6 HBB
          go_wp2_with fail
          refine bodyPost_ret (results_r1 rfl _ _ (B + 1 + 1) #[.slice A6 (n + 1) c6, .int .i64 sz, .int .i64 dp] _ rfl (blk_eq (((b3'.set 0 _).set 1 _).set 2 _) (by simp)) Tryd.underlying29 rfl (by kernel_rfl)) rfl ?_
          refine ⟨A6, c6, rfl, o6'.cap, o6'.capm, ⟨pl ++ [(p, v)], by rw [List.map_append, HPL.out]; rfl, ?_, ?_⟩, ?_⟩
          · have := own_far3 (a := .slice A6 (n + 1) c6) (b := .int .i64 sz) (d := .int .i64 dp) o6' (show B + 1 + 1 < B + 1 + 1 + 1 by omega)
            rw [plc_app]
            exact RdS.of_own this (fun b h1 _ => .inr (by rw [HBq.out]; omega))
          · have HW2 := below3 (a' := .slice A6 (n + 1) c6) (b' := .int .i64 sz) (c' := .int .i64 dp) HW (show B ≤ B + 1 + 1 by omega)
            rw [← HBq.out] at HW2
            have HK : ∀ b, S b → b < w.heap.size → (((w7.setCell ⟨B + 1 + 1, 0, none⟩ (.slice A6 (n + 1) c6)).setCell ⟨B + 1 + 1, 1, none⟩ (.int .i64 sz)).setCell ⟨B + 1 + 1, 2, none⟩ (.int .i64 dp)).heap[b]? = w.heap[b]? ∧ (S b ∨ w.heap.size ≤ b) :=
              fun b h1 h2 => by rw [HBq.out] at HW2 ⊢; exact ⟨HW2.block b (by rw [← HBq.out]; exact h2), .inl h1⟩
            intro x hx
            rcases List.mem_append.1 hx with h | h
            · exact (HO.out x h).keep HK
            · simp only [List.mem_singleton] at h
              subst h
              exact HV.out.keep HK
          · have HW2 := below3 (a' := .slice A6 (n + 1) c6) (b' := .int .i64 sz) (c' := .int .i64 dp) HW (show B ≤ B + 1 + 1 by omega)
            rw [HBq.out]
            exact HW2
        case ku1xb32xb48xb49x5 =>
          refine take_build (e := 75) (len := 1) (size := 5) (B + 1 + 1 + 1) (pcell (p, v)) 5 (Op.buildSlice 27 1 #[(0, Operand.tmp 9)]) 27 rfl rfl rfl (by kernel_rfl) ?eu1xb32xb48xb49xb54x5 (by rfl) (by decide) (by first | exact Nat.le_refl _ | (simp only [World.size_alloc, World.size_setCell, World.size_drew] at *; omega) | omega) ?_
          case eu1xb32xb48xb49xb54x5 => (go_simp; try (first | with_reducible rfl | (simp [rcells, rcell]; done) | (simp [fcells]; done) | (simp [tcells]; done) | rfl))
          intro gx5 w5 o5 gr5 l5 m5
          have z5 := gr5.size
          try simp only [World.size_drew] at z5
          replace HBB := below_grow HBB gr5
          have zHBB5 := HBB.size
          replace rP0 := Rd.grow0 rP0 gr5 (by first | exact Nat.le_refl _ | (simp only [World.size_alloc, World.size_setCell, World.size_drew] at *; omega) | omega)
          replace b1 := Blk.grow0 b1 gr5
          replace b2 := Blk.grow0 b2 gr5
          replace b3 := Blk.grow0 b3 gr5
          replace o0 := Own.grow0 o0 gr5
          refine hK5.out _ _ ?su1xb32xb48xb49xb54x5 (fun hHeld => ?ru1xb32xb48xb49xb54x5)
          case su1xb32xb48xb49xb54x5 => ((try dsimp only); exact ⟨b2.cell_ 0 rfl, b2.cell_ 1 rfl, b2.cell_ 2 rfl, b2.cell_ 3 rfl, b2.cell_ 4 rfl⟩)
          try simp only [List.setIfInBounds_toArray, List.set_cons_zero, List.set_cons_succ]
          refine wpAnyH_ready (rs := [3]) (by kernel_rfl) (by simp) (AllReadyH.cons rfl (fun K3 hK3 => ?ku1xb32xb48xb49xb54x3) AllReadyH.nil)
          refine take_app El_part 3 (Operand.tmp 5) (Operand.tmp 7) 27 rfl rfl rfl (by kernel_rfl) o0 rfl (rP0) rfl (hone) (by unfold maxLen; omega) (by omega) (by first | exact Nat.le_refl _ | (simp only [World.size_alloc, World.size_setCell, World.size_drew] at *; omega) | omega) ?_
          intro A3 c3 w3 o3 gr3 at3
          have z3 := gr3.size
          try simp only [World.size_drew] at z3
          replace HBB := below_grown HBB gr3 o0 (by first | exact Nat.le_refl _ | (simp only [World.size_alloc, World.size_setCell, World.size_drew] at *; omega) | omega)
          have zHBB3 := HBB.size
          replace rP0 := Rd.grownOwn rP0 gr3 o0 (by first | exact Nat.le_refl _ | (simp only [World.size_alloc, World.size_setCell, World.size_drew] at *; omega) | omega) (by first | exact Nat.le_refl _ | (simp only [World.size_alloc, World.size_setCell, World.size_drew] at *; omega) | omega)
          replace b1 := Blk.grown b1 gr3 (by intro e; have := o0.blk _ e.symm; omega)
          replace b2 := Blk.grown b2 gr3 (by intro e; have := o0.blk _ e.symm; omega)
          replace b3 := Blk.grown b3 gr3 (by intro e; have := o0.blk _ e.symm; omega)
          replace o5 := Own.other o5 gr3 (by intro k hk e; simp only [blkOf, Option.map_some, Option.some.injEq] at hk e; omega)
          refine hK3.out _ _ ?su1xb32xb48xb49xb54x3 (fun hHeld => ?ru1xb32xb48xb49xb54x3)
          case su1xb32xb48xb49xb54x3 => ((try dsimp only); exact ⟨b2.cell_ 0 rfl, b2.cell_ 1 rfl, b2.cell_ 2 rfl, b2.cell_ 3 rfl, b2.cell_ 4 rfl⟩)
          try simp only [List.setIfInBounds_toArray, List.set_cons_zero, List.set_cons_succ]
          refine wpAnyH_ready (rs := [6]) (by kernel_rfl) (by simp) (AllReadyH.cons rfl (fun K6 hK6 => ?ku1xb32xb48xb49xb54x6) AllReadyH.nil)
          refine take_app El_part 6 (Operand.tmp 8) (Operand.tmp 10) 27 rfl rfl rfl (by kernel_rfl) o3 rfl (o5.rd) rfl (pcell_one hvo) (by unfold maxLen; omega) (by omega) (by first | exact Nat.le_refl _ | (simp only [World.size_alloc, World.size_setCell, World.size_drew] at *; omega) | omega) ?_
          intro A6 c6 w6 o6 gr6 at6
          have z6 := gr6.size
          try simp only [World.size_drew] at z6
          replace HBB := below_grown HBB gr6 o3 (by first | exact Nat.le_refl _ | (simp only [World.size_alloc, World.size_setCell, World.size_drew] at *; omega) | omega)
          have zHBB6 := HBB.size
          replace rP0 := Rd.grownOwn rP0 gr6 o3 (by first | exact Nat.le_refl _ | (simp only [World.size_alloc, World.size_setCell, World.size_drew] at *; omega) | omega) (by first | exact Nat.le_refl _ | (simp only [World.size_alloc, World.size_setCell, World.size_drew] at *; omega) | omega)
          replace b1 := Blk.grown b1 gr6 (by intro e; have := o3.blk _ e.symm; omega)
          replace b2 := Blk.grown b2 gr6 (by intro e; have := o3.blk _ e.symm; omega)
          replace b3 := Blk.grown b3 gr6 (by intro e; have := o3.blk _ e.symm; omega)
          refine hK6.out _ _ ?su1xb32xb48xb49xb54x6 (fun hHeld => ?ru1xb32xb48xb49xb54x6)
          case su1xb32xb48xb49xb54x6 => ((try dsimp only); exact ⟨b2.cell_ 0 rfl, b2.cell_ 1 rfl, b2.cell_ 2 rfl, b2.cell_ 3 rfl, b2.cell_ 4 rfl⟩)
          try simp only [List.setIfInBounds_toArray, List.set_cons_zero, List.set_cons_succ]
          refine take_op (v := ?vu1xb32xb48xb49xb54x7) 7 (Op.fieldAddr 29 (Operand.tmp 2) 0) 0 rfl rfl rfl rfl rfl (by kernel_rfl) (by kernel_rfl) (by kernel_rfl) (fun _ _ _ h => h) ?yu1xb32xb48xb49xb54x7 (by assumption) ?ru1xb32xb48xb49xb54x7
          case yu1xb32xb48xb49xb54x7 => (intro w' hSw; (try dsimp only at hSw); go_simp; try (with_reducible rfl))
          simp only [List.setIfInBounds_toArray, List.set_cons_zero, List.set_cons_succ]
          refine wpAnyH_ready (rs := [8]) (by kernel_rfl) (by simp) (AllReadyH.cons rfl (fun K8 hK8 => ?ku1xb32xb48xb49xb54x8) AllReadyH.nil)
          refine take_store 8 (Op.store 27 (Operand.tmp 12) (Operand.tmp 11)) 0 rfl rfl rfl (by kernel_rfl) (w' := w6.setCell ⟨B, 0, none⟩ (.slice A6 (0 + n + 1) c6)) (by obtain ⟨cL, _, _, fL, _⟩ := blk3 b1; go_simp; try (with_reducible rfl)) ?_
          refine hK8.out _ _ (⟨(b2.far (p := ⟨B, 0, none⟩) (by dsimp only; omega) _).cell_ 0 rfl, (b2.far (p := ⟨B, 0, none⟩) (by dsimp only; omega) _).cell_ 1 rfl, (b2.far (p := ⟨B, 0, none⟩) (by dsimp only; omega) _).cell_ 2 rfl, (b2.far (p := ⟨B, 0, none⟩) (by dsimp only; omega) _).cell_ 3 rfl, (b2.far (p := ⟨B, 0, none⟩) (by dsimp only; omega) _).cell_ 4 rfl⟩) (fun hHeld => ?_)
          refine wpAnyH_done (by kernel_rfl) ?_ _
          simp only [Nat.zero_add, List.nil_append] at o6 ⊢
          have hA6 := o6.blk
          have b1' := b1.set 0 (.slice A6 (n + 1) c6)
          have b3' := b3.far (p := ⟨B, 0, none⟩) (by dsimp only; omega) (.slice A6 (n + 1) c6)
          have o6' := o6.far (p := ⟨B, 0, none⟩) (fun e => by have := (hA6 _ e).1; dsimp only at this; omega) (.slice A6 (n + 1) c6)
          have HW : Below B w (w6.setCell ⟨B, 0, none⟩ (.slice A6 (n + 1) c6)) := (HB.trans (HBB.mono (by omega))).setCell (p := ⟨B, 0, none⟩) (Nat.le_refl _) _
          generalize w6.setCell ⟨B, 0, none⟩ (.slice A6 (n + 1) c6) = w7 at *
          have b1q : Blk w7 B 29 #[.slice A6 (n + 1) c6, .int .i64 sz, .int .i64 dp] := b1'
          obtain ⟨c0, c1, c2, _⟩ := blk3 b1q
          obtain ⟨d0, d1, d2, f0, f1, f2, _⟩ := blk3 b3'
          clear b1 b2 b3 b1' rP0 o3 o6 HBB
          go_wp2_with fail
          refine bodyPost_ret (results_r1 rfl _ _ (B + 1 + 1) #[.slice A6 (n + 1) c6, .int .i64 sz, .int .i64 dp] _ rfl (blk_eq (((b3'.set 0 _).set 1 _).set 2 _) (by simp)) Tryd.underlying29 rfl (by kernel_rfl)) rfl ?_
          refine ⟨A6, c6, rfl, o6'.cap, o6'.capm, ⟨pl ++ [(p, v)], by rw [List.map_append, HPL.out]; rfl, ?_, ?_⟩, ?_⟩
          · have := own_far3 (a := .slice A6 (n + 1) c6) (b := .int .i64 sz) (d := .int .i64 dp) o6' (show B + 1 + 1 < B + 1 + 1 + 1 by omega)
            rw [plc_app]
            exact RdS.of_own this (fun b h1 _ => .inr (by rw [HBq.out]; omega))
          · have HW2 := below3 (a' := .slice A6 (n + 1) c6) (b' := .int .i64 sz) (c' := .int .i64 dp) HW (show B ≤ B + 1 + 1 by omega)
            rw [← HBq.out] at HW2
            have HK : ∀ b, S b → b < w.heap.size → (((w7.setCell ⟨B + 1 + 1, 0, none⟩ (.slice A6 (n + 1) c6)).setCell ⟨B + 1 + 1, 1, none⟩ (.int .i64 sz)).setCell ⟨B + 1 + 1, 2, none⟩ (.int .i64 dp)).heap[b]? = w.heap[b]? ∧ (S b ∨ w.heap.size ≤ b) :=
              fun b h1 h2 => by rw [HBq.out] at HW2 ⊢; exact ⟨HW2.block b (by rw [← HBq.out]; exact h2), .inl h1⟩
            intro x hx
            rcases List.mem_append.1 hx with h | h
            · exact (HO.out x h).keep HK
            · simp only [List.mem_singleton] at h
              subst h
              exact HV.out.keep HK
          · have HW2 := below3 (a' := .slice A6 (n + 1) c6) (b' := .int .i64 sz) (c' := .int .i64 dp) HW (show B ≤ B + 1 + 1 by omega)
            rw [HBq.out]
            exact HW2
      case ku1xb32xb48x5 =>
        refine take_build (e := 75) (len := 1) (size := 5) (B + 1 + 1 + 1) (pcell (p, v)) 5 (Op.buildSlice 27 1 #[(0, Operand.tmp 9)]) 27 rfl rfl rfl (by kernel_rfl) ?eu1xb32xb48xb58x5 (by rfl) (by decide) (by first | exact Nat.le_refl _ | (simp only [World.size_alloc, World.size_setCell, World.size_drew] at *; omega) | omega) ?_
        case eu1xb32xb48xb58x5 => (go_simp; try (first | with_reducible rfl | (simp [rcells, rcell]; done) | (simp [fcells]; done) | (simp [tcells]; done) | rfl))
        intro gx5 w5 o5 gr5 l5 m5
        have z5 := gr5.size
        try simp only [World.size_drew] at z5
        replace HBB := below_grow HBB gr5
        have zHBB5 := HBB.size
        replace rP0 := Rd.grow0 rP0 gr5 (by first | exact Nat.le_refl _ | (simp only [World.size_alloc, World.size_setCell, World.size_drew] at *; omega) | omega)
        replace b1 := Blk.grow0 b1 gr5
        replace b2 := Blk.grow0 b2 gr5
        replace b3 := Blk.grow0 b3 gr5
        refine hK5.out _ _ ?su1xb32xb48xb58x5 (fun hHeld => ?ru1xb32xb48xb58x5)
        case su1xb32xb48xb58x5 => ((try dsimp only); exact ⟨b2.cell_ 0 rfl, b2.cell_ 1 rfl, b2.cell_ 2 rfl, b2.cell_ 3 rfl, b2.cell_ 4 rfl⟩)
        try simp only [List.setIfInBounds_toArray, List.set_cons_zero, List.set_cons_succ]
        refine wpAnyH_ready (rs := [0]) (by kernel_rfl) (by simp) (AllReadyH.cons rfl (fun K0 hK0 => ?ku1xb32xb48xb58x0) AllReadyH.nil)
        refine take_build (e := 75) (len := 0) (size := 5) (B + 1 + 1 + 1) ([]) 0 (Op.buildSlice 27 0 #[]) 27 rfl rfl rfl (by kernel_rfl) ?eu1xb32xb48xb58x0 (by rfl) (by decide) (by first | exact Nat.le_refl _ | (simp only [World.size_alloc, World.size_setCell, World.size_drew] at *; omega) | omega) ?_
        case eu1xb32xb48xb58x0 => (go_simp; try (first | with_reducible rfl | (simp [rcells, rcell]; done) | (simp [fcells]; done) | (simp [tcells]; done) | rfl))
        intro gx0 w0 o0 gr0 l0 m0
        have z0 := gr0.size
        try simp only [World.size_drew] at z0
        replace HBB := below_grow HBB gr0
        have zHBB0 := HBB.size
        replace rP0 := Rd.grow0 rP0 gr0 (by first | exact Nat.le_refl _ | (simp only [World.size_alloc, World.size_setCell, World.size_drew] at *; omega) | omega)
        replace b1 := Blk.grow0 b1 gr0
        replace b2 := Blk.grow0 b2 gr0
        replace b3 := Blk.grow0 b3 gr0
        replace o5 := Own.grow0 o5 gr0
        refine hK0.out _ _ ?su1xb32xb48xb58x0 (fun hHeld => ?ru1xb32xb48xb58x0)
        case su1xb32xb48xb58x0 => ((try dsimp only); exact ⟨b2.cell_ 0 rfl, b2.cell_ 1 rfl, b2.cell_ 2 rfl, b2.cell_ 3 rfl, b2.cell_ 4 rfl⟩)
        try simp only [List.setIfInBounds_toArray, List.set_cons_zero, List.set_cons_succ]
        refine wpAnyH_ready (rs := [3]) (by kernel_rfl) (by simp) (AllReadyH.cons rfl (fun K3 hK3 => ?ku1xb32xb48xb58x3) AllReadyH.nil)
        refine take_app El_part 3 (Operand.tmp 5) (Operand.tmp 7) 27 rfl rfl rfl (by kernel_rfl) o0 rfl (rP0) rfl (hone) (by unfold maxLen; omega) (by omega) (by first | exact Nat.le_refl _ | (simp only [World.size_alloc, World.size_setCell, World.size_drew] at *; omega) | omega) ?_
        intro A3 c3 w3 o3 gr3 at3
        have z3 := gr3.size
        try simp only [World.size_drew] at z3
        replace HBB := below_grown HBB gr3 o0 (by first | exact Nat.le_refl _ | (simp only [World.size_alloc, World.size_setCell, World.size_drew] at *; omega) | omega)
        have zHBB3 := HBB.size
        replace rP0 := Rd.grownOwn rP0 gr3 o0 (by first | exact Nat.le_refl _ | (simp only [World.size_alloc, World.size_setCell, World.size_drew] at *; omega) | omega) (by first | exact Nat.le_refl _ | (simp only [World.size_alloc, World.size_setCell, World.size_drew] at *; omega) | omega)
        replace b1 := Blk.grown b1 gr3 (by intro e; have := o0.blk _ e.symm; omega)
        replace b2 := Blk.grown b2 gr3 (by intro e; have := o0.blk _ e.symm; omega)
        replace b3 := Blk.grown b3 gr3 (by intro e; have := o0.blk _ e.symm; omega)
        replace o5 := Own.other o5 gr3 (by intro k hk e; simp only [blkOf, Option.map_some, Option.some.injEq] at hk e; omega)
        refine hK3.out _ _ ?su1xb32xb48xb58x3 (fun hHeld => ?ru1xb32xb48xb58x3)
        case su1xb32xb48xb58x3 => ((try dsimp only); exact ⟨b2.cell_ 0 rfl, b2.cell_ 1 rfl, b2.cell_ 2 rfl, b2.cell_ 3 rfl, b2.cell_ 4 rfl⟩)
        try simp only [List.setIfInBounds_toArray, List.set_cons_zero, List.set_cons_succ]
        refine wpAnyH_ready (rs := [6]) (by kernel_rfl) (by simp) (AllReadyH.cons rfl (fun K6 hK6 => ?ku1xb32xb48xb58x6) AllReadyH.nil)
        refine take_app El_part 6 (Operand.tmp 8) (Operand.tmp 10) 27 rfl rfl rfl (by kernel_rfl) o3 rfl (o5.rd) rfl (pcell_one hvo) (by unfold maxLen; omega) (by omega) (by first | exact Nat.le_refl _ | (simp only [World.size_alloc, World.size_setCell, World.size_drew] at *; omega) | omega) ?_
        intro A6 c6 w6 o6 gr6 at6
        have z6 := gr6.size
        try simp only [World.size_drew] at z6
        replace HBB := below_grown HBB gr6 o3 (by first | exact Nat.le_refl _ | (simp only [World.size_alloc, World.size_setCell, World.size_drew] at *; omega) | omega)
        have zHBB6 := HBB.size
        replace rP0 := Rd.grownOwn rP0 gr6 o3 (by first | exact Nat.le_refl _ | (simp only [World.size_alloc, World.size_setCell, World.size_drew] at *; omega) | omega) (by first | exact Nat.le_refl _ | (simp only [World.size_alloc, World.size_setCell, World.size_drew] at *; omega) | omega)
        replace b1 := Blk.grown b1 gr6 (by intro e; have := o3.blk _ e.symm; omega)
        replace b2 := Blk.grown b2 gr6 (by intro e; have := o3.blk _ e.symm; omega)
        replace b3 := Blk.grown b3 gr6 (by intro e; have := o3.blk _ e.symm; omega)
        refine hK6.out _ _ ?su1xb32xb48xb58x6 (fun hHeld => ?ru1xb32xb48xb58x6)
        case su1xb32xb48xb58x6 => ((try dsimp only); exact ⟨b2.cell_ 0 rfl, b2.cell_ 1 rfl, b2.cell_ 2 rfl, b2.cell_ 3 rfl, b2.cell_ 4 rfl⟩)
        try simp only [List.setIfInBounds_toArray, List.set_cons_zero, List.set_cons_succ]
        refine take_op (v := ?vu1xb32xb48xb58x7) 7 (Op.fieldAddr 29 (Operand.tmp 2) 0) 0 rfl rfl rfl rfl rfl (by kernel_rfl) (by kernel_rfl) (by kernel_rfl) (fun _ _ _ h => h) ?yu1xb32xb48xb58x7 (by assumption) ?ru1xb32xb48xb58x7
        case yu1xb32xb48xb58x7 => (intro w' hSw; (try dsimp only at hSw); go_simp; try (with_reducible rfl))
        simp only [List.setIfInBounds_toArray, List.set_cons_zero, List.set_cons_succ]
        refine wpAnyH_ready (rs := [8]) (by kernel_rfl) (by simp) (AllReadyH.cons rfl (fun K8 hK8 => ?ku1xb32xb48xb58x8) AllReadyH.nil)
        refine take_store 8 (Op.store 27 (Operand.tmp 12) (Operand.tmp 11)) 0 rfl rfl rfl (by kernel_rfl) (w' := w6.setCell ⟨B, 0, none⟩ (.slice A6 (0 + n + 1) c6)) (by obtain ⟨cL, _, _, fL, _⟩ := blk3 b1; go_simp; try (with_reducible rfl)) ?_
        refine hK8.out _ _ (⟨(b2.far (p := ⟨B, 0, none⟩) (by dsimp only; omega) _).cell_ 0 rfl, (b2.far (p := ⟨B, 0, none⟩) (by dsimp only; omega) _).cell_ 1 rfl, (b2.far (p := ⟨B, 0, none⟩) (by dsimp only; omega) _).cell_ 2 rfl, (b2.far (p := ⟨B, 0, none⟩) (by dsimp only; omega) _).cell_ 3 rfl, (b2.far (p := ⟨B, 0, none⟩) (by dsimp only; omega) _).cell_ 4 rfl⟩) (fun hHeld => ?_)
        refine wpAnyH_done (by kernel_rfl) ?_ _
        simp only [Nat.zero_add, List.nil_append] at o6 ⊢
        have hA6 := o6.blk
        have b1' := b1.set 0 (.slice A6 (n + 1) c6)
        have b3' := b3.far (p := ⟨B, 0, none⟩) (by dsimp only; omega) (.slice A6 (n + 1) c6)
        have o6' := o6.far (p := ⟨B, 0, none⟩) (fun e => by have := (hA6 _ e).1; dsimp only at this; omega) (.slice A6 (n + 1) c6)
        have HW : Below B w (w6.setCell ⟨B, 0, none⟩ (.slice A6 (n + 1) c6)) := (HB.trans (HBB.mono (by omega))).setCell (p := ⟨B, 0, none⟩) (Nat.le_refl _) _
        generalize w6.setCell ⟨B, 0, none⟩ (.slice A6 (n + 1) c6) = w7 at *
        have b1q : Blk w7 B 29 #[.slice A6 (n + 1) c6, .int .i64 sz, .int .i64 dp] := b1'
        obtain ⟨c0, c1, c2, _⟩ := blk3 b1q
        obtain ⟨d0, d1, d2, f0, f1, f2, _⟩ := blk3 b3'
        clear b1 b2 b3 b1' rP0 o3 o6 HBB
        go_wp2_with fail
        refine bodyPost_ret (results_r1 rfl _ _ (B + 1 + 1) #[.slice A6 (n + 1) c6, .int .i64 sz, .int .i64 dp] _ rfl (blk_eq (((b3'.set 0 _).set 1 _).set 2 _) (by simp)) Tryd.underlying29 rfl (by kernel_rfl)) rfl ?_
        refine ⟨A6, c6, rfl, o6'.cap, o6'.capm, ⟨pl ++ [(p, v)], by rw [List.map_append, HPL.out]; rfl, ?_, ?_⟩, ?_⟩
        · have := own_far3 (a := .slice A6 (n + 1) c6) (b := .int .i64 sz) (d := .int .i64 dp) o6' (show B + 1 + 1 < B + 1 + 1 + 1 by omega)
          rw [plc_app]
          exact RdS.of_own this (fun b h1 _ => .inr (by rw [HBq.out]; omega))
        · have HW2 := below3 (a' := .slice A6 (n + 1) c6) (b' := .int .i64 sz) (c' := .int .i64 dp) HW (show B ≤ B + 1 + 1 by omega)
          rw [← HBq.out] at HW2
          have HK : ∀ b, S b → b < w.heap.size → (((w7.setCell ⟨B + 1 + 1, 0, none⟩ (.slice A6 (n + 1) c6)).setCell ⟨B + 1 + 1, 1, none⟩ (.int .i64 sz)).setCell ⟨B + 1 + 1, 2, none⟩ (.int .i64 dp)).heap[b]? = w.heap[b]? ∧ (S b ∨ w.heap.size ≤ b) :=
            fun b h1 h2 => by rw [HBq.out] at HW2 ⊢; exact ⟨HW2.block b (by rw [← HBq.out]; exact h2), .inl h1⟩
          intro x hx
          rcases List.mem_append.1 hx with h | h
          · exact (HO.out x h).keep HK
          · simp only [List.mem_singleton] at h
            subst h
            exact HV.out.keep HK
        · have HW2 := below3 (a' := .slice A6 (n + 1) c6) (b' := .int .i64 sz) (c' := .int .i64 dp) HW (show B ≤ B + 1 + 1 by omega)
          rw [HBq.out]
          exact HW2
  case ku1x4 =>
    refine take_any 4 (Op.load 75 (Operand.tmp 3)) 75 rfl rfl rfl (by kernel_rfl) (v := .agg (pv p.word p.lo p.hi p.what v)) (by obtain ⟨d0, d1, d2, d3, d4, _⟩ := blk5 b2; go_simp; try (with_reducible rfl)) ?_
    refine hK4.out _ _ ?su1xb63x4 (fun hHeld => ?ru1xb63x4)
    case su1xb63x4 => ((try dsimp only); exact ⟨b2.cell_ 0 rfl, b2.cell_ 1 rfl, b2.cell_ 2 rfl, b2.cell_ 3 rfl, b2.cell_ 4 rfl⟩)
    try simp only [List.setIfInBounds_toArray, List.set_cons_zero, List.set_cons_succ]
    refine wpAnyH_ready (rs := [0, 2, 5]) (by kernel_rfl) (by simp) (AllReadyH.cons rfl (fun K0 hK0 => ?ku1xb63x0) (AllReadyH.cons rfl (fun K2 hK2 => ?ku1xb63x2) (AllReadyH.cons rfl (fun K5 hK5 => ?ku1xb63x5) AllReadyH.nil)))
    case ku1xb63x0 =>
      refine take_build (e := 75) (len := 0) (size := 5) (B + 1 + 1 + 1) ([]) 0 (Op.buildSlice 27 0 #[]) 27 rfl rfl rfl (by kernel_rfl) ?eu1xb63xb64x0 (by rfl) (by decide) (by first | exact Nat.le_refl _ | (simp only [World.size_alloc, World.size_setCell, World.size_drew] at *; omega) | omega) ?_
      case eu1xb63xb64x0 => (go_simp; try (first | with_reducible rfl | (simp [rcells, rcell]; done) | (simp [fcells]; done) | (simp [tcells]; done) | rfl))
      intro gx0 w0 o0 gr0 l0 m0
      have z0 := gr0.size
      try simp only [World.size_drew] at z0
      replace HBB := below_grow HBB gr0
      have zHBB0 := HBB.size
      replace rP0 := Rd.grow0 rP0 gr0 (by first | exact Nat.le_refl _ | (simp only [World.size_alloc, World.size_setCell, World.size_drew] at *; omega) | omega)
      replace b1 := Blk.grow0 b1 gr0
      replace b2 := Blk.grow0 b2 gr0
      replace b3 := Blk.grow0 b3 gr0
      refine hK0.out _ _ ?su1xb63xb64x0 (fun hHeld => ?ru1xb63xb64x0)
      case su1xb63xb64x0 => ((try dsimp only); exact ⟨b2.cell_ 0 rfl, b2.cell_ 1 rfl, b2.cell_ 2 rfl, b2.cell_ 3 rfl, b2.cell_ 4 rfl⟩)
      try simp only [List.setIfInBounds_toArray, List.set_cons_zero, List.set_cons_succ]
      refine wpAnyH_ready (rs := [2, 5]) (by kernel_rfl) (by simp) (AllReadyH.cons rfl (fun K2 hK2 => ?ku1xb63xb64x2) (AllReadyH.cons rfl (fun K5 hK5 => ?ku1xb63xb64x5) AllReadyH.nil))
      case ku1xb63xb64x2 =>
        refine take_any 2 (Op.load 27 (Operand.tmp 6)) 27 rfl rfl rfl (by kernel_rfl) (v := .slice A n c) (by have cL := b1.cell_ 0 rfl; go_simp; try (with_reducible rfl)) ?_
        refine hK2.out _ _ ?su1xb63xb64xb65x2 (fun hHeld => ?ru1xb63xb64xb65x2)
        case su1xb63xb64xb65x2 => ((try dsimp only); exact ⟨b2.cell_ 0 rfl, b2.cell_ 1 rfl, b2.cell_ 2 rfl, b2.cell_ 3 rfl, b2.cell_ 4 rfl⟩)
        try simp only [List.setIfInBounds_toArray, List.set_cons_zero, List.set_cons_succ]
        refine wpAnyH_ready (rs := [3, 5]) (by kernel_rfl) (by simp) (AllReadyH.cons rfl (fun K3 hK3 => ?ku1xb63xb64xb65x3) (AllReadyH.cons rfl (fun K5 hK5 => ?ku1xb63xb64xb65x5) AllReadyH.nil))
        case ku1xb63xb64xb65x3 =>
          refine take_app El_part 3 (Operand.tmp 5) (Operand.tmp 7) 27 rfl rfl rfl (by kernel_rfl) o0 rfl (rP0) rfl (hone) (by unfold maxLen; omega) (by omega) (by first | exact Nat.le_refl _ | (simp only [World.size_alloc, World.size_setCell, World.size_drew] at *; omega) | omega) ?_
          intro A3 c3 w3 o3 gr3 at3
          have z3 := gr3.size
          try simp only [World.size_drew] at z3
          replace HBB := below_grown HBB gr3 o0 (by first | exact Nat.le_refl _ | (simp only [World.size_alloc, World.size_setCell, World.size_drew] at *; omega) | omega)
          have zHBB3 := HBB.size
          replace rP0 := Rd.grownOwn rP0 gr3 o0 (by first | exact Nat.le_refl _ | (simp only [World.size_alloc, World.size_setCell, World.size_drew] at *; omega) | omega) (by first | exact Nat.le_refl _ | (simp only [World.size_alloc, World.size_setCell, World.size_drew] at *; omega) | omega)
          replace b1 := Blk.grown b1 gr3 (by intro e; have := o0.blk _ e.symm; omega)
          replace b2 := Blk.grown b2 gr3 (by intro e; have := o0.blk _ e.symm; omega)
          replace b3 := Blk.grown b3 gr3 (by intro e; have := o0.blk _ e.symm; omega)
          refine hK3.out _ _ ?su1xb63xb64xb65xb66x3 (fun hHeld => ?ru1xb63xb64xb65xb66x3)
          case su1xb63xb64xb65xb66x3 => ((try dsimp only); exact ⟨b2.cell_ 0 rfl, b2.cell_ 1 rfl, b2.cell_ 2 rfl, b2.cell_ 3 rfl, b2.cell_ 4 rfl⟩)
          try simp only [List.setIfInBounds_toArray, List.set_cons_zero, List.set_cons_succ]
          refine wpAnyH_ready (rs := [5]) (by kernel_rfl) (by simp) (AllReadyH.cons rfl (fun K5 hK5 => ?ku1xb63xb64xb65xb66x5) AllReadyH.nil)
          refine take_build (e := 75) (len := 1) (size := 5) (B + 1 + 1 + 1) (pcell (p, v)) 5 (Op.buildSlice 27 1 #[(0, Operand.tmp 9)]) 27 rfl rfl rfl (by kernel_rfl) ?eu1xb63xb64xb65xb66x5 (by rfl) (by decide) (by first | exact Nat.le_refl _ | (simp only [World.size_alloc, World.size_setCell, World.size_drew] at *; omega) | omega) ?_
          case eu1xb63xb64xb65xb66x5 => (go_simp; try (first | with_reducible rfl | (simp [rcells, rcell]; done) | (simp [fcells]; done) | (simp [tcells]; done) | rfl))
          intro gx5 w5 o5 gr5 l5 m5
          have z5 := gr5.size
          try simp only [World.size_drew] at z5
          replace HBB := below_grow HBB gr5
          have zHBB5 := HBB.size
          replace rP0 := Rd.grow0 rP0 gr5 (by first | exact Nat.le_refl _ | (simp only [World.size_alloc, World.size_setCell, World.size_drew] at *; omega) | omega)
          replace b1 := Blk.grow0 b1 gr5
          replace b2 := Blk.grow0 b2 gr5
          replace b3 := Blk.grow0 b3 gr5
          replace o3 := Own.grow0 o3 gr5
          refine hK5.out _ _ ?su1xb63xb64xb65xb66x5 (fun hHeld => ?ru1xb63xb64xb65xb66x5)
          case su1xb63xb64xb65xb66x5 => ((try dsimp only); exact ⟨b2.cell_ 0 rfl, b2.cell_ 1 rfl, b2.cell_ 2 rfl, b2.cell_ 3 rfl, b2.cell_ 4 rfl⟩)
          try simp only [List.setIfInBounds_toArray, List.set_cons_zero, List.set_cons_succ]
          refine wpAnyH_ready (rs := [6]) (by kernel_rfl) (by simp) (AllReadyH.cons rfl (fun K6 hK6 => ?ku1xb63xb64xb65xb66x6) AllReadyH.nil)
          refine take_app El_part 6 (Operand.tmp 8) (Operand.tmp 10) 27 rfl rfl rfl (by kernel_rfl) o3 rfl (o5.rd) rfl (pcell_one hvo) (by unfold maxLen; omega) (by omega) (by first | exact Nat.le_refl _ | (simp only [World.size_alloc, World.size_setCell, World.size_drew] at *; omega) | omega) ?_
          intro A6 c6 w6 o6 gr6 at6
          have z6 := gr6.size
          try simp only [World.size_drew] at z6
          replace HBB := below_grown HBB gr6 o3 (by first | exact Nat.le_refl _ | (simp only [World.size_alloc, World.size_setCell, World.size_drew] at *; omega) | omega)
          have zHBB6 := HBB.size
          replace rP0 := Rd.grownOwn rP0 gr6 o3 (by first | exact Nat.le_refl _ | (simp only [World.size_alloc, World.size_setCell, World.size_drew] at *; omega) | omega) (by first | exact Nat.le_refl _ | (simp only [World.size_alloc, World.size_setCell, World.size_drew] at *; omega) | omega)
          replace b1 := Blk.grown b1 gr6 (by intro e; have := o3.blk _ e.symm; omega)
          replace b2 := Blk.grown b2 gr6 (by intro e; have := o3.blk _ e.symm; omega)
          replace b3 := Blk.grown b3 gr6 (by intro e; have := o3.blk _ e.symm; omega)
          refine hK6.out _ _ ?su1xb63xb64xb65xb66x6 (fun hHeld => ?ru1xb63xb64xb65xb66x6)
          case su1xb63xb64xb65xb66x6 => ((try dsimp only); exact ⟨b2.cell_ 0 rfl, b2.cell_ 1 rfl, b2.cell_ 2 rfl, b2.cell_ 3 rfl, b2.cell_ 4 rfl⟩)
          try simp only [List.setIfInBounds_toArray, List.set_cons_zero, List.set_cons_succ]
          refine take_op (v := ?vu1xb63xb64xb65xb66x7) 7 (Op.fieldAddr 29 (Operand.tmp 2) 0) 0 rfl rfl rfl rfl rfl (by kernel_rfl) (by kernel_rfl) (by kernel_rfl) (fun _ _ _ h => h) ?yu1xb63xb64xb65xb66x7 (by assumption) ?ru1xb63xb64xb65xb66x7
          case yu1xb63xb64xb65xb66x7 => (intro w' hSw; (try dsimp only at hSw); go_simp; try (with_reducible rfl))
          simp only [List.setIfInBounds_toArray, List.set_cons_zero, List.set_cons_succ]
          refine wpAnyH_ready (rs := [8]) (by kernel_rfl) (by simp) (AllReadyH.cons rfl (fun K8 hK8 => ?ku1xb63xb64xb65xb66x8) AllReadyH.nil)
          refine take_store 8 (Op.store 27 (Operand.tmp 12) (Operand.tmp 11)) 0 rfl rfl rfl (by kernel_rfl) (w' := w6.setCell ⟨B, 0, none⟩ (.slice A6 (0 + n + 1) c6)) (by obtain ⟨cL, _, _, fL, _⟩ := blk3 b1; go_simp; try (with_reducible rfl)) ?_
          refine hK8.out _ _ (⟨(b2.far (p := ⟨B, 0, none⟩) (by dsimp only; omega) _).cell_ 0 rfl, (b2.far (p := ⟨B, 0, none⟩) (by dsimp only; omega) _).cell_ 1 rfl, (b2.far (p := ⟨B, 0, none⟩) (by dsimp only; omega) _).cell_ 2 rfl, (b2.far (p := ⟨B, 0, none⟩) (by dsimp only; omega) _).cell_ 3 rfl, (b2.far (p := ⟨B, 0, none⟩) (by dsimp only; omega) _).cell_ 4 rfl⟩) (fun hHeld => ?_)
          refine wpAnyH_done (by kernel_rfl) ?_ _
          simp only [Nat.zero_add, List.nil_append] at o6 ⊢
          have hA6 := o6.blk
          have b1' := b1.set 0 (.slice A6 (n + 1) c6)
          have b3' := b3.far (p := ⟨B, 0, none⟩) (by dsimp only; omega) (.slice A6 (n + 1) c6)
          have o6' := o6.far (p := ⟨B, 0, none⟩) (fun e => by have := (hA6 _ e).1; dsimp only at this; omega) (.slice A6 (n + 1) c6)
          have HW : Below B w (w6.setCell ⟨B, 0, none⟩ (.slice A6 (n + 1) c6)) := (HB.trans (HBB.mono (by omega))).setCell (p := ⟨B, 0, none⟩) (Nat.le_refl _) _
          generalize w6.setCell ⟨B, 0, none⟩ (.slice A6 (n + 1) c6) = w7 at *
          have b1q : Blk w7 B 29 #[.slice A6 (n + 1) c6, .int .i64 sz, .int .i64 dp] := b1'
          obtain ⟨c0, c1, c2, _⟩ := blk3 b1q
          obtain ⟨d0, d1, d2, f0, f1, f2, _⟩ := blk3 b3'
          clear b1 b2 b3 b1' rP0 o3 o6 HBB
          go_wp2_with fail
          refine bodyPost_ret (results_r1 rfl _ _ (B + 1 + 1) #[.slice A6 (n + 1) c6, .int .i64 sz, .int .i64 dp] _ rfl (blk_eq (((b3'.set 0 _).set 1 _).set 2 _) (by simp)) Tryd.underlying29 rfl (by kernel_rfl)) rfl ?_
          refine ⟨A6, c6, rfl, o6'.cap, o6'.capm, ⟨pl ++ [(p, v)], by rw [List.map_append, HPL.out]; rfl, ?_, ?_⟩, ?_⟩
          · have := own_far3 (a := .slice A6 (n + 1) c6) (b := .int .i64 sz) (d := .int .i64 dp) o6' (show B + 1 + 1 < B + 1 + 1 + 1 by omega)
            rw [plc_app]
            exact RdS.of_own this (fun b h1 _ => .inr (by rw [HBq.out]; omega))
          · have HW2 := below3 (a' := .slice A6 (n + 1) c6) (b' := .int .i64 sz) (c' := .int .i64 dp) HW (show B ≤ B + 1 + 1 by omega)
            rw [← HBq.out] at HW2
            have HK : ∀ b, S b → b < w.heap.size → (((w7.setCell ⟨B + 1 + 1, 0, none⟩ (.slice A6 (n + 1) c6)).setCell ⟨B + 1 + 1, 1, none⟩ (.int .i64 sz)).setCell ⟨B + 1 + 1, 2, none⟩ (.int .i64 dp)).heap[b]? = w.heap[b]? ∧ (S b ∨ w.heap.size ≤ b) :=
              fun b h1 h2 => by rw [HBq.out] at HW2 ⊢; exact ⟨HW2.block b (by rw [← HBq.out]; exact h2), .inl h1⟩
            intro x hx
            rcases List.mem_append.1 hx with h | h
            · exact (HO.out x h).keep HK
            · simp only [List.mem_singleton] at h
              subst h
              exact HV.out.keep HK
          · have HW2 := below3 (a' := .slice A6 (n + 1) c6) (b' := .int .i64 sz) (c' := .int .i64 dp) HW (show B ≤ B + 1 + 1 by omega)
            rw [HBq.out]
            exact HW2
        case ku1xb63xb64xb65x5 =>
          refine take_build (e := 75) (len := 1) (size := 5) (B + 1 + 1 + 1) (pcell (p, v)) 5 (Op.buildSlice 27 1 #[(0, Operand.tmp 9)]) 27 rfl rfl rfl (by kernel_rfl) ?eu1xb63xb64xb65xb70x5 (by rfl) (by decide) (by first | exact Nat.le_refl _ | (simp only [World.size_alloc, World.size_setCell, World.size_drew] at *; omega) | omega) ?_
          case eu1xb63xb64xb65xb70x5 => (go_simp; try (first | with_reducible rfl | (simp [rcells, rcell]; done) | (simp [fcells]; done) | (simp [tcells]; done) | rfl))
          intro gx5 w5 o5 gr5 l5 m5
          have z5 := gr5.size
          try simp only [World.size_drew] at z5
          replace HBB := below_grow HBB gr5
          have zHBB5 := HBB.size
          replace rP0 := Rd.grow0 rP0 gr5 (by first | exact Nat.le_refl _ | (simp only [World.size_alloc, World.size_setCell, World.size_drew] at *; omega) | omega)
          replace b1 := Blk.grow0 b1 gr5
          replace b2 := Blk.grow0 b2 gr5
          replace b3 := Blk.grow0 b3 gr5
          replace o0 := Own.grow0 o0 gr5
          refine hK5.out _ _ ?su1xb63xb64xb65xb70x5 (fun hHeld => ?ru1xb63xb64xb65xb70x5)
          case su1xb63xb64xb65xb70x5 => ((try dsimp only); exact ⟨b2.cell_ 0 rfl, b2.cell_ 1 rfl, b2.cell_ 2 rfl, b2.cell_ 3 rfl, b2.cell_ 4 rfl⟩)
          try simp only [List.setIfInBounds_toArray, List.set_cons_zero, List.set_cons_succ]
          refine wpAnyH_ready (rs := [3]) (by kernel_rfl) (by simp) (AllReadyH.cons rfl (fun K3 hK3 => ?ku1xb63xb64xb65xb70x3) AllReadyH.nil)
          refine take_app El_part 3 (Operand.tmp 5) (Operand.tmp 7) 27 rfl rfl rfl (by kernel_rfl) o0 rfl (rP0) rfl (hone) (by unfold maxLen; omega) (by omega) (by first | exact Nat.le_refl _ | (simp only [World.size_alloc, World.size_setCell, World.size_drew] at *; omega) | omega) ?_
          intro A3 c3 w3 o3 gr3 at3
          have z3 := gr3.size
          try simp only [World.size_drew] at z3
          replace HBB := below_grown HBB gr3 o0 (by first | exact Nat.le_refl _ | (simp only [World.size_alloc, World.size_setCell, World.size_drew] at *; omega) | omega)
          have zHBB3 := HBB.size
          replace rP0 := Rd.grownOwn rP0 gr3 o0 (by first | exact Nat.le_refl _ | (simp only [World.size_alloc, World.size_setCell, World.size_drew] at *; omega) | omega) (by first | exact Nat.le_refl _ | (simp only [World.size_alloc, World.size_setCell, World.size_drew] at *; omega) | omega)
          replace b1 := Blk.grown b1 gr3 (by intro e; have := o0.blk _ e.symm; omega)
          replace b2 := Blk.grown b2 gr3 (by intro e; have := o0.blk _ e.symm; omega)
          replace b3 := Blk.grown b3 gr3 (by intro e; have := o0.blk _ e.symm; omega)
          replace o5 := Own.other o5 gr3 (by intro k hk e; simp only [blkOf, Option.map_some, Option.some.injEq] at hk e; omega)
          refine hK3.out _ _ ?su1xb63xb64xb65xb70x3 (fun hHeld => ?ru1xb63xb64xb65xb70x3)
          case su1xb63xb64xb65xb70x3 => ((try dsimp only); exact ⟨b2.cell_ 0 rfl, b2.cell_ 1 rfl, b2.cell_ 2 rfl, b2.cell_ 3 rfl, b2.cell_ 4 rfl⟩)
          try simp only [List.setIfInBounds_toArray, List.set_cons_zero, List.set_cons_succ]
          refine wpAnyH_ready (rs := [6]) (by kernel_rfl) (by simp) (AllReadyH.cons rfl (fun K6 hK6 => ?ku1xb63xb64xb65xb70x6) AllReadyH.nil)
          refine take_app El_part 6 (Operand.tmp 8) (Operand.tmp 10) 27 rfl rfl rfl (by kernel_rfl) o3 rfl (o5.rd) rfl (pcell_one hvo) (by unfold maxLen; omega) (by omega) (by first | exact Nat.le_refl _ | (simp only [World.size_alloc, World.size_setCell, World.size_drew] at *; omega) | omega) ?_
          intro A6 c6 w6 o6 gr6 at6
          have z6 := gr6.size
          try simp only [World.size_drew] at z6
          replace HBB := below_grown HBB gr6 o3 (by first | exact Nat.le_refl _ | (simp only [World.size_alloc, World.size_setCell, World.size_drew] at *; omega) | omega)
          have zHBB6 := HBB.size
          replace rP0 := Rd.grownOwn rP0 gr6 o3 (by first | exact Nat.le_refl _ | (simp only [World.size_alloc, World.size_setCell, World.size_drew] at *; omega) | omega) (by first | exact Nat.le_refl _ | (simp only [World.size_alloc, World.size_setCell, World.size_drew] at *; omega) | omega)
          replace b1 := Blk.grown b1 gr6 (by intro e; have := o3.blk _ e.symm; omega)
          replace b2 := Blk.grown b2 gr6 (by intro e; have := o3.blk _ e.symm; omega)
          replace b3 := Blk.grown b3 gr6 (by intro e; have := o3.blk _ e.symm; omega)
          refine hK6.out _ _ ?su1xb63xb64xb65xb70x6 (fun hHeld => ?ru1xb63xb64xb65xb70x6)
          case su1xb63xb64xb65xb70x6 => ((try dsimp only); exact ⟨b2.cell_ 0 rfl, b2.cell_ 1 rfl, b2.cell_ 2 rfl, b2.cell_ 3 rfl, b2.cell_ 4 rfl⟩)
          try simp only [List.setIfInBounds_toArray, List.set_cons_zero, List.set_cons_succ]
          refine take_op (v := ?vu1xb63xb64xb65xb70x7) 7 (Op.fieldAddr 29 (Operand.tmp 2) 0) 0 rfl rfl rfl rfl rfl (by kernel_rfl) (by kernel_rfl) (by kernel_rfl) (fun _ _ _ h => h) ?yu1xb63xb64xb65xb70x7 (by assumption) ?ru1xb63xb64xb65xb70x7
          case yu1xb63xb64xb65xb70x7 => (intro w' hSw; (try dsimp only at hSw); go_simp; try (with_reducible rfl))
          simp only [List.setIfInBounds_toArray, List.set_cons_zero, List.set_cons_succ]
          refine wpAnyH_ready (rs := [8]) (by kernel_rfl) (by simp) (AllReadyH.cons rfl (fun K8 hK8 => ?ku1xb63xb64xb65xb70x8) AllReadyH.nil)
          refine take_store 8 (Op.store 27 (Operand.tmp 12) (Operand.tmp 11)) 0 rfl rfl rfl (by kernel_rfl) (w' := w6.setCell ⟨B, 0, none⟩ (.slice A6 (0 + n + 1) c6)) (by obtain ⟨cL, _, _, fL, _⟩ := blk3 b1; go_simp; try (with_reducible rfl)) ?_
          refine hK8.out _ _ (⟨(b2.far (p := ⟨B, 0, none⟩) (by dsimp only; omega) _).cell_ 0 rfl, (b2.far (p := ⟨B, 0, none⟩) (by dsimp only; omega) _).cell_ 1 rfl, (b2.far (p := ⟨B, 0, none⟩) (by dsimp only; omega) _).cell_ 2 rfl, (b2.far (p := ⟨B, 0, none⟩) (by dsimp only; omega) _).cell_ 3 rfl, (b2.far (p := ⟨B, 0, none⟩) (by dsimp only; omega) _).cell_ 4 rfl⟩) (fun hHeld => ?_)
          refine wpAnyH_done (by kernel_rfl) ?_ _
          simp only [Nat.zero_add, List.nil_append] at o6 ⊢
          have hA6 := o6.blk
          have b1' := b1.set 0 (.slice A6 (n + 1) c6)
          have b3' := b3.far (p := ⟨B, 0, none⟩) (by dsimp only; omega) (.slice A6 (n + 1) c6)
          have o6' := o6.far (p := ⟨B, 0, none⟩) (fun e => by have := (hA6 _ e).1; dsimp only at this; omega) (.slice A6 (n + 1) c6)
          have HW : Below B w (w6.setCell ⟨B, 0, none⟩ (.slice A6 (n + 1) c6)) := (HB.trans (HBB.mono (by omega))).setCell (p := ⟨B, 0, none⟩) (Nat.le_refl _) _
          generalize w6.setCell ⟨B, 0, none⟩ (.slice A6 (n + 1) c6) = w7 at *
          have b1q : Blk w7 B 29 #[.slice A6 (n + 1) c6, .int .i64 sz, .int .i64 dp] := b1'
          obtain ⟨c0, c1, c2, _⟩ := blk3 b1q
          obtain ⟨d0, d1, d2, f0, f1, f2, _⟩ := blk3 b3'
          clear b1 b2 b3 b1' rP0 o3 o6 HBB
          go_wp2_with fail
          refine bodyPost_ret (results_r1 rfl _ _ (B + 1 + 1) #[.slice A6 (n + 1) c6, .int .i64 sz, .int .i64 dp] _ rfl (blk_eq (((b3'.set 0 _).set 1 _).set 2 _) (by simp)) Tryd.underlying29 rfl (by kernel_rfl)) rfl ?_
          refine ⟨A6, c6, rfl, o6'.cap, o6'.capm, ⟨pl ++ [(p, v)], by rw [List.map_append, HPL.out]; rfl, ?_, ?_⟩, ?_⟩
          · have := own_far3 (a := .slice A6 (n + 1) c6) (b := .int .i64 sz) (d := .int .i64 dp) o6' (show B + 1 + 1 < B + 1 + 1 + 1 by omega)
            rw [plc_app]
            exact RdS.of_own this (fun b h1 _ => .inr (by rw [HBq.out]; omega))
          · have HW2 := below3 (a' := .slice A6 (n + 1) c6) (b' := .int .i64 sz) (c' := .int .i64 dp) HW (show B ≤ B + 1 + 1 by omega)
            rw [← HBq.out] at HW2
            have HK : ∀ b, S b → b < w.heap.size → (((w7.setCell ⟨B + 1 + 1, 0, none⟩ (.slice A6 (n + 1) c6)).setCell ⟨B + 1 + 1, 1, none⟩ (.int .i64 sz)).setCell ⟨B + 1 + 1, 2, none⟩ (.int .i64 dp)).heap[b]? = w.heap[b]? ∧ (S b ∨ w.heap.size ≤ b) :=
              fun b h1 h2 => by rw [HBq.out] at HW2 ⊢; exact ⟨HW2.block b (by rw [← HBq.out]; exact h2), .inl h1⟩
            intro x hx
            rcases List.mem_append.1 hx with h | h
            · exact (HO.out x h).keep HK
            · simp only [List.mem_singleton] at h
              subst h
              exact HV.out.keep HK
          · have HW2 := below3 (a' := .slice A6 (n + 1) c6) (b' := .int .i64 sz) (c' := .int .i64 dp) HW (show B ≤ B + 1 + 1 by omega)
            rw [HBq.out]
            exact HW2
      case ku1xb63xb64x5 =>
        refine take_build (e := 75) (len := 1) (size := 5) (B + 1 + 1 + 1) (pcell (p, v)) 5 (Op.buildSlice 27 1 #[(0, Operand.tmp 9)]) 27 rfl rfl rfl (by kernel_rfl) ?eu1xb63xb64xb74x5 (by rfl) (by decide) (by first | exact Nat.le_refl _ | (simp only [World.size_alloc, World.size_setCell, World.size_drew] at *; omega) | omega) ?_
        case eu1xb63xb64xb74x5 => (go_simp; try (first | with_reducible rfl | (simp [rcells, rcell]; done) | (simp [fcells]; done) | (simp [tcells]; done) | rfl))
        intro gx5 w5 o5 gr5 l5 m5
        have z5 := gr5.size
        try simp only [World.size_drew] at z5
        replace HBB := below_grow HBB gr5
        have zHBB5 := HBB.size
        replace rP0 := Rd.grow0 rP0 gr5 (by first | exact Nat.le_refl _ | (simp only [World.size_alloc, World.size_setCell, World.size_drew] at *; omega) | omega)
        replace b1 := Blk.grow0 b1 gr5
        replace b2 := Blk.grow0 b2 gr5
        replace b3 := Blk.grow0 b3 gr5
        replace o0 := Own.grow0 o0 gr5
        refine hK5.out _ _ ?su1xb63xb64xb74x5 (fun hHeld => ?ru1xb63xb64xb74x5)
        case su1xb63xb64xb74x5 => ((try dsimp only); exact ⟨b2.cell_ 0 rfl, b2.cell_ 1 rfl, b2.cell_ 2 rfl, b2.cell_ 3 rfl, b2.cell_ 4 rfl⟩)
        try simp only [List.setIfInBounds_toArray, List.set_cons_zero, List.set_cons_succ]
        refine wpAnyH_ready (rs := [2]) (by kernel_rfl) (by simp) (AllReadyH.cons rfl (fun K2 hK2 => ?ku1xb63xb64xb74x2) AllReadyH.nil)
        refine take_any 2 (Op.load 27 (Operand.tmp 6)) 27 rfl rfl rfl (by kernel_rfl) (v := .slice A n c) (by have cL := b1.cell_ 0 rfl; go_simp; try (with_reducible rfl)) ?_
        refine hK2.out _ _ ?su1xb63xb64xb74x2 (fun hHeld => ?ru1xb63xb64xb74x2)
        case su1xb63xb64xb74x2 => ((try dsimp only); exact ⟨b2.cell_ 0 rfl, b2.cell_ 1 rfl, b2.cell_ 2 rfl, b2.cell_ 3 rfl, b2.cell_ 4 rfl⟩)
        try simp only [List.setIfInBounds_toArray, List.set_cons_zero, List.set_cons_succ]
        refine wpAnyH_ready (rs := [3]) (by kernel_rfl) (by simp) (AllReadyH.cons rfl (fun K3 hK3 => ?ku1xb63xb64xb74x3) AllReadyH.nil)
        refine take_app El_part 3 (Operand.tmp 5) (Operand.tmp 7) 27 rfl rfl rfl (by kernel_rfl) o0 rfl (rP0) rfl (hone) (by unfold maxLen; omega) (by omega) (by first | exact Nat.le_refl _ | (simp only [World.size_alloc, World.size_setCell, World.size_drew] at *; omega) | omega) ?_
        intro A3 c3 w3 o3 gr3 at3
        have z3 := gr3.size
        try simp only [World.size_drew] at z3
        replace HBB := below_grown HBB gr3 o0 (by first | exact Nat.le_refl _ | (simp only [World.size_alloc, World.size_setCell, World.size_drew] at *; omega) | omega)
        have zHBB3 := HBB.size
        replace rP0 := Rd.grownOwn rP0 gr3 o0 (by first | exact Nat.le_refl _ | (simp only [World.size_alloc, World.size_setCell, World.size_drew] at *; omega) | omega) (by first | exact Nat.le_refl _ | (simp only [World.size_alloc, World.size_setCell, World.size_drew] at *; omega) | omega)
        replace b1 := Blk.grown b1 gr3 (by intro e; have := o0.blk _ e.symm; omega)
        replace b2 := Blk.grown b2 gr3 (by intro e; have := o0.blk _ e.symm; omega)
        replace b3 := Blk.grown b3 gr3 (by intro e; have := o0.blk _ e.symm; omega)
        replace o5 := Own.other o5 gr3 (by intro k hk e; simp only [blkOf, Option.map_some, Option.some.injEq] at hk e; omega)
        refine hK3.out _ _ ?su1xb63xb64xb74x3 (fun hHeld => ?ru1xb63xb64xb74x3)
        case su1xb63xb64xb74x3 => ((try dsimp only); exact ⟨b2.cell_ 0 rfl, b2.cell_ 1 rfl, b2.cell_ 2 rfl, b2.cell_ 3 rfl, b2.cell_ 4 rfl⟩)
        try simp only [List.setIfInBounds_toArray, List.set_cons_zero, List.set_cons_succ]
        refine wpAnyH_ready (rs := [6]) (by kernel_rfl) (by simp) (AllReadyH.cons rfl (fun K6 hK6 => ?ku1xb63xb64xb74x6) AllReadyH.nil)
        refine take_app El_part 6 (Operand.tmp 8) (Operand.tmp 10) 27 rfl rfl rfl (by kernel_rfl) o3 rfl (o5.rd) rfl (pcell_one hvo) (by unfold maxLen; omega) (by omega) (by first | exact Nat.le_refl _ | (simp only [World.size_alloc, World.size_setCell, World.size_drew] at *; omega) | omega) ?_
        intro A6 c6 w6 o6 gr6 at6
        have z6 := gr6.size
        try simp only [World.size_drew] at z6
        replace HBB := below_grown HBB gr6 o3 (by first | exact Nat.le_refl _ | (simp only [World.size_alloc, World.size_setCell, World.size_drew] at *; omega) | omega)
        have zHBB6 := HBB.size
        replace rP0 := Rd.grownOwn rP0 gr6 o3 (by first | exact Nat.le_refl _ | (simp only [World.size_alloc, World.size_setCell, World.size_drew] at *; omega) | omega) (by first | exact Nat.le_refl _ | (simp only [World.size_alloc, World.size_setCell, World.size_drew] at *; omega) | omega)
        replace b1 := Blk.grown b1 gr6 (by intro e; have := o3.blk _ e.symm; omega)
        replace b2 := Blk.grown b2 gr6 (by intro e; have := o3.blk _ e.symm; omega)
        replace b3 := Blk.grown b3 gr6 (by intro e; have := o3.blk _ e.symm; omega)
        refine hK6.out _ _ ?su1xb63xb64xb74x6 (fun hHeld => ?ru1xb63xb64xb74x6)
        case su1xb63xb64xb74x6 => ((try dsimp only); exact ⟨b2.cell_ 0 rfl, b2.cell_ 1 rfl, b2.cell_ 2 rfl, b2.cell_ 3 rfl, b2.cell_ 4 rfl⟩)
        try simp only [List.setIfInBounds_toArray, List.set_cons_zero, List.set_cons_succ]
        refine take_op (v := ?vu1xb63xb64xb74x7) 7 (Op.fieldAddr 29 (Operand.tmp 2) 0) 0 rfl rfl rfl rfl rfl (by kernel_rfl) (by kernel_rfl) (by kernel_rfl) (fun _ _ _ h => h) ?yu1xb63xb64xb74x7 (by assumption) ?ru1xb63xb64xb74x7
        case yu1xb63xb64xb74x7 => (intro w' hSw; (try dsimp only at hSw); go_simp; try (with_reducible rfl))
        simp only [List.setIfInBounds_toArray, List.set_cons_zero, List.set_cons_succ]
        refine wpAnyH_ready (rs := [8]) (by kernel_rfl) (by simp) (AllReadyH.cons rfl (fun K8 hK8 => ?ku1xb63xb64xb74x8) AllReadyH.nil)
        refine take_store 8 (Op.store 27 (Operand.tmp 12) (Operand.tmp 11)) 0 rfl rfl rfl (by kernel_rfl) (w' := w6.setCell ⟨B, 0, none⟩ (.slice A6 (0 + n + 1) c6)) (by obtain ⟨cL, _, _, fL, _⟩ := blk3 b1; go_simp; try (with_reducible rfl)) ?_
        refine hK8.out _ _ (⟨(b2.far (p := ⟨B, 0, none⟩) (by dsimp only; omega) _).cell_ 0 rfl, (b2.far (p := ⟨B, 0, none⟩) (by dsimp only; omega) _).cell_ 1 rfl, (b2.far (p := ⟨B, 0, none⟩) (by dsimp only; omega) _).cell_ 2 rfl, (b2.far (p := ⟨B, 0, none⟩) (by dsimp only; omega) _).cell_ 3 rfl, (b2.far (p := ⟨B, 0, none⟩) (by dsimp only; omega) _).cell_ 4 rfl⟩) (fun hHeld => ?_)
        refine wpAnyH_done (by kernel_rfl) ?_ _
        simp only [Nat.zero_add, List.nil_append] at o6 ⊢
        have hA6 := o6.blk
        have b1' := b1.set 0 (.slice A6 (n + 1) c6)
        have b3' := b3.far (p := ⟨B, 0, none⟩) (by dsimp only; omega) (.slice A6 (n + 1) c6)
        have o6' := o6.far (p := ⟨B, 0, none⟩) (fun e => by have := (hA6 _ e).1; dsimp only at this; omega) (.slice A6 (n + 1) c6)
        have HW : Below B w (w6.setCell ⟨B, 0, none⟩ (.slice A6 (n + 1) c6)) := (HB.trans (HBB.mono (by omega))).setCell (p := ⟨B, 0, none⟩) (Nat.le_refl _) _
        generalize w6.setCell ⟨B, 0, none⟩ (.slice A6 (n + 1) c6) = w7 at *
        have b1q : Blk w7 B 29 #[.slice A6 (n + 1) c6, .int .i64 sz, .int .i64 dp] := b1'
        obtain ⟨c0, c1, c2, _⟩ := blk3 b1q
        obtain ⟨d0, d1, d2, f0, f1, f2, _⟩ := blk3 b3'
        clear b1 b2 b3 b1' rP0 o3 o6 HBB
        go_wp2_with fail
        refine bodyPost_ret (results_r1 rfl _ _ (B + 1 + 1) #[.slice A6 (n + 1) c6, .int .i64 sz, .int .i64 dp] _ rfl (blk_eq (((b3'.set 0 _).set 1 _).set 2 _) (by simp)) Tryd.underlying29 rfl (by kernel_rfl)) rfl ?_
        refine ⟨A6, c6, rfl, o6'.cap, o6'.capm, ⟨pl ++ [(p, v)], by rw [List.map_append, HPL.out]; rfl, ?_, ?_⟩, ?_⟩
        · have := own_far3 (a := .slice A6 (n + 1) c6) (b := .int .i64 sz) (d := .int .i64 dp) o6' (show B + 1 + 1 < B + 1 + 1 + 1 by omega)
          rw [plc_app]
          exact RdS.of_own this (fun b h1 _ => .inr (by rw [HBq.out]; omega))
        · have HW2 := below3 (a' := .slice A6 (n + 1) c6) (b' := .int .i64 sz) (c' := .int .i64 dp) HW (show B ≤ B + 1 + 1 by omega)
          rw [← HBq.out] at HW2
          have HK : ∀ b, S b → b < w.heap.size → (((w7.setCell ⟨B + 1 + 1, 0, none⟩ (.slice A6 (n + 1) c6)).setCell ⟨B + 1 + 1, 1, none⟩ (.int .i64 sz)).setCell ⟨B + 1 + 1, 2, none⟩ (.int .i64 dp)).heap[b]? = w.heap[b]? ∧ (S b ∨ w.heap.size ≤ b) :=
            fun b h1 h2 => by rw [HBq.out] at HW2 ⊢; exact ⟨HW2.block b (by rw [← HBq.out]; exact h2), .inl h1⟩
          intro x hx
          rcases List.mem_append.1 hx with h | h
          · exact (HO.out x h).keep HK
          · simp only [List.mem_singleton] at h
            subst h
            exact HV.out.keep HK
        · have HW2 := below3 (a' := .slice A6 (n + 1) c6) (b' := .int .i64 sz) (c' := .int .i64 dp) HW (show B ≤ B + 1 + 1 by omega)
          rw [HBq.out]
          exact HW2
    case ku1xb63x2 =>
      refine take_any 2 (Op.load 27 (Operand.tmp 6)) 27 rfl rfl rfl (by kernel_rfl) (v := .slice A n c) (by have cL := b1.cell_ 0 rfl; go_simp; try (with_reducible rfl)) ?_
      refine hK2.out _ _ ?su1xb63xb79x2 (fun hHeld => ?ru1xb63xb79x2)
      case su1xb63xb79x2 => ((try dsimp only); exact ⟨b2.cell_ 0 rfl, b2.cell_ 1 rfl, b2.cell_ 2 rfl, b2.cell_ 3 rfl, b2.cell_ 4 rfl⟩)
      try simp only [List.setIfInBounds_toArray, List.set_cons_zero, List.set_cons_succ]
      refine wpAnyH_ready (rs := [0, 5]) (by kernel_rfl) (by simp) (AllReadyH.cons rfl (fun K0 hK0 => ?ku1xb63xb79x0) (AllReadyH.cons rfl (fun K5 hK5 => ?ku1xb63xb79x5) AllReadyH.nil))
      case ku1xb63xb79x0 =>
        refine take_build (e := 75) (len := 0) (size := 5) (B + 1 + 1 + 1) ([]) 0 (Op.buildSlice 27 0 #[]) 27 rfl rfl rfl (by kernel_rfl) ?eu1xb63xb79xb80x0 (by rfl) (by decide) (by first | exact Nat.le_refl _ | (simp only [World.size_alloc, World.size_setCell, World.size_drew] at *; omega) | omega) ?_
        case eu1xb63xb79xb80x0 => (go_simp; try (first | with_reducible rfl | (simp [rcells, rcell]; done) | (simp [fcells]; done) | (simp [tcells]; done) | rfl))
        intro gx0 w0 o0 gr0 l0 m0
        have z0 := gr0.size
        try simp only [World.size_drew] at z0
        replace HBB := below_grow HBB gr0
        have zHBB0 := HBB.size
        replace rP0 := Rd.grow0 rP0 gr0 (by first | exact Nat.le_refl _ | (simp only [World.size_alloc, World.size_setCell, World.size_drew] at *; omega) | omega)
        replace b1 := Blk.grow0 b1 gr0
        replace b2 := Blk.grow0 b2 gr0
        replace b3 := Blk.grow0 b3 gr0
        refine hK0.out _ _ ?su1xb63xb79xb80x0 (fun hHeld => ?ru1xb63xb79xb80x0)
        case su1xb63xb79xb80x0 => ((try dsimp only); exact ⟨b2.cell_ 0 rfl, b2.cell_ 1 rfl, b2.cell_ 2 rfl, b2.cell_ 3 rfl, b2.cell_ 4 rfl⟩)
        try simp only [List.setIfInBounds_toArray, List.set_cons_zero, List.set_cons_succ]
        refine wpAnyH_ready (rs := [3, 5]) (by kernel_rfl) (by simp) (AllReadyH.cons rfl (fun K3 hK3 => ?ku1xb63xb79xb80x3) (AllReadyH.cons rfl (fun K5 hK5 => ?ku1xb63xb79xb80x5) AllReadyH.nil))
        case ku1xb63xb79xb80x3 =>
          refine take_app El_part 3 (Operand.tmp 5) (Operand.tmp 7) 27 rfl rfl rfl (by kernel_rfl) o0 rfl (rP0) rfl (hone) (by unfold maxLen; omega) (by omega) (by first | exact Nat.le_refl _ | (simp only [World.size_alloc, World.size_setCell, World.size_drew] at *; omega) | omega) ?_
          intro A3 c3 w3 o3 gr3 at3
          have z3 := gr3.size
          try simp only [World.size_drew] at z3
          replace HBB := below_grown HBB gr3 o0 (by first | exact Nat.le_refl _ | (simp only [World.size_alloc, World.size_setCell, World.size_drew] at *; omega) | omega)
          have zHBB3 := HBB.size
          replace rP0 := Rd.grownOwn rP0 gr3 o0 (by first | exact Nat.le_refl _ | (simp only [World.size_alloc, World.size_setCell, World.size_drew] at *; omega) | omega) (by first | exact Nat.le_refl _ | (simp only [World.size_alloc, World.size_setCell, World.size_drew] at *; omega) | omega)
          replace b1 := Blk.grown b1 gr3 (by intro e; have := o0.blk _ e.symm; omega)
          replace b2 := Blk.grown b2 gr3 (by intro e; have := o0.blk _ e.symm; omega)
          replace b3 := Blk.grown b3 gr3 (by intro e; have := o0.blk _ e.symm; omega)
          refine hK3.out _ _ ?su1xb63xb79xb80xb81x3 (fun hHeld => ?ru1xb63xb79xb80xb81x3)
          case su1xb63xb79xb80xb81x3 => ((try dsimp only); exact ⟨b2.cell_ 0 rfl, b2.cell_ 1 rfl, b2.cell_ 2 rfl, b2.cell_ 3 rfl, b2.cell_ 4 rfl⟩)
          try simp only [List.setIfInBounds_toArray, List.set_cons_zero, List.set_cons_succ]
          refine wpAnyH_ready (rs := [5]) (by kernel_rfl) (by simp) (AllReadyH.cons rfl (fun K5 hK5 => ?ku1xb63xb79xb80xb81x5) AllReadyH.nil)
          refine take_build (e := 75) (len := 1) (size := 5) (B + 1 + 1 + 1) (pcell (p, v)) 5 (Op.buildSlice 27 1 #[(0, Operand.tmp 9)]) 27 rfl rfl rfl (by kernel_rfl) ?eu1xb63xb79xb80xb81x5 (by rfl) (by decide) (by first | exact Nat.le_refl _ | (simp only [World.size_alloc, World.size_setCell, World.size_drew] at *; omega) | omega) ?_
          case eu1xb63xb79xb80xb81x5 => (go_simp; try (first | with_reducible rfl | (simp [rcells, rcell]; done) | (simp [fcells]; done) | (simp [tcells]; done) | rfl))
          intro gx5 w5 o5 gr5 l5 m5
          have z5 := gr5.size
          try simp only [World.size_drew] at z5
          replace HBB := below_grow HBB gr5
          have zHBB5 := HBB.size
          replace rP0 := Rd.grow0 rP0 gr5 (by first | exact Nat.le_refl _ | (simp only [World.size_alloc, World.size_setCell, World.size_drew] at *; omega) | omega)
          replace b1 := Blk.grow0 b1 gr5
          replace b2 := Blk.grow0 b2 gr5
          replace b3 := Blk.grow0 b3 gr5
          replace o3 := Own.grow0 o3 gr5
          refine hK5.out _ _ ?su1xb63xb79xb80xb81x5 (fun hHeld => ?ru1xb63xb79xb80xb81x5)
          case su1xb63xb79xb80xb81x5 => ((try dsimp only); exact ⟨b2.cell_ 0 rfl, b2.cell_ 1 rfl, b2.cell_ 2 rfl, b2.cell_ 3 rfl, b2.cell_ 4 rfl⟩)
          try simp only [List.setIfInBounds_toArray, List.set_cons_zero, List.set_cons_succ]
          refine wpAnyH_ready (rs := [6]) (by kernel_rfl) (by simp) (AllReadyH.cons rfl (fun K6 hK6 => ?ku1xb63xb79xb80xb81x6) AllReadyH.nil)
          refine take_app El_part 6 (Operand.tmp 8) (Operand.tmp 10) 27 rfl rfl rfl (by kernel_rfl) o3 rfl (o5.rd) rfl (pcell_one hvo) (by unfold maxLen; omega) (by omega) (by first | exact Nat.le_refl _ | (simp only [World.size_alloc, World.size_setCell, World.size_drew] at *; omega) | omega) ?_
          intro A6 c6 w6 o6 gr6 at6
          have z6 := gr6.size
          try simp only [World.size_drew] at z6
          replace HBB := below_grown HBB gr6 o3 (by first | exact Nat.le_refl _ | (simp only [World.size_alloc, World.size_setCell, World.size_drew] at *; omega) | omega)
          have zHBB6 := HBB.size
          replace rP0 := Rd.grownOwn rP0 gr6 o3 (by first | exact Nat.le_refl _ | (simp only [World.size_alloc, World.size_setCell, World.size_drew] at *; omega) | omega) (by first | exact Nat.le_refl _ | (simp only [World.size_alloc, World.size_setCell, World.size_drew] at *; omega) | omega)
          replace b1 := Blk.grown b1 gr6 (by intro e; have := o3.blk _ e.symm; omega)
          replace b2 := Blk.grown b2 gr6 (by intro e; have := o3.blk _ e.symm; omega)
          replace b3 := Blk.grown b3 gr6 (by intro e; have := o3.blk _ e.symm; omega)
          refine hK6.out _ _ ?su1xb63xb79xb80xb81x6 (fun hHeld => ?ru1xb63xb79xb80xb81x6)
          case su1xb63xb79xb80xb81x6 => ((try dsimp only); exact ⟨b2.cell_ 0 rfl, b2.cell_ 1 rfl, b2.cell_ 2 rfl, b2.cell_ 3 rfl, b2.cell_ 4 rfl⟩)
          try simp only [List.setIfInBounds_toArray, List.set_cons_zero, List.set_cons_succ]
          refine take_op (v := ?vu1xb63xb79xb80xb81x7) 7 (Op.fieldAddr 29 (Operand.tmp 2) 0) 0 rfl rfl rfl rfl rfl (by kernel_rfl) (by kernel_rfl) (by kernel_rfl) (fun _ _ _ h => h) ?yu1xb63xb79xb80xb81x7 (by assumption) ?ru1xb63xb79xb80xb81x7
          case yu1xb63xb79xb80xb81x7 => (intro w' hSw; (try dsimp only at hSw); go_simp; try (with_reducible rfl))
          simp only [List.setIfInBounds_toArray, List.set_cons_zero, List.set_cons_succ]
          refine wpAnyH_ready (rs := [8]) (by kernel_rfl) (by simp) (AllReadyH.cons rfl (fun K8 hK8 => ?ku1xb63xb79xb80xb81x8) AllReadyH.nil)
          refine take_store 8 (Op.store 27 (Operand.tmp 12) (Operand.tmp 11)) 0 rfl rfl rfl (by kernel_rfl) (w' := w6.setCell ⟨B, 0, none⟩ (.slice A6 (0 + n + 1) c6)) (by obtain ⟨cL, _, _, fL, _⟩ := blk3 b1; go_simp; try (with_reducible rfl)) ?_
          refine hK8.out _ _ (⟨(b2.far (p := ⟨B, 0, none⟩) (by dsimp only; omega) _).cell_ 0 rfl, (b2.far (p := ⟨B, 0, none⟩) (by dsimp only; omega) _).cell_ 1 rfl, (b2.far (p := ⟨B, 0, none⟩) (by dsimp only; omega) _).cell_ 2 rfl, (b2.far (p := ⟨B, 0, none⟩) (by dsimp only; omega) _).cell_ 3 rfl, (b2.far (p := ⟨B, 0, none⟩) (by dsimp only; omega) _).cell_ 4 rfl⟩) (fun hHeld => ?_)
          refine wpAnyH_done (by kernel_rfl) ?_ _
          simp only [Nat.zero_add, List.nil_append] at o6 ⊢
          have hA6 := o6.blk
          have b1' := b1.set 0 (.slice A6 (n + 1) c6)
          have b3' := b3.far (p := ⟨B, 0, none⟩) (by dsimp only; omega) (.slice A6 (n + 1) c6)
          have o6' := o6.far (p := ⟨B, 0, none⟩) (fun e => by have := (hA6 _ e).1; dsimp only at this; omega) (.slice A6 (n + 1) c6)
          have HW : Below B w (w6.setCell ⟨B, 0, none⟩ (.slice A6 (n + 1) c6)) := (HB.trans (HBB.mono (by omega))).setCell (p := ⟨B, 0, none⟩) (Nat.le_refl _) _
          generalize w6.setCell ⟨B, 0, none⟩ (.slice A6 (n + 1) c6) = w7 at *
          have b1q : Blk w7 B 29 #[.slice A6 (n + 1) c6, .int .i64 sz, .int .i64 dp] := b1'
          obtain ⟨c0, c1, c2, _⟩ := blk3 b1q
          obtain ⟨d0, d1, d2, f0, f1, f2, _⟩ := blk3 b3'
          clear b1 b2 b3 b1' rP0 o3 o6 HBB
          go_wp2_with fail
          refine bodyPost_ret (results_r1 rfl _ _ (B + 1 + 1) #[.slice A6 (n + 1) c6, .int .i64 sz, .int .i64 dp] _ rfl (blk_eq (((b3'.set 0 _).set 1 _).set 2 _) (by simp)) Tryd.underlying29 rfl (by kernel_rfl)) rfl ?_
          refine ⟨A6, c6, rfl, o6'.cap, o6'.capm, ⟨pl ++ [(p, v)], by rw [List.map_append, HPL.out]; rfl, ?_, ?_⟩, ?_⟩
          · have := own_far3 (a := .slice A6 (n + 1) c6) (b := .int .i64 sz) (d := .int .i64 dp) o6' (show B + 1 + 1 < B + 1 + 1 + 1 by omega)
            rw [plc_app]
            exact RdS.of_own this (fun b h1 _ => .inr (by rw [HBq.out]; omega))
          · have HW2 := below3 (a' := .slice A6 (n + 1) c6) (b' := .int .i64 sz) (c' := .int .i64 dp) HW (show B ≤ B + 1 + 1 by omega)
            rw [← HBq.out] at HW2
            have HK : ∀ b, S b → b < w.heap.size → (((w7.setCell ⟨B + 1 + 1, 0, none⟩ (.slice A6 (n + 1) c6)).setCell ⟨B + 1 + 1, 1, none⟩ (.int .i64 sz)).setCell ⟨B + 1 + 1, 2, none⟩ (.int .i64 dp)).heap[b]? = w.heap[b]? ∧ (S b ∨ w.heap.size ≤ b) :=
              fun b h1 h2 => by rw [HBq.out] at HW2 ⊢; exact ⟨HW2.block b (by rw [← HBq.out]; exact h2), .inl h1⟩
            intro x hx
            rcases List.mem_append.1 hx with h | h
            · exact (HO.out x h).keep HK
            · simp only [List.mem_singleton] at h
              subst h
              exact HV.out.keep HK
          · have HW2 := below3 (a' := .slice A6 (n + 1) c6) (b' := .int .i64 sz) (c' := .int .i64 dp) HW (show B ≤ B + 1 + 1 by omega)
            rw [HBq.out]
            exact HW2
        case ku1xb63xb79xb80x5 =>
          refine take_build (e := 75) (len := 1) (size := 5) (B + 1 + 1 + 1) (pcell (p, v)) 5 (Op.buildSlice 27 1 #[(0, Operand.tmp 9)]) 27 rfl rfl rfl (by kernel_rfl) ?eu1xb63xb79xb80xb85x5 (by rfl) (by decide) (by first | exact Nat.le_refl _ | (simp only [World.size_alloc, World.size_setCell, World.size_drew] at *; omega) | omega) ?_
          case eu1xb63xb79xb80xb85x5 => (go_simp; try (first | with_reducible rfl | (simp [rcells, rcell]; done) | (simp [fcells]; done) | (simp [tcells]; done) | rfl))
          intro gx5 w5 o5 gr5 l5 m5
          have z5 := gr5.size
          try simp only [World.size_drew] at z5
          replace HBB := below_grow HBB gr5
          have zHBB5 := HBB.size
          replace rP0 := Rd.grow0 rP0 gr5 (by first | exact Nat.le_refl _ | (simp only [World.size_alloc, World.size_setCell, World.size_drew] at *; omega) | omega)
          replace b1 := Blk.grow0 b1 gr5
          replace b2 := Blk.grow0 b2 gr5
          replace b3 := Blk.grow0 b3 gr5
          replace o0 := Own.grow0 o0 gr5
          refine hK5.out _ _ ?su1xb63xb79xb80xb85x5 (fun hHeld => ?ru1xb63xb79xb80xb85x5)
          case su1xb63xb79xb80xb85x5 => ((try dsimp only); exact ⟨b2.cell_ 0 rfl, b2.cell_ 1 rfl, b2.cell_ 2 rfl, b2.cell_ 3 rfl, b2.cell_ 4 rfl⟩)
          try simp only [List.setIfInBounds_toArray, List.set_cons_zero, List.set_cons_succ]
          refine wpAnyH_ready (rs := [3]) (by kernel_rfl) (by simp) (AllReadyH.cons rfl (fun K3 hK3 => ?ku1xb63xb79xb80xb85x3) AllReadyH.nil)
          refine take_app El_part 3 (Operand.tmp 5) (Operand.tmp 7) 27 rfl rfl rfl (by kernel_rfl) o0 rfl (rP0) rfl (hone) (by unfold maxLen; omega) (by omega) (by first | exact Nat.le_refl _ | (simp only [World.size_alloc, World.size_setCell, World.size_drew] at *; omega) | omega) ?_
          intro A3 c3 w3 o3 gr3 at3
          have z3 := gr3.size
          try simp only [World.size_drew] at z3
          replace HBB := below_grown HBB gr3 o0 (by first | exact Nat.le_refl _ | (simp only [World.size_alloc, World.size_setCell, World.size_drew] at *; omega) | omega)
          have zHBB3 := HBB.size
          replace rP0 := Rd.grownOwn rP0 gr3 o0 (by first | exact Nat.le_refl _ | (simp only [World.size_alloc, World.size_setCell, World.size_drew] at *; omega) | omega) (by first | exact Nat.le_refl _ | (simp only [World.size_alloc, World.size_setCell, World.size_drew] at *; omega) | omega)
          replace b1 := Blk.grown b1 gr3 (by intro e; have := o0.blk _ e.symm; omega)
          replace b2 := Blk.grown b2 gr3 (by intro e; have := o0.blk _ e.symm; omega)
          replace b3 := Blk.grown b3 gr3 (by intro e; have := o0.blk _ e.symm; omega)
          replace o5 := Own.other o5 gr3 (by intro k hk e; simp only [blkOf, Option.map_some, Option.some.injEq] at hk e; omega)
          refine hK3.out _ _ ?su1xb63xb79xb80xb85x3 (fun hHeld => ?ru1xb63xb79xb80xb85x3)
          case su1xb63xb79xb80xb85x3 => ((try dsimp only); exact ⟨b2.cell_ 0 rfl, b2.cell_ 1 rfl, b2.cell_ 2 rfl, b2.cell_ 3 rfl, b2.cell_ 4 rfl⟩)
          try simp only [List.setIfInBounds_toArray, List.set_cons_zero, List.set_cons_succ]
          refine wpAnyH_ready (rs := [6]) (by kernel_rfl) (by simp) (AllReadyH.cons rfl (fun K6 hK6 => ?ku1xb63xb79xb80xb85x6) AllReadyH.nil)
          refine take_app El_part 6 (Operand.tmp 8) (Operand.tmp 10) 27 rfl rfl rfl (by kernel_rfl) o3 rfl (o5.rd) rfl (pcell_one hvo) (by unfold maxLen; omega) (by omega) (by first | exact Nat.le_refl _ | (simp only [World.size_alloc, World.size_setCell, World.size_drew] at *; omega) | omega) ?_
          intro A6 c6 w6 o6 gr6 at6
          have z6 := gr6.size
          try simp only [World.size_drew] at z6
          replace HBB := below_grown HBB gr6 o3 (by first | exact Nat.le_refl _ | (simp only [World.size_alloc, World.size_setCell, World.size_drew] at *; omega) | omega)
          have zHBB6 := HBB.size
          replace rP0 := Rd.grownOwn rP0 gr6 o3 (by first | exact Nat.le_refl _ | (simp only [World.size_alloc, World.size_setCell, World.size_drew] at *; omega) | omega) (by first | exact Nat.le_refl _ | (simp only [World.size_alloc, World.size_setCell, World.size_drew] at *; omega) | omega)
          replace b1 := Blk.grown b1 gr6 (by intro e; have := o3.blk _ e.symm; omega)
          replace b2 := Blk.grown b2 gr6 (by intro e; have := o3.blk _ e.symm; omega)
          replace b3 := Blk.grown b3 gr6 (by intro e; have := o3.blk _ e.symm; omega)
          refine hK6.out _ _ ?su1xb63xb79xb80xb85x6 (fun hHeld => ?ru1xb63xb79xb80xb85x6)
          case su1xb63xb79xb80xb85x6 => ((try dsimp only); exact ⟨b2.cell_ 0 rfl, b2.cell_ 1 rfl, b2.cell_ 2 rfl, b2.cell_ 3 rfl, b2.cell_ 4 rfl⟩)
          try simp only [List.setIfInBounds_toArray, List.set_cons_zero, List.set_cons_succ]
          refine take_op (v := ?vu1xb63xb79xb80xb85x7) 7 (Op.fieldAddr 29 (Operand.tmp 2) 0) 0 rfl rfl rfl rfl rfl (by kernel_rfl) (by kernel_rfl) (by kernel_rfl) (fun _ _ _ h => h) ?yu1xb63xb79xb80xb85x7 (by assumption) ?ru1xb63xb79xb80xb85x7
          case yu1xb63xb79xb80xb85x7 => (intro w' hSw; (try dsimp only at hSw); go_simp; try (with_reducible rfl))
          simp only [List.setIfInBounds_toArray, List.set_cons_zero, List.set_cons_succ]
          refine wpAnyH_ready (rs := [8]) (by kernel_rfl) (by simp) (AllReadyH.cons rfl (fun K8 hK8 => ?ku1xb63xb79xb80xb85x8) AllReadyH.nil)
          refine take_store 8 (Op.store 27 (Operand.tmp 12) (Operand.tmp 11)) 0 rfl rfl rfl (by kernel_rfl) (w' := w6.setCell ⟨B, 0, none⟩ (.slice A6 (0 + n + 1) c6)) (by obtain ⟨cL, _, _, fL, _⟩ := blk3 b1; go_simp; try (with_reducible rfl)) ?_
          refine hK8.out _ _ (⟨(b2.far (p := ⟨B, 0, none⟩) (by dsimp only; omega) _).cell_ 0 rfl, (b2.far (p := ⟨B, 0, none⟩) (by dsimp only; omega) _).cell_ 1 rfl, (b2.far (p := ⟨B, 0, none⟩) (by dsimp only; omega) _).cell_ 2 rfl, (b2.far (p := ⟨B, 0, none⟩) (by dsimp only; omega) _).cell_ 3 rfl, (b2.far (p := ⟨B, 0, none⟩) (by dsimp only; omega) _).cell_ 4 rfl⟩) (fun hHeld => ?_)
          refine wpAnyH_done (by kernel_rfl) ?_ _
          simp only [Nat.zero_add, List.nil_append] at o6 ⊢
          have hA6 := o6.blk
          have b1' := b1.set 0 (.slice A6 (n + 1) c6)
          have b3' := b3.far (p := ⟨B, 0, none⟩) (by dsimp only; omega) (.slice A6 (n + 1) c6)
          have o6' := o6.far (p := ⟨B, 0, none⟩) (fun e => by have := (hA6 _ e).1; dsimp only at this; omega) (.slice A6 (n + 1) c6)
          have HW : Below B w (w6.setCell ⟨B, 0, none⟩ (.slice A6 (n + 1) c6)) := (HB.trans (HBB.mono (by omega))).setCell (p := ⟨B, 0, none⟩) (Nat.le_refl _) _
          generalize w6.setCell ⟨B, 0, none⟩ (.slice A6 (n + 1) c6) = w7 at *
          have b1q : Blk w7 B 29 #[.slice A6 (n + 1) c6, .int .i64 sz, .int .i64 dp] := b1'
          obtain ⟨c0, c1, c2, _⟩ := blk3 b1q
          obtain ⟨d0, d1, d2, f0, f1, f2, _⟩ := blk3 b3'
          clear b1 b2 b3 b1' rP0 o3 o6 HBB
          go_wp2_with fail
          refine bodyPost_ret (results_r1 rfl _ _ (B + 1 + 1) #[.slice A6 (n + 1) c6, .int .i64 sz, .int .i64 dp] _ rfl (blk_eq (((b3'.set 0 _).set 1 _).set 2 _) (by simp)) Tryd.underlying29 rfl (by kernel_rfl)) rfl ?_
          refine ⟨A6, c6, rfl, o6'.cap, o6'.capm, ⟨pl ++ [(p, v)], by rw [List.map_append, HPL.out]; rfl, ?_, ?_⟩, ?_⟩
          · have := own_far3 (a := .slice A6 (n + 1) c6) (b := .int .i64 sz) (d := .int .i64 dp) o6' (show B + 1 + 1 < B + 1 + 1 + 1 by omega)
            rw [plc_app]
            exact RdS.of_own this (fun b h1 _ => .inr (by rw [HBq.out]; omega))
          · have HW2 := below3 (a' := .slice A6 (n + 1) c6) (b' := .int .i64 sz) (c' := .int .i64 dp) HW (show B ≤ B + 1 + 1 by omega)
            rw [← HBq.out] at HW2
            have HK : ∀ b, S b → b < w.heap.size → (((w7.setCell ⟨B + 1 + 1, 0, none⟩ (.slice A6 (n + 1) c6)).setCell ⟨B + 1 + 1, 1, none⟩ (.int .i64 sz)).setCell ⟨B + 1 + 1, 2, none⟩ (.int .i64 dp)).heap[b]? = w.heap[b]? ∧ (S b ∨ w.heap.size ≤ b) :=
              fun b h1 h2 => by rw [HBq.out] at HW2 ⊢; exact ⟨HW2.block b (by rw [← HBq.out]; exact h2), .inl h1⟩
            intro x hx
            rcases List.mem_append.1 hx with h | h
            · exact (HO.out x h).keep HK
            · simp only [List.mem_singleton] at h
              subst h
              exact HV.out.keep HK
          · have HW2 := below3 (a' := .slice A6 (n + 1) c6) (b' := .int .i64 sz) (c' := .int .i64 dp) HW (show B ≤ B + 1 + 1 by omega)
            rw [HBq.out]
            exact HW2
      case ku1xb63xb79x5 =>
        refine take_build (e := 75) (len := 1) (size := 5) (B + 1 + 1 + 1) (pcell (p, v)) 5 (Op.buildSlice 27 1 #[(0, Operand.tmp 9)]) 27 rfl rfl rfl (by kernel_rfl) ?eu1xb63xb79xb89x5 (by rfl) (by decide) (by first | exact Nat.le_refl _ | (simp only [World.size_alloc, World.size_setCell, World.size_drew] at *; omega) | omega) ?_
        case eu1xb63xb79xb89x5 => (go_simp; try (first | with_reducible rfl | (simp [rcells, rcell]; done) | (simp [fcells]; done) | (simp [tcells]; done) | rfl))
        intro gx5 w5 o5 gr5 l5 m5
        have z5 := gr5.size
        try simp only [World.size_drew] at z5
        replace HBB := below_grow HBB gr5
        have zHBB5 := HBB.size
        replace rP0 := Rd.grow0 rP0 gr5 (by first | exact Nat.le_refl _ | (simp only [World.size_alloc, World.size_setCell, World.size_drew] at *; omega) | omega)
        replace b1 := Blk.grow0 b1 gr5
        replace b2 := Blk.grow0 b2 gr5
        replace b3 := Blk.grow0 b3 gr5
        refine hK5.out _ _ ?su1xb63xb79xb89x5 (fun hHeld => ?ru1xb63xb79xb89x5)
        case su1xb63xb79xb89x5 => ((try dsimp only); exact ⟨b2.cell_ 0 rfl, b2.cell_ 1 rfl, b2.cell_ 2 rfl, b2.cell_ 3 rfl, b2.cell_ 4 rfl⟩)
        try simp only [List.setIfInBounds_toArray, List.set_cons_zero, List.set_cons_succ]
        refine wpAnyH_ready (rs := [0]) (by kernel_rfl) (by simp) (AllReadyH.cons rfl (fun K0 hK0 => ?ku1xb63xb79xb89x0) AllReadyH.nil)
        refine take_build (e := 75) (len := 0) (size := 5) (B + 1 + 1 + 1) ([]) 0 (Op.buildSlice 27 0 #[]) 27 rfl rfl rfl (by kernel_rfl) ?eu1xb63xb79xb89x0 (by rfl) (by decide) (by first | exact Nat.le_refl _ | (simp only [World.size_alloc, World.size_setCell, World.size_drew] at *; omega) | omega) ?_
        case eu1xb63xb79xb89x0 => (go_simp; try (first | with_reducible rfl | (simp [rcells, rcell]; done) | (simp [fcells]; done) | (simp [tcells]; done) | rfl))
        intro gx0 w0 o0 gr0 l0 m0
        have z0 := gr0.size
        try simp only [World.size_drew] at z0
        replace HBB := below_grow HBB gr0
        have zHBB0 := HBB.size
        replace rP0 := Rd.grow0 rP0 gr0 (by first | exact Nat.le_refl _ | (simp only [World.size_alloc, World.size_setCell, World.size_drew] at *; omega) | omega)
        replace b1 := Blk.grow0 b1 gr0
        replace b2 := Blk.grow0 b2 gr0
        replace b3 := Blk.grow0 b3 gr0
        replace o5 := Own.grow0 o5 gr0
        refine hK0.out _ _ ?su1xb63xb79xb89x0 (fun hHeld => ?ru1xb63xb79xb89x0)
        case su1xb63xb79xb89x0 => ((try dsimp only); exact ⟨b2.cell_ 0 rfl, b2.cell_ 1 rfl, b2.cell_ 2 rfl, b2.cell_ 3 rfl, b2.cell_ 4 rfl⟩)
        try simp only [List.setIfInBounds_toArray, List.set_cons_zero, List.set_cons_succ]
        refine wpAnyH_ready (rs := [3]) (by kernel_rfl) (by simp) (AllReadyH.cons rfl (fun K3 hK3 => ?ku1xb63xb79xb89x3) AllReadyH.nil)
        refine take_app El_part 3 (Operand.tmp 5) (Operand.tmp 7) 27 rfl rfl rfl (by kernel_rfl) o0 rfl (rP0) rfl (hone) (by unfold maxLen; omega) (by omega) (by first | exact Nat.le_refl _ | (simp only [World.size_alloc, World.size_setCell, World.size_drew] at *; omega) | omega) ?_
        intro A3 c3 w3 o3 gr3 at3
        have z3 := gr3.size
        try simp only [World.size_drew] at z3
        replace HBB := below_grown HBB gr3 o0 (by first | exact Nat.le_refl _ | (simp only [World.size_alloc, World.size_setCell, World.size_drew] at *; omega) | omega)
        have zHBB3 := HBB.size
        replace rP0 := Rd.grownOwn rP0 gr3 o0 (by first | exact Nat.le_refl _ | (simp only [World.size_alloc, World.size_setCell, World.size_drew] at *; omega) | omega) (by first | exact Nat.le_refl _ | (simp only [World.size_alloc, World.size_setCell, World.size_drew] at *; omega) | omega)
        replace b1 := Blk.grown b1 gr3 (by intro e; have := o0.blk _ e.symm; omega)
        replace b2 := Blk.grown b2 gr3 (by intro e; have := o0.blk _ e.symm; omega)
        replace b3 := Blk.grown b3 gr3 (by intro e; have := o0.blk _ e.symm; omega)
        replace o5 := Own.other o5 gr3 (by intro k hk e; simp only [blkOf, Option.map_some, Option.some.injEq] at hk e; omega)
        refine hK3.out _ _ ?su1xb63xb79xb89x3 (fun hHeld => ?ru1xb63xb79xb89x3)
        case su1xb63xb79xb89x3 => ((try dsimp only); exact ⟨b2.cell_ 0 rfl, b2.cell_ 1 rfl, b2.cell_ 2 rfl, b2.cell_ 3 rfl, b2.cell_ 4 rfl⟩)
        try simp only [List.setIfInBounds_toArray, List.set_cons_zero, List.set_cons_succ]
        refine wpAnyH_ready (rs := [6]) (by kernel_rfl) (by simp) (AllReadyH.cons rfl (fun K6 hK6 => ?ku1xb63xb79xb89x6) AllReadyH.nil)
        refine take_app El_part 6 (Operand.tmp 8) (Operand.tmp 10) 27 rfl rfl rfl (by kernel_rfl) o3 rfl (o5.rd) rfl (pcell_one hvo) (by unfold maxLen; omega) (by omega) (by first | exact Nat.le_refl _ | (simp only [World.size_alloc, World.size_setCell, World.size_drew] at *; omega) | omega) ?_
        intro A6 c6 w6 o6 gr6 at6
        have z6 := gr6.size
        try simp only [World.size_drew] at z6
        replace HBB := below_grown HBB gr6 o3 (by first | exact Nat.le_refl _ | (simp only [World.size_alloc, World.size_setCell, World.size_drew] at *; omega) | omega)
        have zHBB6 := HBB.size
        replace rP0 := Rd.grownOwn rP0 gr6 o3 (by first | exact Nat.le_refl _ | (simp only [World.size_alloc, World.size_setCell, World.size_drew] at *; omega) | omega) (by first | exact Nat.le_refl _ | (simp only [World.size_alloc, World.size_setCell, World.size_drew] at *; omega) | omega)
        replace b1 := Blk.grown b1 gr6 (by intro e; have := o3.blk _ e.symm; omega)
        replace b2 := Blk.grown b2 gr6 (by intro e; have := o3.blk _ e.symm; omega)
        replace b3 := Blk.grown b3 gr6 (by intro e; have := o3.blk _ e.symm; omega)
        refine hK6.out _ _ ?su1xb63xb79xb89x6 (fun hHeld => ?ru1xb63xb79xb89x6)
        case su1xb63xb79xb89x6 => ((try dsimp only); exact ⟨b2.cell_ 0 rfl, b2.cell_ 1 rfl, b2.cell_ 2 rfl, b2.cell_ 3 rfl, b2.cell_ 4 rfl⟩)
        try simp only [List.setIfInBounds_toArray, List.set_cons_zero, List.set_cons_succ]
        refine take_op (v := ?vu1xb63xb79xb89x7) 7 (Op.fieldAddr 29 (Operand.tmp 2) 0) 0 rfl rfl rfl rfl rfl (by kernel_rfl) (by kernel_rfl) (by kernel_rfl) (fun _ _ _ h => h) ?yu1xb63xb79xb89x7 (by assumption) ?ru1xb63xb79xb89x7
        case yu1xb63xb79xb89x7 => (intro w' hSw; (try dsimp only at hSw); go_simp; try (with_reducible rfl))
        simp only [List.setIfInBounds_toArray, List.set_cons_zero, List.set_cons_succ]
        refine wpAnyH_ready (rs := [8]) (by kernel_rfl) (by simp) (AllReadyH.cons rfl (fun K8 hK8 => ?ku1xb63xb79xb89x8) AllReadyH.nil)
        refine take_store 8 (Op.store 27 (Operand.tmp 12) (Operand.tmp 11)) 0 rfl rfl rfl (by kernel_rfl) (w' := w6.setCell ⟨B, 0, none⟩ (.slice A6 (0 + n + 1) c6)) (by obtain ⟨cL, _, _, fL, _⟩ := blk3 b1; go_simp; try (with_reducible rfl)) ?_
        refine hK8.out _ _ (⟨(b2.far (p := ⟨B, 0, none⟩) (by dsimp only; omega) _).cell_ 0 rfl, (b2.far (p := ⟨B, 0, none⟩) (by dsimp only; omega) _).cell_ 1 rfl, (b2.far (p := ⟨B, 0, none⟩) (by dsimp only; omega) _).cell_ 2 rfl, (b2.far (p := ⟨B, 0, none⟩) (by dsimp only; omega) _).cell_ 3 rfl, (b2.far (p := ⟨B, 0, none⟩) (by dsimp only; omega) _).cell_ 4 rfl⟩) (fun hHeld => ?_)
        refine wpAnyH_done (by kernel_rfl) ?_ _
        simp only [Nat.zero_add, List.nil_append] at o6 ⊢
        have hA6 := o6.blk
        have b1' := b1.set 0 (.slice A6 (n + 1) c6)
        have b3' := b3.far (p := ⟨B, 0, none⟩) (by dsimp only; omega) (.slice A6 (n + 1) c6)
        have o6' := o6.far (p := ⟨B, 0, none⟩) (fun e => by have := (hA6 _ e).1; dsimp only at this; omega) (.slice A6 (n + 1) c6)
        have HW : Below B w (w6.setCell ⟨B, 0, none⟩ (.slice A6 (n + 1) c6)) := (HB.trans (HBB.mono (by omega))).setCell (p := ⟨B, 0, none⟩) (Nat.le_refl _) _
        generalize w6.setCell ⟨B, 0, none⟩ (.slice A6 (n + 1) c6) = w7 at *
        have b1q : Blk w7 B 29 #[.slice A6 (n + 1) c6, .int .i64 sz, .int .i64 dp] := b1'
        obtain ⟨c0, c1, c2, _⟩ := blk3 b1q
        obtain ⟨d0, d1, d2, f0, f1, f2, _⟩ := blk3 b3'
        clear b1 b2 b3 b1' rP0 o3 o6 HBB
        go_wp2_with fail
        refine bodyPost_ret (results_r1 rfl _ _ (B + 1 + 1) #[.slice A6 (n + 1) c6, .int .i64 sz, .int .i64 dp] _ rfl (blk_eq (((b3'.set 0 _).set 1 _).set 2 _) (by simp)) Tryd.underlying29 rfl (by kernel_rfl)) rfl ?_
        refine ⟨A6, c6, rfl, o6'.cap, o6'.capm, ⟨pl ++ [(p, v)], by rw [List.map_append, HPL.out]; rfl, ?_, ?_⟩, ?_⟩
        · have := own_far3 (a := .slice A6 (n + 1) c6) (b := .int .i64 sz) (d := .int .i64 dp) o6' (show B + 1 + 1 < B + 1 + 1 + 1 by omega)
          rw [plc_app]
          exact RdS.of_own this (fun b h1 _ => .inr (by rw [HBq.out]; omega))
        · have HW2 := below3 (a' := .slice A6 (n + 1) c6) (b' := .int .i64 sz) (c' := .int .i64 dp) HW (show B ≤ B + 1 + 1 by omega)
          rw [← HBq.out] at HW2
          have HK : ∀ b, S b → b < w.heap.size → (((w7.setCell ⟨B + 1 + 1, 0, none⟩ (.slice A6 (n + 1) c6)).setCell ⟨B + 1 + 1, 1, none⟩ (.int .i64 sz)).setCell ⟨B + 1 + 1, 2, none⟩ (.int .i64 dp)).heap[b]? = w.heap[b]? ∧ (S b ∨ w.heap.size ≤ b) :=
            fun b h1 h2 => by rw [HBq.out] at HW2 ⊢; exact ⟨HW2.block b (by rw [← HBq.out]; exact h2), .inl h1⟩
          intro x hx
          rcases List.mem_append.1 hx with h | h
          · exact (HO.out x h).keep HK
          · simp only [List.mem_singleton] at h
            subst h
            exact HV.out.keep HK
        · have HW2 := below3 (a' := .slice A6 (n + 1) c6) (b' := .int .i64 sz) (c' := .int .i64 dp) HW (show B ≤ B + 1 + 1 by omega)
          rw [HBq.out]
          exact HW2
    case ku1xb63x5 =>
      refine take_build (e := 75) (len := 1) (size := 5) (B + 1 + 1 + 1) (pcell (p, v)) 5 (Op.buildSlice 27 1 #[(0, Operand.tmp 9)]) 27 rfl rfl rfl (by kernel_rfl) ?eu1xb63xb94x5 (by rfl) (by decide) (by first | exact Nat.le_refl _ | (simp only [World.size_alloc, World.size_setCell, World.size_drew] at *; omega) | omega) ?_
      case eu1xb63xb94x5 => (go_simp; try (first | with_reducible rfl | (simp [rcells, rcell]; done) | (simp [fcells]; done) | (simp [tcells]; done) | rfl))
      intro gx5 w5 o5 gr5 l5 m5
      have z5 := gr5.size
      try simp only [World.size_drew] at z5
      replace HBB := below_grow HBB gr5
      have zHBB5 := HBB.size
      replace rP0 := Rd.grow0 rP0 gr5 (by first | exact Nat.le_refl _ | (simp only [World.size_alloc, World.size_setCell, World.size_drew] at *; omega) | omega)
      replace b1 := Blk.grow0 b1 gr5
      replace b2 := Blk.grow0 b2 gr5
      replace b3 := Blk.grow0 b3 gr5
      refine hK5.out _ _ ?su1xb63xb94x5 (fun hHeld => ?ru1xb63xb94x5)
      case su1xb63xb94x5 => ((try dsimp only); exact ⟨b2.cell_ 0 rfl, b2.cell_ 1 rfl, b2.cell_ 2 rfl, b2.cell_ 3 rfl, b2.cell_ 4 rfl⟩)
      try simp only [List.setIfInBounds_toArray, List.set_cons_zero, List.set_cons_succ]
      refine wpAnyH_ready (rs := [0, 2]) (by kernel_rfl) (by simp) (AllReadyH.cons rfl (fun K0 hK0 => ?ku1xb63xb94x0) (AllReadyH.cons rfl (fun K2 hK2 => ?ku1xb63xb94x2) AllReadyH.nil))
      case ku1xb63xb94x0 =>
        refine take_build (e := 75) (len := 0) (size := 5) (B + 1 + 1 + 1) ([]) 0 (Op.buildSlice 27 0 #[]) 27 rfl rfl rfl (by kernel_rfl) ?eu1xb63xb94xb95x0 (by rfl) (by decide) (by first | exact Nat.le_refl _ | (simp only [World.size_alloc, World.size_setCell, World.size_drew] at *; omega) | omega) ?_
        case eu1xb63xb94xb95x0 => (go_simp; try (first | with_reducible rfl | (simp [rcells, rcell]; done) | (simp [fcells]; done) | (simp [tcells]; done) | rfl))
        intro gx0 w0 o0 gr0 l0 m0
        have z0 := gr0.size
        try simp only [World.size_drew] at z0
        replace HBB := below_grow HBB gr0
        have zHBB0 := HBB.size
        replace rP0 := Rd.grow0 rP0 gr0 (by first | exact Nat.le_refl _ | (simp only [World.size_alloc, World.size_setCell, World.size_drew] at *; omega) | omega)
        replace b1 := Blk.grow0 b1 gr0
        replace b2 := Blk.grow0 b2 gr0
        replace b3 := Blk.grow0 b3 gr0
        replace o5 := Own.grow0 o5 gr0
        refine hK0.out _ _ ?su1xb63xb94xb95x0 (fun hHeld => ?ru1xb63xb94xb95x0)
        case su1xb63xb94xb95x0 => ((try dsimp only); exact ⟨b2.cell_ 0 rfl, b2.cell_ 1 rfl, b2.cell_ 2 rfl, b2.cell_ 3 rfl, b2.cell_ 4 rfl⟩)
        try simp only [List.setIfInBounds_toArray, List.set_cons_zero, List.set_cons_succ]
        refine wpAnyH_ready (rs := [2]) (by kernel_rfl) (by simp) (AllReadyH.cons rfl (fun K2 hK2 => ?ku1xb63xb94xb95x2) AllReadyH.nil)
        refine take_any 2 (Op.load 27 (Operand.tmp 6)) 27 rfl rfl rfl (by kernel_rfl) (v := .slice A n c) (by have cL := b1.cell_ 0 rfl; go_simp; try (with_reducible rfl)) ?_
        refine hK2.out _ _ ?su1xb63xb94xb95x2 (fun hHeld => ?ru1xb63xb94xb95x2)
        case su1xb63xb94xb95x2 => ((try dsimp only); exact ⟨b2.cell_ 0 rfl, b2.cell_ 1 rfl, b2.cell_ 2 rfl, b2.cell_ 3 rfl, b2.cell_ 4 rfl⟩)
        try simp only [List.setIfInBounds_toArray, List.set_cons_zero, List.set_cons_succ]
        refine wpAnyH_ready (rs := [3]) (by kernel_rfl) (by simp) (AllReadyH.cons rfl (fun K3 hK3 => ?ku1xb63xb94xb95x3) AllReadyH.nil)
        refine take_app El_part 3 (Operand.tmp 5) (Operand.tmp 7) 27 rfl rfl rfl (by kernel_rfl) o0 rfl (rP0) rfl (hone) (by unfold maxLen; omega) (by omega) (by first | exact Nat.le_refl _ | (simp only [World.size_alloc, World.size_setCell, World.size_drew] at *; omega) | omega) ?_
        intro A3 c3 w3 o3 gr3 at3
        have z3 := gr3.size
        try simp only [World.size_drew] at z3
        replace HBB := below_grown HBB gr3 o0 (by first | exact Nat.le_refl _ | (simp only [World.size_alloc, World.size_setCell, World.size_drew] at *; omega) | omega)
        have zHBB3 := HBB.size
        replace rP0 := Rd.grownOwn rP0 gr3 o0 (by first | exact Nat.le_refl _ | (simp only [World.size_alloc, World.size_setCell, World.size_drew] at *; omega) | omega) (by first | exact Nat.le_refl _ | (simp only [World.size_alloc, World.size_setCell, World.size_drew] at *; omega) | omega)
        replace b1 := Blk.grown b1 gr3 (by intro e; have := o0.blk _ e.symm; omega)
        replace b2 := Blk.grown b2 gr3 (by intro e; have := o0.blk _ e.symm; omega)
        replace b3 := Blk.grown b3 gr3 (by intro e; have := o0.blk _ e.symm; omega)
        replace o5 := Own.other o5 gr3 (by intro k hk e; simp only [blkOf, Option.map_some, Option.some.injEq] at hk e; omega)
        refine hK3.out _ _ ?su1xb63xb94xb95x3 (fun hHeld => ?ru1xb63xb94xb95x3)
        case su1xb63xb94xb95x3 => ((try dsimp only); exact ⟨b2.cell_ 0 rfl, b2.cell_ 1 rfl, b2.cell_ 2 rfl, b2.cell_ 3 rfl, b2.cell_ 4 rfl⟩)
        try simp only [List.setIfInBounds_toArray, List.set_cons_zero, List.set_cons_succ]
        refine wpAnyH_ready (rs := [6]) (by kernel_rfl) (by simp) (AllReadyH.cons rfl (fun K6 hK6 => ?ku1xb63xb94xb95x6) AllReadyH.nil)
        refine take_app El_part 6 (Operand.tmp 8) (Operand.tmp 10) 27 rfl rfl rfl (by kernel_rfl) o3 rfl (o5.rd) rfl (pcell_one hvo) (by unfold maxLen; omega) (by omega) (by first | exact Nat.le_refl _ | (simp only [World.size_alloc, World.size_setCell, World.size_drew] at *; omega) | omega) ?_
        intro A6 c6 w6 o6 gr6 at6
        have z6 := gr6.size
        try simp only [World.size_drew] at z6
        replace HBB := below_grown HBB gr6 o3 (by first | exact Nat.le_refl _ | (simp only [World.size_alloc, World.size_setCell, World.size_drew] at *; omega) | omega)
        have zHBB6 := HBB.size
        replace rP0 := Rd.grownOwn rP0 gr6 o3 (by first | exact Nat.le_refl _ | (simp only [World.size_alloc, World.size_setCell, World.size_drew] at *; omega) | omega) (by first | exact Nat.le_refl _ | (simp only [World.size_alloc, World.size_setCell, World.size_drew] at *; omega) | omega)
        replace b1 := Blk.grown b1 gr6 (by intro e; have := o3.blk _ e.symm; omega)
        replace b2 := Blk.grown b2 gr6 (by intro e; have := o3.blk _ e.symm; omega)
        replace b3 := Blk.grown b3 gr6 (by intro e; have := o3.blk _ e.symm; omega)
        refine hK6.out _ _ ?su1xb63xb94xb95x6 (fun hHeld => ?ru1xb63xb94xb95x6)
        case su1xb63xb94xb95x6 => ((try dsimp only); exact ⟨b2.cell_ 0 rfl, b2.cell_ 1 rfl, b2.cell_ 2 rfl, b2.cell_ 3 rfl, b2.cell_ 4 rfl⟩)
        try simp only [List.setIfInBounds_toArray, List.set_cons_zero, List.set_cons_succ]
        refine take_op (v := ?vu1xb63xb94xb95x7) 7 (Op.fieldAddr 29 (Operand.tmp 2) 0) 0 rfl rfl rfl rfl rfl (by kernel_rfl) (by kernel_rfl) (by kernel_rfl) (fun _ _ _ h => h) ?yu1xb63xb94xb95x7 (by assumption) ?ru1xb63xb94xb95x7
        case yu1xb63xb94xb95x7 => (intro w' hSw; (try dsimp only at hSw); go_simp; try (with_reducible rfl))
        simp only [List.setIfInBounds_toArray, List.set_cons_zero, List.set_cons_succ]
        refine wpAnyH_ready (rs := [8]) (by kernel_rfl) (by simp) (AllReadyH.cons rfl (fun K8 hK8 => ?ku1xb63xb94xb95x8) AllReadyH.nil)
        refine take_store 8 (Op.store 27 (Operand.tmp 12) (Operand.tmp 11)) 0 rfl rfl rfl (by kernel_rfl) (w' := w6.setCell ⟨B, 0, none⟩ (.slice A6 (0 + n + 1) c6)) (by obtain ⟨cL, _, _, fL, _⟩ := blk3 b1; go_simp; try (with_reducible rfl)) ?_
        refine hK8.out _ _ (⟨(b2.far (p := ⟨B, 0, none⟩) (by dsimp only; omega) _).cell_ 0 rfl, (b2.far (p := ⟨B, 0, none⟩) (by dsimp only; omega) _).cell_ 1 rfl, (b2.far (p := ⟨B, 0, none⟩) (by dsimp only; omega) _).cell_ 2 rfl, (b2.far (p := ⟨B, 0, none⟩) (by dsimp only; omega) _).cell_ 3 rfl, (b2.far (p := ⟨B, 0, none⟩) (by dsimp only; omega) _).cell_ 4 rfl⟩) (fun hHeld => ?_)
        refine wpAnyH_done (by kernel_rfl) ?_ _
        simp only [Nat.zero_add, List.nil_append] at o6 ⊢
        have hA6 := o6.blk
        have b1' := b1.set 0 (.slice A6 (n + 1) c6)
        have b3' := b3.far (p := ⟨B, 0, none⟩) (by dsimp only; omega) (.slice A6 (n + 1) c6)
        have o6' := o6.far (p := ⟨B, 0, none⟩) (fun e => by have := (hA6 _ e).1; dsimp only at this; omega) (.slice A6 (n + 1) c6)
        have HW : Below B w (w6.setCell ⟨B, 0, none⟩ (.slice A6 (n + 1) c6)) := (HB.trans (HBB.mono (by omega))).setCell (p := ⟨B, 0, none⟩) (Nat.le_refl _) _
        generalize w6.setCell ⟨B, 0, none⟩ (.slice A6 (n + 1) c6) = w7 at *
        have b1q : Blk w7 B 29 #[.slice A6 (n + 1) c6, .int .i64 sz, .int .i64 dp] := b1'
        obtain ⟨c0, c1, c2, _⟩ := blk3 b1q
        obtain ⟨d0, d1, d2, f0, f1, f2, _⟩ := blk3 b3'
        clear b1 b2 b3 b1' rP0 o3 o6 HBB
        go_wp2_with fail
        refine bodyPost_ret (results_r1 rfl _ _ (B + 1 + 1) #[.slice A6 (n + 1) c6, .int .i64 sz, .int .i64 dp] _ rfl (blk_eq (((b3'.set 0 _).set 1 _).set 2 _) (by simp)) Tryd.underlying29 rfl (by kernel_rfl)) rfl ?_
        refine ⟨A6, c6, rfl, o6'.cap, o6'.capm, ⟨pl ++ [(p, v)], by rw [List.map_append, HPL.out]; rfl, ?_, ?_⟩, ?_⟩
        · have := own_far3 (a := .slice A6 (n + 1) c6) (b := .int .i64 sz) (d := .int .i64 dp) o6' (show B + 1 + 1 < B + 1 + 1 + 1 by omega)
          rw [plc_app]
          exact RdS.of_own this (fun b h1 _ => .inr (by rw [HBq.out]; omega))
        · have HW2 := below3 (a' := .slice A6 (n + 1) c6) (b' := .int .i64 sz) (c' := .int .i64 dp) HW (show B ≤ B + 1 + 1 by omega)
          rw [← HBq.out] at HW2
          have HK : ∀ b, S b → b < w.heap.size → (((w7.setCell ⟨B + 1 + 1, 0, none⟩ (.slice A6 (n + 1) c6)).setCell ⟨B + 1 + 1, 1, none⟩ (.int .i64 sz)).setCell ⟨B + 1 + 1, 2, none⟩ (.int .i64 dp)).heap[b]? = w.heap[b]? ∧ (S b ∨ w.heap.size ≤ b) :=
            fun b h1 h2 => by rw [HBq.out] at HW2 ⊢; exact ⟨HW2.block b (by rw [← HBq.out]; exact h2), .inl h1⟩
          intro x hx
          rcases List.mem_append.1 hx with h | h
          · exact (HO.out x h).keep HK
          · simp only [List.mem_singleton] at h
            subst h
            exact HV.out.keep HK
        · have HW2 := below3 (a' := .slice A6 (n + 1) c6) (b' := .int .i64 sz) (c' := .int .i64 dp) HW (show B ≤ B + 1 + 1 by omega)
          rw [HBq.out]
          exact HW2
      case ku1xb63xb94x2 =>
        refine take_any 2 (Op.load 27 (Operand.tmp 6)) 27 rfl rfl rfl (by kernel_rfl) (v := .slice A n c) (by have cL := b1.cell_ 0 rfl; go_simp; try (with_reducible rfl)) ?_
        refine hK2.out _ _ ?su1xb63xb94xb100x2 (fun hHeld => ?ru1xb63xb94xb100x2)
        case su1xb63xb94xb100x2 => ((try dsimp only); exact ⟨b2.cell_ 0 rfl, b2.cell_ 1 rfl, b2.cell_ 2 rfl, b2.cell_ 3 rfl, b2.cell_ 4 rfl⟩)
        try simp only [List.setIfInBounds_toArray, List.set_cons_zero, List.set_cons_succ]
        refine wpAnyH_ready (rs := [0]) (by kernel_rfl) (by simp) (AllReadyH.cons rfl (fun K0 hK0 => ?ku1xb63xb94xb100x0) AllReadyH.nil)
        refine take_build (e := 75) (len := 0) (size := 5) (B + 1 + 1 + 1) ([]) 0 (Op.buildSlice 27 0 #[]) 27 rfl rfl rfl (by kernel_rfl) ?eu1xb63xb94xb100x0 (by rfl) (by decide) (by first | exact Nat.le_refl _ | (simp only [World.size_alloc, World.size_setCell, World.size_drew] at *; omega) | omega) ?_
        case eu1xb63xb94xb100x0 => (go_simp; try (first | with_reducible rfl | (simp [rcells, rcell]; done) | (simp [fcells]; done) | (simp [tcells]; done) | rfl))
        intro gx0 w0 o0 gr0 l0 m0
        have z0 := gr0.size
        try simp only [World.size_drew] at z0
        replace HBB := below_grow HBB gr0
        have zHBB0 := HBB.size
        replace rP0 := Rd.grow0 rP0 gr0 (by first | exact Nat.le_refl _ | (simp only [World.size_alloc, World.size_setCell, World.size_drew] at *; omega) | omega)
        replace b1 := Blk.grow0 b1 gr0
        replace b2 := Blk.grow0 b2 gr0
        replace b3 := Blk.grow0 b3 gr0
        replace o5 := Own.grow0 o5 gr0
        refine hK0.out _ _ ?su1xb63xb94xb100x0 (fun hHeld => ?ru1xb63xb94xb100x0)
        case su1xb63xb94xb100x0 => ((try dsimp only); exact ⟨b2.cell_ 0 rfl, b2.cell_ 1 rfl, b2.cell_ 2 rfl, b2.cell_ 3 rfl, b2.cell_ 4 rfl⟩)
        try simp only [List.setIfInBounds_toArray, List.set_cons_zero, List.set_cons_succ]
        refine wpAnyH_ready (rs := [3]) (by kernel_rfl) (by simp) (AllReadyH.cons rfl (fun K3 hK3 => ?ku1xb63xb94xb100x3) AllReadyH.nil)
        refine take_app El_part 3 (Operand.tmp 5) (Operand.tmp 7) 27 rfl rfl rfl (by kernel_rfl) o0 rfl (rP0) rfl (hone) (by unfold maxLen; omega) (by omega) (by first | exact Nat.le_refl _ | (simp only [World.size_alloc, World.size_setCell, World.size_drew] at *; omega) | omega) ?_
        intro A3 c3 w3 o3 gr3 at3
        have z3 := gr3.size
        try simp only [World.size_drew] at z3
        replace HBB := below_grown HBB gr3 o0 (by first | exact Nat.le_refl _ | (simp only [World.size_alloc, World.size_setCell, World.size_drew] at *; omega) | omega)
        have zHBB3 := HBB.size
        replace rP0 := Rd.grownOwn rP0 gr3 o0 (by first | exact Nat.le_refl _ | (simp only [World.size_alloc, World.size_setCell, World.size_drew] at *; omega) | omega) (by first | exact Nat.le_refl _ | (simp only [World.size_alloc, World.size_setCell, World.size_drew] at *; omega) | omega)
        replace b1 := Blk.grown b1 gr3 (by intro e; have := o0.blk _ e.symm; omega)
        replace b2 := Blk.grown b2 gr3 (by intro e; have := o0.blk _ e.symm; omega)
        replace b3 := Blk.grown b3 gr3 (by intro e; have := o0.blk _ e.symm; omega)
        replace o5 := Own.other o5 gr3 (by intro k hk e; simp only [blkOf, Option.map_some, Option.some.injEq] at hk e; omega)
        refine hK3.out _ _ ?su1xb63xb94xb100x3 (fun hHeld => ?ru1xb63xb94xb100x3)
        case su1xb63xb94xb100x3 => ((try dsimp only); exact ⟨b2.cell_ 0 rfl, b2.cell_ 1 rfl, b2.cell_ 2 rfl, b2.cell_ 3 rfl, b2.cell_ 4 rfl⟩)
        try simp only [List.setIfInBounds_toArray, List.set_cons_zero, List.set_cons_succ]
        refine wpAnyH_ready (rs := [6]) (by kernel_rfl) (by simp) (AllReadyH.cons rfl (fun K6 hK6 => ?ku1xb63xb94xb100x6) AllReadyH.nil)
        refine take_app El_part 6 (Operand.tmp 8) (Operand.tmp 10) 27 rfl rfl rfl (by kernel_rfl) o3 rfl (o5.rd) rfl (pcell_one hvo) (by unfold maxLen; omega) (by omega) (by first | exact Nat.le_refl _ | (simp only [World.size_alloc, World.size_setCell, World.size_drew] at *; omega) | omega) ?_
        intro A6 c6 w6 o6 gr6 at6
        have z6 := gr6.size
        try simp only [World.size_drew] at z6
        replace HBB := below_grown HBB gr6 o3 (by first | exact Nat.le_refl _ | (simp only [World.size_alloc, World.size_setCell, World.size_drew] at *; omega) | omega)
        have zHBB6 := HBB.size
        replace rP0 := Rd.grownOwn rP0 gr6 o3 (by first | exact Nat.le_refl _ | (simp only [World.size_alloc, World.size_setCell, World.size_drew] at *; omega) | omega) (by first | exact Nat.le_refl _ | (simp only [World.size_alloc, World.size_setCell, World.size_drew] at *; omega) | omega)
        replace b1 := Blk.grown b1 gr6 (by intro e; have := o3.blk _ e.symm; omega)
        replace b2 := Blk.grown b2 gr6 (by intro e; have := o3.blk _ e.symm; omega)
        replace b3 := Blk.grown b3 gr6 (by intro e; have := o3.blk _ e.symm; omega)
        refine hK6.out _ _ ?su1xb63xb94xb100x6 (fun hHeld => ?ru1xb63xb94xb100x6)
        case su1xb63xb94xb100x6 => ((try dsimp only); exact ⟨b2.cell_ 0 rfl, b2.cell_ 1 rfl, b2.cell_ 2 rfl, b2.cell_ 3 rfl, b2.cell_ 4 rfl⟩)
        try simp only [List.setIfInBounds_toArray, List.set_cons_zero, List.set_cons_succ]
        refine take_op (v := ?vu1xb63xb94xb100x7) 7 (Op.fieldAddr 29 (Operand.tmp 2) 0) 0 rfl rfl rfl rfl rfl (by kernel_rfl) (by kernel_rfl) (by kernel_rfl) (fun _ _ _ h => h) ?yu1xb63xb94xb100x7 (by assumption) ?ru1xb63xb94xb100x7
        case yu1xb63xb94xb100x7 => (intro w' hSw; (try dsimp only at hSw); go_simp; try (with_reducible rfl))
        simp only [List.setIfInBounds_toArray, List.set_cons_zero, List.set_cons_succ]
        refine wpAnyH_ready (rs := [8]) (by kernel_rfl) (by simp) (AllReadyH.cons rfl (fun K8 hK8 => ?ku1xb63xb94xb100x8) AllReadyH.nil)
        refine take_store 8 (Op.store 27 (Operand.tmp 12) (Operand.tmp 11)) 0 rfl rfl rfl (by kernel_rfl) (w' := w6.setCell ⟨B, 0, none⟩ (.slice A6 (0 + n + 1) c6)) (by obtain ⟨cL, _, _, fL, _⟩ := blk3 b1; go_simp; try (with_reducible rfl)) ?_
        refine hK8.out _ _ (⟨(b2.far (p := ⟨B, 0, none⟩) (by dsimp only; omega) _).cell_ 0 rfl, (b2.far (p := ⟨B, 0, none⟩) (by dsimp only; omega) _).cell_ 1 rfl, (b2.far (p := ⟨B, 0, none⟩) (by dsimp only; omega) _).cell_ 2 rfl, (b2.far (p := ⟨B, 0, none⟩) (by dsimp only; omega) _).cell_ 3 rfl, (b2.far (p := ⟨B, 0, none⟩) (by dsimp only; omega) _).cell_ 4 rfl⟩) (fun hHeld => ?_)
        refine wpAnyH_done (by kernel_rfl) ?_ _
        simp only [Nat.zero_add, List.nil_append] at o6 ⊢
        have hA6 := o6.blk
        have b1' := b1.set 0 (.slice A6 (n + 1) c6)
        have b3' := b3.far (p := ⟨B, 0, none⟩) (by dsimp only; omega) (.slice A6 (n + 1) c6)
        have o6' := o6.far (p := ⟨B, 0, none⟩) (fun e => by have := (hA6 _ e).1; dsimp only at this; omega) (.slice A6 (n + 1) c6)
        have HW : Below B w (w6.setCell ⟨B, 0, none⟩ (.slice A6 (n + 1) c6)) := (HB.trans (HBB.mono (by omega))).setCell (p := ⟨B, 0, none⟩) (Nat.le_refl _) _
        generalize w6.setCell ⟨B, 0, none⟩ (.slice A6 (n + 1) c6) = w7 at *
        have b1q : Blk w7 B 29 #[.slice A6 (n + 1) c6, .int .i64 sz, .int .i64 dp] := b1'
        obtain ⟨c0, c1, c2, _⟩ := blk3 b1q
        obtain ⟨d0, d1, d2, f0, f1, f2, _⟩ := blk3 b3'
        clear b1 b2 b3 b1' rP0 o3 o6 HBB
        go_wp2_with fail
        refine bodyPost_ret (results_r1 rfl _ _ (B + 1 + 1) #[.slice A6 (n + 1) c6, .int .i64 sz, .int .i64 dp] _ rfl (blk_eq (((b3'.set 0 _).set 1 _).set 2 _) (by simp)) Tryd.underlying29 rfl (by kernel_rfl)) rfl ?_
        refine ⟨A6, c6, rfl, o6'.cap, o6'.capm, ⟨pl ++ [(p, v)], by rw [List.map_append, HPL.out]; rfl, ?_, ?_⟩, ?_⟩
        · have := own_far3 (a := .slice A6 (n + 1) c6) (b := .int .i64 sz) (d := .int .i64 dp) o6' (show B + 1 + 1 < B + 1 + 1 + 1 by omega)
          rw [plc_app]
          exact RdS.of_own this (fun b h1 _ => .inr (by rw [HBq.out]; omega))
        · have HW2 := below3 (a' := .slice A6 (n + 1) c6) (b' := .int .i64 sz) (c' := .int .i64 dp) HW (show B ≤ B + 1 + 1 by omega)
          rw [← HBq.out] at HW2
          have HK : ∀ b, S b → b < w.heap.size → (((w7.setCell ⟨B + 1 + 1, 0, none⟩ (.slice A6 (n + 1) c6)).setCell ⟨B + 1 + 1, 1, none⟩ (.int .i64 sz)).setCell ⟨B + 1 + 1, 2, none⟩ (.int .i64 dp)).heap[b]? = w.heap[b]? ∧ (S b ∨ w.heap.size ≤ b) :=
            fun b h1 h2 => by rw [HBq.out] at HW2 ⊢; exact ⟨HW2.block b (by rw [← HBq.out]; exact h2), .inl h1⟩
          intro x hx
          rcases List.mem_append.1 hx with h | h
          · exact (HO.out x h).keep HK
          · simp only [List.mem_singleton] at h
            subst h
            exact HV.out.keep HK
        · have HW2 := below3 (a' := .slice A6 (n + 1) c6) (b' := .int .i64 sz) (c' := .int .i64 dp) HW (show B ≤ B + 1 + 1 by omega)
          rw [HBq.out]
          exact HW2
end SieW
end Go.Proofs.YtdeiehgghhiijaaDoor
