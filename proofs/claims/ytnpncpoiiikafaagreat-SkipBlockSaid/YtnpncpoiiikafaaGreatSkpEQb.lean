/- The walks of packages head and entry: may a header, may an entry, be? The walks of package entry: may an entry be? Its numbers, its times. The walks of package entry: an entry as one block, its numbers, its times. -/
import Derived.Test.YtnpncpoiiikafaaGreatSkpBQb
namespace Go.Proofs.YtnpncpoiiikafaaGreat
set_option linter.unusedVariables false
set_option linter.unusedSimpArgs false
set_option linter.unnecessarySimpa false
open Go.RowKit
namespace SkpW
open SpanW (R rv)

/-- An entry of a manifest: its header (number, generation, first record), is it shut, how many records and blocks it has, its times, its bytes. -/
structure En where
  id : Int
  gen : Int
  frst : Int
  shut : Bool
  count : Int
  blocks : Int
  early : Int
  late : Int
  bytes : Int
abbrev hc (e : En) : Array Value := #[.int .i64 e.id, .int .i64 e.gen, .int .i64 e.frst]
abbrev ec (e : En) : Array Value := #[.int .i64 e.id, .int .i64 e.gen, .int .i64 e.frst, .bool e.shut, .int .i64 e.count, .int .i64 e.blocks, .int .i64 e.early, .int .i64 e.late, .int .i64 e.bytes]
def headB (e : En) : Bool := decide (1 ≤ e.id ∧ e.id ≤ 999999) && (decide (1 ≤ e.gen ∧ e.gen ≤ 999999) && decide (1 ≤ e.frst ∧ e.frst ≤ 1000000000))
def chkH (e : En) : Int := if headB e then 0 else 210
def sealB (e : En) : Bool := decide (1 ≤ e.blocks ∧ e.blocks ≤ 1000 ∧ e.blocks ≤ e.count ∧ e.count ≤ 1000000000 ∧ e.frst ≤ 1000000001 - e.count) && decide (0 ≤ e.early ∧ e.early ≤ e.late ∧ e.late ≤ 1000000000 ∧ 1 ≤ e.bytes ∧ e.bytes ≤ 1000000)
def zeroB (e : En) : Bool := decide (e.count = 0 ∧ e.blocks = 0 ∧ e.early = 0 ∧ e.late = 0 ∧ e.bytes = 0)
def chkE (e : En) : Int := if headB e && (if e.shut then sealB e else zeroB e) then 0 else 240

set_option maxRecDepth 100000 in
theorem within_any (n a b : Int) (v : Bool) (hv : decide (a ≤ n ∧ n ≤ b) = v) (w : World) :
    Calls Tryz.prog 111 #[.int .i64 n, .int .i64 a, .int .i64 b] w fun e w' => e = .returned (.bool v) ∧ w' = w := by
  subst hv
  by_cases h1 : a ≤ n
  · by_cases h2 : n ≤ b
    · rw [decide_eq_true (And.intro h1 h2)]
      go_enter Tryz.func111, Tryz.ntmps111
      go_wp2_with fail
      go_ret
      exact ⟨rfl, rfl⟩
    · rw [decide_eq_false (fun h => h2 h.2)]
      go_enter Tryz.func111, Tryz.ntmps111
      go_wp2_with fail
      go_ret
      exact ⟨rfl, rfl⟩
  · rw [decide_eq_false (fun h => h1 h.1)]
    go_enter Tryz.func111, Tryz.ntmps111
    go_wp2_with fail
    go_ret
    exact ⟨rfl, rfl⟩
set_option maxRecDepth 100000 in
set_option maxHeartbeats 2000000 in
theorem hcheck_any (e0 : En) (v : Int) (hv : chkH e0 = v) (w : World) :
    Calls Tryz.prog 50 #[.agg (hc e0)] w fun e w' => e = .returned (.int .i64 v) ∧ Below w.heap.size w w' := by
  obtain ⟨i, g, f, s, m1, m2, m3, m4, m5⟩ := e0
  subst hv
  unfold chkH headB
  dsimp only
  have C1 := fun w => within_any i 1 999999 _ rfl w
  have C2 := fun w => within_any g 1 999999 _ rfl w
  have C3 := fun w => within_any f 1 1000000000 _ rfl w
  generalize decide (1 ≤ i ∧ i ≤ 999999) = x at *
  generalize decide (1 ≤ g ∧ g ≤ 999999) = y at *
  generalize decide (1 ≤ f ∧ f ≤ 1000000000) = z at *
  have b0 := Blk.new w 23 #[.int .i64 i, .int .i64 g, .int .i64 f]
  obtain ⟨k0, k1, k2, _, _, _, _⟩ := blk3 b0
  have HB : Below w.heap.size w (w.alloc (.cells #[.int .i64 i, .int .i64 g, .int .i64 f] 23)) := (Below.refl _ w).alloc (Nat.le_refl _) _
  clear b0
  go_enter Tryz.func50, Tryz.ntmps50
  go_wp2_with fail
  refine (C1 _).mono ?_
  rintro e w1 ⟨rfl, rfl⟩
  cases x with
  | false =>
    go_wp2_with fail
    go_ret
    exact ⟨rfl, HB⟩
  | true =>
    go_wp2_with fail
    refine (C2 _).mono ?_
    rintro e w1 ⟨rfl, rfl⟩
    cases y with
    | false =>
      go_wp2_with fail
      go_ret
      exact ⟨rfl, HB⟩
    | true =>
      go_wp2_with fail
      refine (C3 _).mono ?_
      rintro e w1 ⟨rfl, rfl⟩
      cases z with
      | false =>
        go_wp2_with fail
        go_ret
        exact ⟨rfl, HB⟩
      | true =>
        go_wp2_with fail
        go_ret
        exact ⟨rfl, HB⟩
theorem seal_cases (e : En) : (sealB e = false ∧ (e.blocks < 1 ∨ (¬ e.blocks < 1 ∧ 1000 < e.blocks) ∨ (¬ e.blocks < 1 ∧ ¬ 1000 < e.blocks ∧ e.count < e.blocks) ∨ (¬ e.blocks < 1 ∧ ¬ 1000 < e.blocks ∧ ¬ e.count < e.blocks ∧ 1000000000 < e.count) ∨
    ((¬ e.blocks < 1 ∧ ¬ 1000 < e.blocks ∧ ¬ e.count < e.blocks ∧ ¬ 1000000000 < e.count) ∧ 1000000001 - e.count < e.frst) ∨
    ((¬ e.blocks < 1 ∧ ¬ 1000 < e.blocks ∧ ¬ e.count < e.blocks ∧ ¬ 1000000000 < e.count ∧ ¬ 1000000001 - e.count < e.frst) ∧ (¬ 0 ≤ e.early ∨ (0 ≤ e.early ∧ ¬ e.early ≤ e.late) ∨ (0 ≤ e.early ∧ e.early ≤ e.late ∧ ¬ e.late ≤ 1000000000) ∨
      (0 ≤ e.early ∧ e.early ≤ e.late ∧ e.late ≤ 1000000000 ∧ ¬ 1 ≤ e.bytes) ∨ (0 ≤ e.early ∧ e.early ≤ e.late ∧ e.late ≤ 1000000000 ∧ 1 ≤ e.bytes ∧ ¬ e.bytes ≤ 1000000))))) ∨
    (sealB e = true ∧ (¬ e.blocks < 1 ∧ ¬ 1000 < e.blocks ∧ ¬ e.count < e.blocks ∧ ¬ 1000000000 < e.count ∧ ¬ 1000000001 - e.count < e.frst) ∧ 0 ≤ e.early ∧ e.early ≤ e.late ∧ e.late ≤ 1000000000 ∧ 1 ≤ e.bytes ∧ e.bytes ≤ 1000000) := by
  by_cases h : sealB e = true
  · refine .inr ⟨h, ?_⟩
    unfold sealB at h
    simp only [Bool.and_eq_true, decide_eq_true_eq] at h
    omega
  · refine .inl ⟨by simpa using h, ?_⟩
    unfold sealB at h
    simp only [Bool.and_eq_true, decide_eq_true_eq] at h
    omega
set_option maxRecDepth 100000 in
set_option maxHeartbeats 4000000 in
theorem sealed_any (e0 : En) (v : Bool) (hv : sealB e0 = v) (w : World) :
    Calls Tryz.prog 163 #[.agg (ec e0)] w fun e w' => e = .returned (.bool v) ∧ Below w.heap.size w w' := by
  have HC := seal_cases e0
  rw [hv] at HC
  clear hv
  have b0 := Blk.new w 238 (ec e0)
  obtain ⟨i, g, f, s, co, bl, ea, la, bs⟩ := e0
  dsimp only at HC
  obtain ⟨⟨c0, c1, c2, c3, c4, c5, c6, c7, c8⟩, _⟩ := blk9 b0
  have HB : Below w.heap.size w (w.alloc (.cells (ec ⟨i, g, f, s, co, bl, ea, la, bs⟩) 238)) := (Below.refl _ w).alloc (Nat.le_refl _) _
  clear b0
  rcases HC with ⟨rfl, h | ⟨h1, h⟩ | ⟨h1, h2, h⟩ | ⟨h1, h2, h3, h⟩ | ⟨⟨h1, h2, h3, h4⟩, h5⟩ | ⟨⟨h1, h2, h3, h4, h5⟩, h | ⟨g1, h⟩ | ⟨g1, g2, h⟩ | ⟨g1, g2, g3, h⟩ | ⟨g1, g2, g3, g4, h⟩⟩⟩ | ⟨rfl, ⟨h1, h2, h3, h4, h5⟩, g1, g2, g3, g4, h⟩
  iterate 4
    · go_enter Tryz.func163, Tryz.ntmps163
      go_wp2_with fail
      go_ret
      exact ⟨rfl, HB⟩
  all_goals
    have hw1 : wrap64 (1000000001 - co) = 1000000001 - co := by unfold wrap64; omega
    go_enter Tryz.func163, Tryz.ntmps163
    go_wp2_with fail
    go_ret
    exact ⟨rfl, HB⟩
end SkpW
end Go.Proofs.YtnpncpoiiikafaaGreat

namespace Go.Proofs.YtnpncpoiiikafaaGreat
set_option linter.unusedVariables false
set_option linter.unusedSimpArgs false
set_option linter.unnecessarySimpa false
open Go.RowKit
namespace SkpW
open SpanW (R rv)

set_option maxRecDepth 100000 in
set_option maxHeartbeats 4000000 in
theorem echeck_any (e0 : En) (v : Int) (hv : chkE e0 = v) (w : World) :
    Calls Tryz.prog 117 #[.agg (ec e0)] w fun e w' => e = .returned (.int .i64 v) ∧ Below w.heap.size w w' := by
  unfold chkE at hv
  have C0 := fun w => hcheck_any e0 _ rfl w
  have C1 := fun w => sealed_any e0 _ rfl w
  have HZ : zeroB e0 = decide (e0.count = 0 ∧ e0.blocks = 0 ∧ e0.early = 0 ∧ e0.late = 0 ∧ e0.bytes = 0) := rfl
  unfold chkH at C0
  generalize headB e0 = hd at *
  generalize sealB e0 = sl at *
  generalize zeroB e0 = zr at *
  obtain ⟨i, g, f, s, co, bl, ea, la, bs⟩ := e0
  dsimp only at hv HZ
  have b0 := (Blk.new w 107 (ec ⟨i, g, f, s, co, bl, ea, la, bs⟩)).alloc (.cells (ec ⟨i, g, f, s, co, bl, ea, la, bs⟩) 238)
  have b1 := Blk.new (w.alloc (.cells (ec ⟨i, g, f, s, co, bl, ea, la, bs⟩) 107)) 238 (ec ⟨i, g, f, s, co, bl, ea, la, bs⟩)
  rw [World.size_alloc] at b1
  have HB : Below w.heap.size w ((w.alloc (.cells (ec ⟨i, g, f, s, co, bl, ea, la, bs⟩) 107)).alloc (.cells (ec ⟨i, g, f, s, co, bl, ea, la, bs⟩) 238)) := hb2 w _ _
  have b1' := b1
  obtain ⟨⟨c0, c1, c2, c3, c4, c5, c6, c7, c8⟩, _⟩ := blk9 b1'
  clear b1' b0
  go_enter Tryz.func117, Tryz.ntmps117
  go_wp2_with fail
  refine (C0 _).mono ?_
  clear C0
  rintro e w1 ⟨rfl, hb1⟩
  replace b1 := b1.below hb1 b1.lt
  replace HB := HB.trans (hb1.mono HB.size)
  clear hb1 c0 c1 c2 c3 c4 c5 c6 c7 c8
  have b1' := b1
  obtain ⟨⟨c0, c1, c2, c3, c4, c5, c6, c7, c8⟩, _⟩ := blk9 b1'
  clear b1'
  cases hd with
  | false =>
    subst hv
    go_wp2_with fail
    go_ret
    exact ⟨rfl, HB⟩
  | true =>
    cases s with
    | true =>
      go_wp2_with fail
      refine (C1 _).mono ?_
      clear C1
      rintro e w2 ⟨rfl, hb2⟩
      replace HB := HB.trans (hb2.mono HB.size)
      replace b1 := b1.below hb2 b1.lt
      clear hb2 c0 c1 c2 c3 c4 c5 c6 c7 c8
      have b1' := b1
      obtain ⟨⟨c0, c1, c2, c3, c4, c5, c6, c7, c8⟩, _⟩ := blk9 b1'
      clear b1'
      cases sl with
      | false =>
        subst hv
        go_wp2_with fail
        go_ret
        exact ⟨rfl, HB⟩
      | true =>
        subst hv
        go_wp2_with fail
        go_ret
        exact ⟨rfl, HB⟩
    | false =>
      cases zr with
      | true =>
        subst hv
        obtain ⟨rfl, rfl, rfl, rfl, rfl⟩ := of_decide_eq_true HZ.symm
        clear HZ
        go_wp2_with fail
        go_ret
        exact ⟨rfl, HB⟩
      | false =>
        subst hv
        have HN := of_decide_eq_false HZ.symm
        clear HZ
        go_wp2_with fail
        all_goals
          first
            | (go_ret; exact ⟨rfl, HB⟩)
            | (exfalso; apply HN; simp [*]; done)
end SkpW
end Go.Proofs.YtnpncpoiiikafaaGreat

namespace Go.Proofs.YtnpncpoiiikafaaGreat
set_option linter.unusedVariables false
set_option linter.unusedSimpArgs false
set_option linter.unnecessarySimpa false
open Go.RowKit
namespace SkpW
open SpanW (R rv)

def metE (e : En) : Me := if e.shut && decide (chkE e = 0) then ⟨0, 0, 0, e.count, e.frst, e.early, e.late⟩ else ⟨0, 0, 0, 0, 0, 0, 0⟩
theorem chkE_le (e : En) (hs : e.shut = true) (h : chkE e = 0) : 1 ≤ e.count ∧ e.count ≤ 1000000000 ∧ 1 ≤ e.frst ∧ e.frst ≤ 1000000000 := by
  unfold chkE at h
  rw [if_pos hs] at h
  by_cases hb : (headB e && sealB e) = true
  · simp only [headB, sealB, Bool.and_eq_true, decide_eq_true_eq] at hb
    omega
  · rw [if_neg hb] at h
    omega
theorem blk7f {w : World} {g : Nat} {t : TypeId} {a0 a1 a2 a3 a4 a5 a6 : Value} (h : Blk w g t #[a0, a1, a2, a3, a4, a5, a6]) :
    (w.cell? ⟨g, 0, none⟩ = some a0 ∧ w.cell? ⟨g, 1, none⟩ = some a1 ∧ w.cell? ⟨g, 2, none⟩ = some a2 ∧ w.cell? ⟨g, 3, none⟩ = some a3 ∧ w.cell? ⟨g, 4, none⟩ = some a4 ∧ w.cell? ⟨g, 5, none⟩ = some a5 ∧ w.cell? ⟨g, 6, none⟩ = some a6) ∧
    w.frozen? ⟨g, 0, none⟩ = false ∧ w.frozen? ⟨g, 1, none⟩ = false ∧ w.frozen? ⟨g, 2, none⟩ = false ∧ w.frozen? ⟨g, 3, none⟩ = false ∧ w.frozen? ⟨g, 4, none⟩ = false ∧ w.frozen? ⟨g, 5, none⟩ = false ∧ w.frozen? ⟨g, 6, none⟩ = false :=
  ⟨blk7 h, h.frozen 0, h.frozen 1, h.frozen 2, h.frozen 3, h.frozen 4, h.frozen 5, h.frozen 6⟩
theorem set7 {w : World} {g : Nat} {t : TypeId} {c0 c1 c2 c3 c4 c5 c6 : Value} (h : Blk w g t #[c0, c1, c2, c3, c4, c5, c6]) (a0 a1 a2 a3 a4 a5 a6 : Value) :
    Blk (((((((w.setCell ⟨g, 0, none⟩ a0).setCell ⟨g, 1, none⟩ a1).setCell ⟨g, 2, none⟩ a2).setCell ⟨g, 3, none⟩ a3).setCell ⟨g, 4, none⟩ a4).setCell ⟨g, 5, none⟩ a5).setCell ⟨g, 6, none⟩ a6) g t #[a0, a1, a2, a3, a4, a5, a6] :=
  blk_eq (((((((h.set 0 a0).set 1 a1).set 2 a2).set 3 a3).set 4 a4).set 5 a5).set 6 a6) (by simp)
theorem low7 {w0 w : World} {g : Nat} (h : Below w0.heap.size w0 w) (hg : w0.heap.size ≤ g) (a0 a1 a2 a3 a4 a5 a6 : Value) :
    Below w0.heap.size w0 (((((((w.setCell ⟨g, 0, none⟩ a0).setCell ⟨g, 1, none⟩ a1).setCell ⟨g, 2, none⟩ a2).setCell ⟨g, 3, none⟩ a3).setCell ⟨g, 4, none⟩ a4).setCell ⟨g, 5, none⟩ a5).setCell ⟨g, 6, none⟩ a6) :=
  ((((((h.setCell (p := ⟨g, 0, none⟩) hg a0).setCell (p := ⟨g, 1, none⟩) hg a1).setCell (p := ⟨g, 2, none⟩) hg a2).setCell (p := ⟨g, 3, none⟩) hg a3).setCell (p := ⟨g, 4, none⟩) hg a4).setCell (p := ⟨g, 5, none⟩) hg a5).setCell (p := ⟨g, 6, none⟩) hg a6

set_option maxRecDepth 100000 in
set_option maxHeartbeats 4000000 in
theorem met_any (e0 : En) (M : Me) (hM : metE e0 = M) (w : World) :
    Calls Tryz.prog 164 #[.agg (ec e0)] w fun e w' => e = .returned (.agg (mc M)) ∧ Below w.heap.size w w' := by
  have C0 := fun w => echeck_any e0 _ rfl w
  unfold metE at hM
  generalize chkE e0 = v at *
  obtain ⟨i, g, f, s, co, bl, ea, la, bs⟩ := e0
  dsimp only at hM
  have b0 := (Blk.new w 107 (ec ⟨i, g, f, s, co, bl, ea, la, bs⟩)).alloc (.cells (mc ⟨0, 0, 0, 0, 0, 0, 0⟩) 33)
  have b1 := Blk.new (w.alloc (.cells (ec ⟨i, g, f, s, co, bl, ea, la, bs⟩) 107)) 33 (mc ⟨0, 0, 0, 0, 0, 0, 0⟩)
  rw [World.size_alloc] at b1
  have HB : Below w.heap.size w ((w.alloc (.cells (ec ⟨i, g, f, s, co, bl, ea, la, bs⟩) 107)).alloc (.cells (mc ⟨0, 0, 0, 0, 0, 0, 0⟩) 33)) := hb2 w _ _
  cases s with
  | false =>
    subst hM
    go_enter Tryz.func164, Tryz.ntmps164
    go_wp2_with fail
    refine bodyPost_ret (results_row1 rfl _ _ (w.heap.size + 1) 33 (mc ⟨0, 0, 0, 0, 0, 0, 0⟩) (0, 0) _ rfl b1 Tryz.underlying33 rfl (by kernel_rfl)) rfl ?_
    exact ⟨rfl, HB⟩
  | true =>
    go_enter Tryz.func164, Tryz.ntmps164
    go_wp2_with fail
    refine (C0 _).mono ?_
    clear C0
    rintro e w1 ⟨rfl, hb1⟩
    replace b0 := b0.below hb1 b0.lt
    replace b1 := b1.below hb1 b1.lt
    replace HB := HB.trans (hb1.mono HB.size)
    clear hb1
    have b0' := b0
    have b1' := b1
    obtain ⟨⟨c0, c1, c2, c3, c4, c5, c6, c7, c8⟩, _⟩ := blk9 b0'
    obtain ⟨⟨d0, d1, d2, d3, d4, d5, d6⟩, f0, f1, f2, f3, f4, f5, f6⟩ := blk7f b1'
    clear b0' b1'
    by_cases hz : v = 0
    · subst hz
      subst hM
      go_wp2_with fail
      refine bodyPost_ret (results_row1 rfl _ _ (w.heap.size + 1) 33 (mc ⟨0, 0, 0, co, f, ea, la⟩) (0, 0) _ rfl (set7 (w := w1) b1 _ _ _ _ _ _ _) Tryz.underlying33 rfl (by kernel_rfl)) rfl ?_
      exact ⟨rfl, low7 HB (by simp) _ _ _ _ _ _ _⟩
    · have hzI : (v != 0) = true := by simp [hz]
      rw [decide_eq_false hz] at hM
      subst hM
      go_wp2_with fail
      refine bodyPost_ret (results_row1 rfl _ _ (w.heap.size + 1) 33 (mc ⟨0, 0, 0, 0, 0, 0, 0⟩) (0, 0) _ rfl (set7 (w := w1) b1 _ _ _ _ _ _ _) Tryz.underlying33 rfl (by kernel_rfl)) rfl ?_
      exact ⟨rfl, low7 HB (by simp) _ _ _ _ _ _ _⟩
theorem metE_i64 (e : En) : I64 (metE e).count ∧ I64 (metE e).first := by
  unfold metE
  split
  · rename_i h
    simp only [Bool.and_eq_true, decide_eq_true_eq] at h
    have := chkE_le e h.1 h.2
    unfold I64
    dsimp only
    omega
  · unfold I64
    dsimp only
    omega
def sE (e : En) : R := sM (metE e).count (metE e).first
def tE (e : En) : R := tM (metE e).count (metE e).early (metE e).late

set_option maxRecDepth 100000 in
set_option maxHeartbeats 4000000 in
theorem eseqs_any (e0 : En) (w : World) :
    Calls Tryz.prog 118 #[.agg (ec e0)] w fun e w' => e = .returned (rv (sE e0)) ∧ Below w.heap.size w w' := by
  have C0 := fun w => met_any e0 _ rfl w
  have C1 := fun w => bseqs_any (metE e0) w (metE_i64 e0).1 (metE_i64 e0).2
  generalize hr : sE e0 = rr at *
  unfold sE at hr
  rw [hr] at C1
  clear hr
  generalize metE e0 = m at *
  obtain ⟨i, g, f, s, co, bl, ea, la, bs⟩ := e0
  obtain ⟨m0, m1, m2, m3, m4, m5, m6⟩ := m
  obtain ⟨r1, r2⟩ := rr
  have b1 := Blk.new (w.alloc (.cells (ec ⟨i, g, f, s, co, bl, ea, la, bs⟩) 107)) 56 #[.int .i64 0, .int .i64 0]
  rw [World.size_alloc] at b1
  have HB : Below w.heap.size w ((w.alloc (.cells (ec ⟨i, g, f, s, co, bl, ea, la, bs⟩) 107)).alloc (.cells #[.int .i64 0, .int .i64 0] 56)) := hb2 w _ _
  go_enter Tryz.func118, Tryz.ntmps118
  go_wp2_with fail
  refine (C0 _).mono ?_
  clear C0
  rintro e w1 ⟨rfl, hb1⟩
  replace b1 := b1.below hb1 b1.lt
  replace HB := HB.trans (hb1.mono HB.size)
  clear hb1
  go_wp2_with fail
  refine (C1 _).mono ?_
  clear C1
  rintro e w2 ⟨rfl, hb2⟩
  replace b1 := b1.below hb2 b1.lt
  replace HB := HB.trans (hb2.mono HB.size)
  clear hb2
  have b1' := b1
  obtain ⟨k0, k1, f0, f1, _⟩ := blk2 b1'
  clear b1'
  go_wp2_with fail
  refine bodyPost_ret (results_row1 rfl _ _ (w.heap.size + 1) 56 #[.int .i64 r1, .int .i64 r2] (0, 0) _ rfl (ret_rng (w := w) b1) Tryz.underlying56 rfl (by kernel_rfl)) rfl ?_
  exact ⟨rfl, (HB.setCell (p := ⟨w.heap.size + 1, 0, none⟩) (by simp) _).setCell (p := ⟨w.heap.size + 1, 1, none⟩) (by simp) _⟩
set_option maxRecDepth 100000 in
set_option maxHeartbeats 4000000 in
theorem eticks_any (e0 : En) (w : World) :
    Calls Tryz.prog 119 #[.agg (ec e0)] w fun e w' => e = .returned (rv (tE e0)) ∧ Below w.heap.size w w' := by
  have C0 := fun w => met_any e0 _ rfl w
  have C1 := fun w => ticks_any (metE e0) w
  generalize hr : tE e0 = rr at *
  unfold tE at hr
  rw [hr] at C1
  clear hr
  generalize metE e0 = m at *
  obtain ⟨i, g, f, s, co, bl, ea, la, bs⟩ := e0
  obtain ⟨m0, m1, m2, m3, m4, m5, m6⟩ := m
  obtain ⟨r1, r2⟩ := rr
  have b1 := Blk.new (w.alloc (.cells (ec ⟨i, g, f, s, co, bl, ea, la, bs⟩) 107)) 56 #[.int .i64 0, .int .i64 0]
  rw [World.size_alloc] at b1
  have HB : Below w.heap.size w ((w.alloc (.cells (ec ⟨i, g, f, s, co, bl, ea, la, bs⟩) 107)).alloc (.cells #[.int .i64 0, .int .i64 0] 56)) := hb2 w _ _
  go_enter Tryz.func119, Tryz.ntmps119
  go_wp2_with fail
  refine (C0 _).mono ?_
  clear C0
  rintro e w1 ⟨rfl, hb1⟩
  replace b1 := b1.below hb1 b1.lt
  replace HB := HB.trans (hb1.mono HB.size)
  clear hb1
  go_wp2_with fail
  refine (C1 _).mono ?_
  clear C1
  rintro e w2 ⟨rfl, hb2⟩
  replace b1 := b1.below hb2 b1.lt
  replace HB := HB.trans (hb2.mono HB.size)
  clear hb2
  have b1' := b1
  obtain ⟨k0, k1, f0, f1, _⟩ := blk2 b1'
  clear b1'
  go_wp2_with fail
  refine bodyPost_ret (results_row1 rfl _ _ (w.heap.size + 1) 56 #[.int .i64 r1, .int .i64 r2] (0, 0) _ rfl (ret_rng (w := w) b1) Tryz.underlying56 rfl (by kernel_rfl)) rfl ?_
  exact ⟨rfl, (HB.setCell (p := ⟨w.heap.size + 1, 0, none⟩) (by simp) _).setCell (p := ⟨w.heap.size + 1, 1, none⟩) (by simp) _⟩
end SkpW
end Go.Proofs.YtnpncpoiiikafaaGreat
