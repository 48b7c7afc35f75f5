/- Walks over package span and its reference: each function computes the plain function named here, and writes nothing that was there. -/
import Derived.Test.YtnpncpoiiikafaaGreatMemQb
namespace Go.Proofs.YtnpncpoiiikafaaGreat
set_option linter.unusedVariables false
open Go.RowKit

abbrev rng (lo hi : Int) : Value := .agg #[.int .i64 lo, .int .i64 hi]

namespace SpanW

def hasB (lo hi n : Int) : Bool := decide (lo ≤ n) && decide (n ≤ hi)
def emptyB (lo hi : Int) : Bool := decide (hi < lo)

theorem has_any (lo hi n : Int) (w : World) :
    Calls Tryz.prog 122 #[rng lo hi, .int .i64 n] w fun e w' => e = .returned (.bool (hasB lo hi n)) ∧ Below w.heap.size w w' := by
  go_enter Tryz.func122, Tryz.ntmps122
  go_wp2
  all_goals
    go_ret
    exact ⟨ret_bool (by simp [hasB, *]; try omega), (by first | exact Below.refl _ _ | (repeat (first | exact Below.refl _ _ | assumption | refine Below.drew ?_ | refine Below.drewN_ ?_ _ | refine Below.alloc ?_ (by first | exact Nat.le_refl _ | (simp; done) | (simp; omega) | omega) _ | refine Below.setCell ?_ (by first | exact Nat.le_refl _ | (simp; done) | (simp; omega) | omega) _ | (refine Below.trans ?_ (Below.mono (by assumption) (by first | exact Nat.le_refl _ | (simp; done) | (simp; omega) | omega))))))⟩

theorem has_eq (lo hi n : Int) (v : Bool) (h : hasB lo hi n = v) (w : World) :
    Calls Tryz.prog 122 #[rng lo hi, .int .i64 n] w fun e w' => e = .returned (.bool v) ∧ Below w.heap.size w w' := h ▸ has_any lo hi n w

theorem empty_any (lo hi : Int) (w : World) :
    Calls Tryz.prog 165 #[rng lo hi] w fun e w' => e = .returned (.bool (emptyB lo hi)) ∧ Below w.heap.size w w' := by
  go_enter Tryz.func165, Tryz.ntmps165
  go_wp2
  go_ret
  exact ⟨rfl, (by first | exact Below.refl _ _ | (repeat (first | exact Below.refl _ _ | assumption | refine Below.drew ?_ | refine Below.drewN_ ?_ _ | refine Below.alloc ?_ (by first | exact Nat.le_refl _ | (simp; done) | (simp; omega) | omega) _ | refine Below.setCell ?_ (by first | exact Nat.le_refl _ | (simp; done) | (simp; omega) | omega) _ | (refine Below.trans ?_ (Below.mono (by assumption) (by first | exact Nat.le_refl _ | (simp; done) | (simp; omega) | omega))))))⟩

/-- A pair of ends. -/
abbrev R := Int × Int
abbrev rv (p : R) : Value := rng p.1 p.2
def cells (l : List R) : List Value := l.flatMap fun p => [.int .i64 p.1, .int .i64 p.2]
theorem cells_len (l : List R) : (cells l).length = 2 * l.length := by
  induction l with
  | nil => rfl
  | cons x l ih => simp only [cells, List.flatMap_cons, List.length_append, List.length_cons, List.length_nil] at *; omega
theorem cells_cons (p : R) (l : List R) : cells (p :: l) = .int .i64 p.1 :: .int .i64 p.2 :: cells l := rfl
theorem cells_get (l : List R) (k : Nat) (h : k < l.length) : (cells l)[2 * k]? = some (.int .i64 l[k].1) ∧ (cells l)[2 * k + 1]? = some (.int .i64 l[k].2) := by
  induction l generalizing k with
  | nil => simp at h
  | cons p l ih =>
    rw [cells_cons]
    cases k with
    | zero => simp
    | succ k =>
      have := ih k (by simpa using h)
      simpa [Nat.mul_add] using this

def narrow (p q : R) : R := (max p.1 q.1, min p.2 q.2)
theorem narrow_any (p q : R) (w : World) :
    Calls Tryz.prog 191 #[rv p, rv q] w fun e w' => e = .returned (rv (narrow p q)) ∧ Below w.heap.size w w' := by
  go_enter Tryz.func191, Tryz.ntmps191
  go_wp2
  all_goals
    refine bodyPost_ret (v := rv (narrow p q)) ?_ rfl ⟨rfl, (by first | exact Below.refl _ _ | (repeat (first | exact Below.refl _ _ | assumption | refine Below.drew ?_ | refine Below.drewN_ ?_ _ | refine Below.alloc ?_ (by first | exact Nat.le_refl _ | (simp; done) | (simp; omega) | omega) _ | refine Below.setCell ?_ (by first | exact Nat.le_refl _ | (simp; done) | (simp; omega) | omega) _ | (refine Below.trans ?_ (Below.mono (by assumption) (by first | exact Nat.le_refl _ | (simp; done) | (simp; omega) | omega))))))⟩
    simp [results, Tryz.results191, go_sem, narrow]
    omega

theorem none_any (w : World) :
    Calls Tryz.prog 203 #[] w fun e w' => e = .returned (rng 1 0) ∧ Below w.heap.size w w' := by
  go_enter Tryz.func203, Tryz.ntmps203
  go_wp2
  refine bodyPost_ret (v := rng 1 0) ?_ rfl ⟨rfl, (by first | exact Below.refl _ _ | (repeat (first | exact Below.refl _ _ | assumption | refine Below.drew ?_ | refine Below.drewN_ ?_ _ | refine Below.alloc ?_ (by first | exact Nat.le_refl _ | (simp; done) | (simp; omega) | omega) _ | refine Below.setCell ?_ (by first | exact Nat.le_refl _ | (simp; done) | (simp; omega) | omega) _ | (refine Below.trans ?_ (Below.mono (by assumption) (by first | exact Nat.le_refl _ | (simp; done) | (simp; omega) | omega))))))⟩
  simp [results, Tryz.results203, go_sem]

end SpanW
end Go.Proofs.YtnpncpoiiikafaaGreat

namespace Go.Proofs.YtnpncpoiiikafaaGreat
set_option linter.unusedVariables false
open Go.RowKit
namespace SpanW

def norm (p : R) : R := if p.2 < p.1 then (1, 0) else p
def foldR (g : R → R → R) : List R → R
  | [] => (1, 0)
  | p :: l => norm (l.foldl g p)


theorem rd_at {w : World} {B : Nat} {A : Option Addr} {n : Nat} {l : List R} (h : Rd w B 2 A n (cells l)) (hn : 0 < n) :
    ∃ b o, A = some ⟨b, o, none⟩ ∧ b < B ∧ ∀ k (hk : k < l.length), w.cell? ⟨b, o + k * 2, none⟩ = some (.int .i64 l[k].1) ∧ w.cell? ⟨b, o + k * 2 + 1, none⟩ = some (.int .i64 l[k].2) := by
  obtain ⟨b, o, rfl, hb, hc⟩ := h.at_ hn
  refine ⟨b, o, rfl, hb, fun k hk => ?_⟩
  have hlen := cells_len l
  obtain ⟨h1, h2⟩ := cells_get l k hk
  have g1 := hc (k * 2) (by omega)
  have g2 := hc (k * 2 + 1) (by omega)
  rw [List.getElem?_eq_getElem (by omega)] at h1 h2
  simp only [Nat.mul_comm 2 k] at h1 h2
  rw [h1] at g1
  rw [h2] at g2
  exact ⟨g1, g2⟩

theorem foldl_snoc (g : R → R → R) (p : R) (l : List R) (k : Nat) (hk : k < l.length) : (l.take (k + 1)).foldl g p = g ((l.take k).foldl g p) l[k] := by
  rw [List.take_succ_eq_append_getElem hk, List.foldl_append]; rfl

set_option maxHeartbeats 1000000 in
theorem fold_narrow (A : Option Addr) (n c : Nat) (l : List R) (w : World) (h : Rd w w.heap.size 2 A n (cells l)) (hnc : n ≤ c) (hcm : c ≤ 9223372036854775807) :
    Calls Tryz.prog 190 #[.slice A n c, .func (.func 191) #[] #[]] w fun e w' => e = .returned (rv (foldR narrow l)) ∧ Below w.heap.size w w' := by
  have hl : l.length = n := by have := h.len; rw [cells_len] at this; omega
  by_cases hn : n = 0
  · subst hn
    obtain rfl : l = [] := List.eq_nil_of_length_eq_zero hl
    go_enter Tryz.func190, Tryz.ntmps190
    go_wp2_with fail
    refine (none_any _).mono ?_
    rintro e w1 ⟨rfl, hb⟩
    have hB0 : Blk w1 w.heap.size 56 #[.int .i64 0, .int .i64 0] := (Blk.new w _ _).below hb (by simp)
    have d0 : w1.cell? ⟨w.heap.size, 0, none⟩ = some (.int .i64 0) := hB0.cell_ 0 rfl
    have d1 : w1.cell? ⟨w.heap.size, 1, none⟩ = some (.int .i64 0) := hB0.cell_ 1 rfl
    have f0 := hB0.frozen 0
    have f1 := hB0.frozen 1
    have HB := Lib.hid hB0
    clear hB0
    go_wp2
    refine bodyPost_ret (v := rng 1 0) ?_ rfl ⟨rfl, (by first | exact Below.refl _ _ | (repeat (first | exact Below.refl _ _ | assumption | refine Below.drew ?_ | refine Below.drewN_ ?_ _ | refine Below.alloc ?_ (by first | exact Nat.le_refl _ | (simp; done) | (simp; omega) | omega) _ | refine Below.setCell ?_ (by first | exact Nat.le_refl _ | (simp; done) | (simp; omega) | omega) _ | (refine Below.trans ?_ (Below.mono (by assumption) (by first | exact Nat.le_refl _ | (simp; done) | (simp; omega) | omega))))))⟩
    simp [results, Tryz.results190, go_sem, d0, d1]
  · obtain ⟨b, o, rfl, hb, hcell⟩ := rd_at h (by omega)
    obtain ⟨p, l, rfl⟩ : ∃ p l', l = p :: l' := by cases l with | nil => simp at hl; omega | cons p l => exact ⟨p, l, rfl⟩
    have c0 : w.cell? ⟨b, o, none⟩ = some (.int .i64 p.1) := by have h0 := (hcell 0 (by simp)).1; simp only [Nat.zero_mul, Nat.add_zero, List.getElem_cons_zero] at h0; exact h0
    have c1 : w.cell? ⟨b, o + 1, none⟩ = some (.int .i64 p.2) := by have h0 := (hcell 0 (by simp)).2; simp only [Nat.zero_mul, Nat.add_zero, List.getElem_cons_zero] at h0; exact h0
    have hn0 : ((n : Int) == 0) = false := by simp; omega
    have hn1 : (1 : Int) ≤ (n : Int) := by omega
    have hn2 : (n : Int) ≤ 9223372036854775807 := by omega
    have hl1 : l.length ≤ n - 1 := by simp at hl; omega
    have hl2 : n - 1 ≤ l.length := by simp at hl; omega
    have HC := Lib.hid hcell
    clear hl hcell h
    by_cases hc1 : c = 1
    all_goals
      go_enter Tryz.func190, Tryz.ntmps190
      go_wp2_with (fail)
      go_loopw [18] (fun i wr => ∃ (k : Nat) (q : R), k ≤ n - 1 ∧ i = .int .i64 k ∧ q = (l.take k).foldl narrow p ∧ Blk wr w.heap.size 56 #[.int .i64 0, .int .i64 0] ∧ Blk wr (w.heap.size + 1) 273 #[.int .i64 q.1, .int .i64 q.2] ∧ Below w.heap.size w wr)
        (fun i _ => n - 1 - (intOf i).toNat)
      case atStart => exact ⟨0, p, by omega, rfl, rfl, (Blk.new _ _ _).alloc _, by simpa using Blk.new (w.alloc _) _ _, (by first | exact Below.refl _ _ | (repeat (first | exact Below.refl _ _ | assumption | refine Below.drew ?_ | refine Below.drewN_ ?_ _ | refine Below.alloc ?_ (by first | exact Nat.le_refl _ | (simp; done) | (simp; omega) | omega) _ | refine Below.setCell ?_ (by first | exact Nat.le_refl _ | (simp; done) | (simp; omega) | omega) _ | (refine Below.trans ?_ (Below.mono (by assumption) (by first | exact Nat.le_refl _ | (simp; done) | (simp; omega) | omega))))))⟩
      case round =>
        obtain ⟨k, q, hk, rfl, hq, hB0, hB1, hbw⟩ := hrel
        have HQ := Lib.hid hq
        clear hq
        have d0 : wr.cell? ⟨w.heap.size + 1, 0, none⟩ = some (.int .i64 q.1) := hB1.cell_ 0 rfl
        have d1 : wr.cell? ⟨w.heap.size + 1, 1, none⟩ = some (.int .i64 q.2) := hB1.cell_ 1 rfl
        have f0 := hB1.frozen 0
        have f1 := hB1.frozen 1
        have hz : w.heap.size + 1 < wr.heap.size := hB1.lt
        have hy : c = 1 → ¬ k < n - 1 := by omega
        by_cases hlt : k < n - 1
        · first
          | (exfalso; exact hy hc1 hlt)
          | (have hkl : k < l.length := by omega
             have e0 : wr.cell? ⟨b, o + 2 + k * 2, none⟩ = some (.int .i64 l[k].1) := by
               rw [hbw.cell (p := ⟨b, _, none⟩) hb, show o + 2 + k * 2 = o + (k + 1) * 2 by omega]; exact (HC.out (k + 1) (by simp; omega)).1
             have e1 : wr.cell? ⟨b, o + 2 + k * 2 + 1, none⟩ = some (.int .i64 l[k].2) := by
               rw [hbw.cell (p := ⟨b, _, none⟩) hb, show o + 2 + k * 2 = o + (k + 1) * 2 by omega]; exact (HC.out (k + 1) (by simp; omega)).2
             go_wp2_with fail
             refine (narrow_any q l[k] _).mono ?_
             rintro e w1 ⟨rfl, hb1⟩
             have HB : Below w.heap.size w w1 := (hbw.alloc hbw.size _).trans (hb1.mono (by simp; omega))
             have g1 : Blk w1 (w.heap.size + 1) 273 #[.int .i64 q.1, .int .i64 q.2] := (hB1.alloc _).below hb1 (by simp; omega)
             have g0 : Blk w1 w.heap.size 56 #[.int .i64 0, .int .i64 0] := (hB0.alloc _).below hb1 (by simp; omega)
             have d0 : w1.cell? ⟨w.heap.size + 1, 0, none⟩ = some (.int .i64 q.1) := g1.cell_ 0 rfl
             have d1 : w1.cell? ⟨w.heap.size + 1, 1, none⟩ = some (.int .i64 q.2) := g1.cell_ 1 rfl
             have f0 := g1.frozen 0
             have f1 := g1.frozen 1
             have G1 := Lib.hid g1
             clear g1
             go_wp2
             go_roundw
             case rel => exact ⟨k + 1, narrow q l[k], by omega, by go_num, by rw [foldl_snoc _ _ _ _ hkl, HQ.out], (g0.far (by simp) _).far (by simp) _, by simpa using (G1.out.set 0 _).set 1 _, (HB.setCell (by simp) _).setCell (by simp) _⟩
             case measure => simp [intOf]; omega)
        · have HK : Hid (q = l.foldl narrow p) := by rw [HQ.out, List.take_of_length_le (by omega)]; rfl
          go_wp2_with fail
          refine (empty_any _ _ _).mono ?_
          rintro e w1 ⟨rfl, hb1⟩
          have HB : Below w.heap.size w w1 := hbw.trans (hb1.mono (by omega))
          have g1 : Blk w1 (w.heap.size + 1) 273 #[.int .i64 q.1, .int .i64 q.2] := hB1.below hb1 (by omega)
          have g0 : Blk w1 w.heap.size 56 #[.int .i64 0, .int .i64 0] := hB0.below hb1 (by omega)
          have d0 : w1.cell? ⟨w.heap.size + 1, 0, none⟩ = some (.int .i64 q.1) := g1.cell_ 0 rfl
          have d1 : w1.cell? ⟨w.heap.size + 1, 1, none⟩ = some (.int .i64 q.2) := g1.cell_ 1 rfl
          have e0 : w1.cell? ⟨w.heap.size, 0, none⟩ = some (.int .i64 0) := g0.cell_ 0 rfl
          have e1 : w1.cell? ⟨w.heap.size, 1, none⟩ = some (.int .i64 0) := g0.cell_ 1 rfl
          have f0 := g0.frozen 0
          have f1 := g0.frozen 1
          have G1 := Lib.hid g1
          have G0 := Lib.hid g0
          clear g1 g0
          have hz1 : w.heap.size + 1 < w1.heap.size := by have := hb1.size; omega
          by_cases hE : q.2 < q.1
          · have hEB : emptyB q.1 q.2 = true := by simpa [emptyB] using hE
            go_wp2_with fail
            refine (none_any _).mono ?_
            rintro e w2 ⟨rfl, hb2⟩
            have HB2 : Below w.heap.size w w2 := HB.trans (hb2.mono (by omega))
            have g0 := G0.out.below hb2 (by omega)
            have d0 : w2.cell? ⟨w.heap.size, 0, none⟩ = some (.int .i64 0) := g0.cell_ 0 rfl
            have d1 : w2.cell? ⟨w.heap.size, 1, none⟩ = some (.int .i64 0) := g0.cell_ 1 rfl
            have f0 := g0.frozen 0
            have f1 := g0.frozen 1
            clear g0
            go_wp2
            refine bodyPost_ret (v := rv (foldR narrow (p :: l))) ?_ rfl ⟨rfl, (HB2.setCell (by simp) _).setCell (by simp) _⟩
            simp only [foldR, ← HK.out, norm, if_pos hE]
            simp [results, Tryz.results190, go_sem, d0, d1]
          · have hEB : emptyB q.1 q.2 = false := by simpa [emptyB] using hE
            go_wp2
            refine bodyPost_ret (v := rv (foldR narrow (p :: l))) ?_ rfl ⟨rfl, (HB.setCell (by simp) _).setCell (by simp) _⟩
            rw [show foldR narrow (p :: l) = q by simp only [foldR, ← HK.out, norm]; rw [if_neg (by omega)]]
            simp [results, Tryz.results190, go_sem, e0, e1]
end SpanW
end Go.Proofs.YtnpncpoiiikafaaGreat

namespace Go.Proofs.YtnpncpoiiikafaaGreat
set_option linter.unusedVariables false
open Go.RowKit
namespace SpanW

set_option maxHeartbeats 1000000 in
theorem both_any (A : Option Addr) (n c : Nat) (l : List R) (w : World) (h : Rd w w.heap.size 2 A n (cells l)) (hnc : n ≤ c) (hcm : c ≤ 9223372036854775807) :
    Calls Tryz.prog 166 #[.slice A n c] w fun e w' => e = .returned (rv (foldR narrow l)) ∧ Below w.heap.size w w' := by
  go_enter Tryz.func166, Tryz.ntmps166
  go_wp2_with fail
  refine (fold_narrow A n c l _ ((h.below (by first | exact Below.refl _ _ | (repeat (first | exact Below.refl _ _ | assumption | refine Below.drew ?_ | refine Below.drewN_ ?_ _ | refine Below.alloc ?_ (by first | exact Nat.le_refl _ | (simp; done) | (simp; omega) | omega) _ | refine Below.setCell ?_ (by first | exact Nat.le_refl _ | (simp; done) | (simp; omega) | omega) _ | (refine Below.trans ?_ (Below.mono (by assumption) (by first | exact Nat.le_refl _ | (simp; done) | (simp; omega) | omega))))))).more (by simp)) hnc hcm).mono ?_
  rintro e w1 ⟨rfl, hb⟩
  have g0 : Blk w1 w.heap.size 56 #[.int .i64 0, .int .i64 0] := (Blk.new w _ _).below hb (by simp)
  have d0 : w1.cell? ⟨w.heap.size, 0, none⟩ = some (.int .i64 0) := g0.cell_ 0 rfl
  have d1 : w1.cell? ⟨w.heap.size, 1, none⟩ = some (.int .i64 0) := g0.cell_ 1 rfl
  have f0 := g0.frozen 0
  have f1 := g0.frozen 1
  clear g0
  go_wp2
  refine bodyPost_ret (v := rv (foldR narrow l)) ?_ rfl ⟨rfl, (by first | exact Below.refl _ _ | (repeat (first | exact Below.refl _ _ | assumption | refine Below.drew ?_ | refine Below.drewN_ ?_ _ | refine Below.alloc ?_ (by first | exact Nat.le_refl _ | (simp; done) | (simp; omega) | omega) _ | refine Below.setCell ?_ (by first | exact Nat.le_refl _ | (simp; done) | (simp; omega) | omega) _ | (refine Below.trans ?_ (Below.mono (by assumption) (by first | exact Nat.le_refl _ | (simp; done) | (simp; omega) | omega))))))⟩
  simp [results, Tryz.results166, go_sem, d0, d1]

end SpanW
end Go.Proofs.YtnpncpoiiikafaaGreat

namespace Go.Proofs.YtnpncpoiiikafaaGreat
set_option linter.unusedVariables false
open Go.RowKit
namespace SpanW

def full (l : List R) : List R := l.filter fun p => !emptyB p.1 p.2
theorem full_len (l : List R) (k : Nat) : (full (l.take k)).length ≤ k := by
  unfold full
  have h1 := List.length_filter_le (fun p : R => !emptyB p.1 p.2) (l.take k)
  have h2 : (l.take k).length ≤ k := List.length_take_le _ _
  omega
end SpanW
end Go.Proofs.YtnpncpoiiikafaaGreat

namespace Go.Proofs.YtnpncpoiiikafaaGreat
set_option linter.unusedVariables false
open Go.RowKit
namespace SpanW

theorem rd_two {w : World} {g : Nat} {p q : R} (h : Blk w g 56 #[.int .i64 p.1, .int .i64 p.2, .int .i64 q.1, .int .i64 q.2]) : Rd w (g + 1) 2 (some ⟨g, 0, none⟩) 2 (cells [p, q]) := Rd.of_blk (cs := cells [p, q]) h rfl

def meetsB (p q : R) : Bool := let c := foldR narrow [p, q]; !emptyB c.1 c.2
def trimR (p : R) (f : Int) : R := foldR narrow [p, (f, 9223372036854775807)]

set_option maxHeartbeats 400000 in
theorem meets_any (p q : R) (w : World) :
    Calls Tryz.prog 120 #[rv p, rv q] w fun e w' => e = .returned (.bool (meetsB p q)) ∧ Below w.heap.size w w' := by
  go_enter Tryz.func120, Tryz.ntmps120
  go_wp2_with fail
  refine (both_any _ 2 2 [p, q] _ ?_ (Nat.le_refl _) (by omega)).mono ?_
  · exact (rd_two (by simpa using Blk.new (World.alloc (World.alloc w _) _) _ _)).more (by simp)
  rintro e w1 ⟨rfl, hb1⟩
  have HB : Below w.heap.size w w1 := (Below.trans (by first | exact Below.refl _ _ | (repeat (first | exact Below.refl _ _ | assumption | refine Below.drew ?_ | refine Below.drewN_ ?_ _ | refine Below.alloc ?_ (by first | exact Nat.le_refl _ | (simp; done) | (simp; omega) | omega) _ | refine Below.setCell ?_ (by first | exact Nat.le_refl _ | (simp; done) | (simp; omega) | omega) _ | (refine Below.trans ?_ (Below.mono (by assumption) (by first | exact Nat.le_refl _ | (simp; done) | (simp; omega) | omega)))))) (Below.mono hb1 (by first | exact Nat.le_refl _ | (simp only [World.size_alloc, World.size_setCell, World.size_drew]; omega) | (simp; done) | (simp; omega) | omega)))
  go_wp2_with fail
  refine (empty_any _ _ _).mono ?_
  rintro e w2 ⟨rfl, hb2⟩
  have HB2 : Below w.heap.size w w2 := HB.trans (hb2.mono HB.size)
  go_wp2
  go_ret
  exact ⟨rfl, HB2⟩

theorem trim_any (p : R) (f : Int) (w : World) :
    Calls Tryz.prog 121 #[rv p, .int .i64 f] w fun e w' => e = .returned (rv (trimR p f)) ∧ Below w.heap.size w w' := by
  go_enter Tryz.func121, Tryz.ntmps121
  go_wp2_with fail
  refine (both_any _ 2 2 [p, (f, 9223372036854775807)] _ ?_ (Nat.le_refl _) (by omega)).mono ?_
  · exact (rd_two (by simpa using Blk.new (World.alloc (World.alloc w _) _) _ _)).more (by simp)
  rintro e w1 ⟨rfl, hb1⟩
  have HB : Below w.heap.size w w1 := (Below.trans (by first | exact Below.refl _ _ | (repeat (first | exact Below.refl _ _ | assumption | refine Below.drew ?_ | refine Below.drewN_ ?_ _ | refine Below.alloc ?_ (by first | exact Nat.le_refl _ | (simp; done) | (simp; omega) | omega) _ | refine Below.setCell ?_ (by first | exact Nat.le_refl _ | (simp; done) | (simp; omega) | omega) _ | (refine Below.trans ?_ (Below.mono (by assumption) (by first | exact Nat.le_refl _ | (simp; done) | (simp; omega) | omega)))))) (Below.mono hb1 (by first | exact Nat.le_refl _ | (simp only [World.size_alloc, World.size_setCell, World.size_drew]; omega) | (simp; done) | (simp; omega) | omega)))
  have g0 : Blk w1 (w.heap.size + 1) 56 #[.int .i64 0, .int .i64 0] := by
    refine Blk.below ?_ hb1 (by simp)
    exact Blk.alloc (by simpa using Blk.new (World.alloc w _) _ _) _
  have d0 : w1.cell? ⟨w.heap.size + 1, 0, none⟩ = some (.int .i64 0) := g0.cell_ 0 rfl
  have d1 : w1.cell? ⟨w.heap.size + 1, 1, none⟩ = some (.int .i64 0) := g0.cell_ 1 rfl
  have f0 := g0.frozen 0
  have f1 := g0.frozen 1
  clear g0
  go_wp2
  refine bodyPost_ret (v := rv (trimR p f)) ?_ rfl ⟨rfl, (by first | exact Below.refl _ _ | (repeat (first | exact Below.refl _ _ | assumption | refine Below.drew ?_ | refine Below.drewN_ ?_ _ | refine Below.alloc ?_ (by first | exact Nat.le_refl _ | (simp; done) | (simp; omega) | omega) _ | refine Below.setCell ?_ (by first | exact Nat.le_refl _ | (simp; done) | (simp; omega) | omega) _ | (refine Below.trans ?_ (Below.mono (by assumption) (by first | exact Nat.le_refl _ | (simp; done) | (simp; omega) | omega))))))⟩
  simp [results, Tryz.results121, go_sem, d0, d1, trimR]

end SpanW
end Go.Proofs.YtnpncpoiiikafaaGreat
