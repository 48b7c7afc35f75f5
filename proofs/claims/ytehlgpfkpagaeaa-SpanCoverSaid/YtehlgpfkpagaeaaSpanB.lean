/- Walks over package span and its reference: what ranges have in common, and what covers them. -/
import Derived.Test.YtehlgpfkpagaeaaSpanF
namespace Go.Proofs.Ytehlgpfkpagaeaa
set_option linter.unusedVariables false
open Go.RowKit
namespace SpanW

theorem El_range : El Try.prog 29 23 2 16 := El.mk' Try.underlying29 (z := rng 0 0) (by kernel_rfl) rfl (by decide)

set_option maxHeartbeats 1000000 in
theorem both_any (A : Option Addr) (n c : Nat) (l : List R) (w : World) (h : Rd w w.heap.size 2 A n (cells l)) (hnc : n ≤ c) (hcm : c ≤ 9223372036854775807) :
    Calls Try.prog 23 #[.slice A n c] w fun e w' => e = .returned (rv (foldR narrow l)) ∧ Below w.heap.size w w' := by
  go_enter Try.func23, Try.ntmps23
  go_wp2_with fail
  refine (fold_narrow A n c l _ ((h.below (by first | exact Below.refl _ _ | (repeat (first | exact Below.refl _ _ | assumption | refine Below.drew ?_ | refine Below.drewN_ ?_ _ | refine Below.alloc ?_ (by first | exact Nat.le_refl _ | (simp; done) | (simp; omega) | omega) _ | refine Below.setCell ?_ (by first | exact Nat.le_refl _ | (simp; done) | (simp; omega) | omega) _ | (refine Below.trans ?_ (Below.mono (by assumption) (by first | exact Nat.le_refl _ | (simp; done) | (simp; omega) | omega))))))).more (by simp)) hnc hcm).mono ?_
  rintro e w1 ⟨rfl, hb⟩
  have g0 : Blk w1 w.heap.size 23 #[.int .i64 0, .int .i64 0] := (Blk.new w _ _).below hb (by simp)
  have d0 : w1.cell? ⟨w.heap.size, 0, none⟩ = some (.int .i64 0) := g0.cell_ 0 rfl
  have d1 : w1.cell? ⟨w.heap.size, 1, none⟩ = some (.int .i64 0) := g0.cell_ 1 rfl
  have f0 := g0.frozen 0
  have f1 := g0.frozen 1
  clear g0
  go_wp2
  refine bodyPost_ret (v := rv (foldR narrow l)) ?_ rfl ⟨rfl, (by first | exact Below.refl _ _ | (repeat (first | exact Below.refl _ _ | assumption | refine Below.drew ?_ | refine Below.drewN_ ?_ _ | refine Below.alloc ?_ (by first | exact Nat.le_refl _ | (simp; done) | (simp; omega) | omega) _ | refine Below.setCell ?_ (by first | exact Nat.le_refl _ | (simp; done) | (simp; omega) | omega) _ | (refine Below.trans ?_ (Below.mono (by assumption) (by first | exact Nat.le_refl _ | (simp; done) | (simp; omega) | omega))))))⟩
  simp [results, Try.results23, go_sem, d0, d1]

set_option maxHeartbeats 1000000 in
theorem refBoth_any (A : Option Addr) (n c : Nat) (l : List R) (w : World) (h : Rd w w.heap.size 2 A n (cells l)) (hnc : n ≤ c) (hcm : c ≤ 9223372036854775807) :
    Calls Try.prog 24 #[.slice A n c] w fun e w' => e = .returned (rv (foldR narrow l)) ∧ Below w.heap.size w w' := by
  have hl : l.length = n := by have := h.len; rw [cells_len] at this; omega
  by_cases hn : n = 0
  · subst hn
    obtain rfl : l = [] := List.eq_nil_of_length_eq_zero hl
    go_enter Try.func24, Try.ntmps24
    go_wp2_with fail
    refine (refNone_any _).mono ?_
    rintro e w1 ⟨rfl, hb⟩
    have hB0 : Blk w1 w.heap.size 23 #[.int .i64 0, .int .i64 0] := (Blk.new w _ _).below hb (by simp)
    have d0 : w1.cell? ⟨w.heap.size, 0, none⟩ = some (.int .i64 0) := hB0.cell_ 0 rfl
    have d1 : w1.cell? ⟨w.heap.size, 1, none⟩ = some (.int .i64 0) := hB0.cell_ 1 rfl
    have f0 := hB0.frozen 0
    have f1 := hB0.frozen 1
    clear hB0
    go_wp2
    refine bodyPost_ret (v := rng 1 0) ?_ rfl ⟨rfl, (by first | exact Below.refl _ _ | (repeat (first | exact Below.refl _ _ | assumption | refine Below.drew ?_ | refine Below.drewN_ ?_ _ | refine Below.alloc ?_ (by first | exact Nat.le_refl _ | (simp; done) | (simp; omega) | omega) _ | refine Below.setCell ?_ (by first | exact Nat.le_refl _ | (simp; done) | (simp; omega) | omega) _ | (refine Below.trans ?_ (Below.mono (by assumption) (by first | exact Nat.le_refl _ | (simp; done) | (simp; omega) | omega))))))⟩
    simp [results, Try.results24, go_sem, d0, d1]
  · obtain ⟨b, o, rfl, hb, hcell⟩ := rd_at h (by omega)
    obtain ⟨p, l, rfl⟩ : ∃ p l', l = p :: l' := by cases l with | nil => simp at hl; omega | cons p l => exact ⟨p, l, rfl⟩
    have c0 : w.cell? ⟨b, o, none⟩ = some (.int .i64 p.1) := by have h0 := (hcell 0 (by simp)).1; simp only [Nat.zero_mul, Nat.add_zero, List.getElem_cons_zero] at h0; exact h0
    have c1 : w.cell? ⟨b, o + 1, none⟩ = some (.int .i64 p.2) := by have h0 := (hcell 0 (by simp)).2; simp only [Nat.zero_mul, Nat.add_zero, List.getElem_cons_zero] at h0; exact h0
    have hn0 : ((n : Int) == 0) = false := by simp; omega
    have hn1 : (1 : Int) ≤ (n : Int) := by omega
    have hn2 : (n : Int) ≤ 9223372036854775807 := by omega
    have hl1 : l.length ≤ n - 1 := by simp at hl; omega
    have hl2 : n - 1 ≤ l.length := by simp at hl; omega
    have HC := Lib.hid hcell
    clear hl hcell h
    go_enter Try.func24, Try.ntmps24
    go_wp2_with fail
    go_quiet (fail)
    go_wp2_with fail
    go_loop [3, 4, 5] (fun lo hi i => ∃ (k : Nat) (q : R), k ≤ n - 1 ∧ i = .int .i64 ((k : Int) + 1) ∧ lo = .int .i64 q.1 ∧ hi = .int .i64 q.2 ∧ q = (l.take k).foldl narrow p)
      (fun _ _ i => n - (intOf i).toNat)
    case atStart => exact ⟨0, p, by omega, rfl, rfl, rfl, rfl⟩
    case round =>
      obtain ⟨k, q, hk, rfl, rfl, rfl, hq⟩ := hrel
      have HQ := Lib.hid hq
      clear hq
      by_cases hlt : k < n - 1
      · have hkl : k < l.length := by omega
        have ek : ((k : Int) + 1).toNat = k + 1 := by omega
        have e0 : w.cell? ⟨b, o + (k + 1) * 2, none⟩ = some (.int .i64 l[k].1) := (HC.out (k + 1) (by simp; omega)).1
        have e1 : w.cell? ⟨b, o + (k + 1) * 2 + 1, none⟩ = some (.int .i64 l[k].2) := (HC.out (k + 1) (by simp; omega)).2
        go_wp2
        all_goals
          go_round
          case rel => exact ⟨k + 1, narrow q l[k], by omega, by go_num, by simp [narrow]; omega, by simp [narrow]; omega, by rw [foldl_snoc _ _ _ _ hkl, HQ.out]⟩
          case measure => simp [intOf]; omega
      · have HK : Hid (q = l.foldl narrow p) := by rw [HQ.out, List.take_of_length_le (by omega)]; rfl
        by_cases hE : q.2 < q.1
        · go_wp2_with fail
          refine (refNone_any _).mono ?_
          rintro e w1 ⟨rfl, hb1⟩
          have g0 : Blk w1 w.heap.size 23 #[.int .i64 0, .int .i64 0] := (show Blk ((w.alloc _).drewN nq) w.heap.size _ _ from Blk.new w _ _).below hb1 (by simp)
          have d0 : w1.cell? ⟨w.heap.size, 0, none⟩ = some (.int .i64 0) := g0.cell_ 0 rfl
          have d1 : w1.cell? ⟨w.heap.size, 1, none⟩ = some (.int .i64 0) := g0.cell_ 1 rfl
          have f0 := g0.frozen 0
          have f1 := g0.frozen 1
          have HB : Below w.heap.size w w1 := Below.trans (b := (w.alloc (.cells #[.int .i64 0, .int .i64 0] 23)).drewN nq) (((Below.refl _ _).alloc (Nat.le_refl _) _).drewN_ nq) (hb1.mono (by simp))
          clear g0
          go_wp2
          refine bodyPost_ret (v := rv (foldR narrow (p :: l))) ?_ rfl ⟨rfl, (by first | exact Below.refl _ _ | (repeat (first | exact Below.refl _ _ | assumption | refine Below.drew ?_ | refine Below.drewN_ ?_ _ | refine Below.alloc ?_ (by first | exact Nat.le_refl _ | (simp; done) | (simp; omega) | omega) _ | refine Below.setCell ?_ (by first | exact Nat.le_refl _ | (simp; done) | (simp; omega) | omega) _ | (refine Below.trans ?_ (Below.mono (by assumption) (by first | exact Nat.le_refl _ | (simp; done) | (simp; omega) | omega))))))⟩
          simp only [foldR, ← HK.out, norm, if_pos hE]
          simp [results, Try.results24, go_sem, d0, d1]
        · go_wp2
          refine bodyPost_ret (v := rv (foldR narrow (p :: l))) ?_ rfl ⟨rfl, (by first | exact Below.refl _ _ | (repeat (first | exact Below.refl _ _ | assumption | refine Below.drew ?_ | refine Below.drewN_ ?_ _ | refine Below.alloc ?_ (by first | exact Nat.le_refl _ | (simp; done) | (simp; omega) | omega) _ | refine Below.setCell ?_ (by first | exact Nat.le_refl _ | (simp; done) | (simp; omega) | omega) _ | (refine Below.trans ?_ (Below.mono (by assumption) (by first | exact Nat.le_refl _ | (simp; done) | (simp; omega) | omega))))))⟩
          rw [show foldR narrow (p :: l) = q by simp only [foldR, ← HK.out, norm]; rw [if_neg (by omega)]]
          simp [results, Try.results24, go_sem]
end SpanW
end Go.Proofs.Ytehlgpfkpagaeaa
