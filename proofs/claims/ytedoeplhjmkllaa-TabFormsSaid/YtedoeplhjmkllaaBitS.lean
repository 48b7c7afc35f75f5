/- Walks over package bits: a reader's Get. -/
import Derived.Test.YtedoeplhjmkllaaBitR
namespace Go.Proofs.Ytedoeplhjmkllaa
set_option linter.unusedVariables false
set_option linter.unusedSimpArgs false
set_option linter.unnecessarySimpa false
open Go.RowKit
namespace BitW

theorem getB_out {l : List Nat} {p w : Int} (h : w < 0 ∨ 32 < w) : getB l p w = (0, 2) := by unfold getB; rw [if_pos h]
theorem getB_short {l : List Nat} {p w : Int} (h : ¬ (w < 0 ∨ 32 < w)) (h2 : (l.length : Int) < p + w) : getB l p w = (0, 4) := by unfold getB; rw [if_neg h, if_pos h2]
theorem getB_yes {l : List Nat} {p w : Nat} (h : w ≤ 32) (h2 : p + w ≤ l.length) : getB l p w = ((num ((l.drop p).take w) : Int), 0) := by
  unfold getB; rw [if_neg (by omega), if_neg (by omega), Int.toNat_natCast, Int.toNat_natCast]
/-- What a reader's call leaves. -/
def RLeft (w w' : World) (g : Nat) (s : List UInt8) (p : Nat) : Prop := Blk w' g 86 (rdr s p) ∧ w.grownBy w' (some g)
theorem RLeft.drewN {w : World} {g : Nat} {s : List UInt8} {p : Nat} (h : Blk w g 86 (rdr s p)) (n : Nat) : RLeft w (w.drewN n) g s p := ⟨h.drewN n, ⟨rfl, rfl, rfl, Nat.le_refl _, fun _ _ _ => rfl⟩⟩
theorem RLeft.same {w : World} {g : Nat} {s : List UInt8} {p : Nat} (h : Blk w g 86 (rdr s p)) : RLeft w w g s p := ⟨h, World.grownBy.refl w _⟩

set_option maxHeartbeats 2000000 in
theorem get_any (g : Nat) (s : List UInt8) (p : Nat) (width : Int) (w : World) (h : Blk w g 86 (rdr s p)) (hp : p ≤ 8 * s.length) (hs : s.length ≤ 1000000) (v : Int × Int) (hv : getB (bitsB s) p width = v) :
    Calls Try.prog 44 #[.pointer (some ⟨g, 0, none⟩), .int .i64 width] w fun e w' => e = .returned (.tuple #[.int .i64 v.1, .int .i64 v.2]) ∧ RLeft w w' g s (if v.2 = 0 then p + width.toNat else p) := by
  by_cases h1 : width < 0 ∨ 32 < width
  · rw [getB_out h1] at hv
    subst hv
    rw [if_neg (by simp)]
    have h1' : width < 0 ∨ (¬ width < 0 ∧ 32 < width) := by omega
    clear h1
    rcases h1' with h1 | ⟨h1, h2⟩
    all_goals
      go_enter Try.func44, Try.ntmps44
      go_wp2_with fail
      go_ret2
      exact ⟨rfl, RLeft.same h⟩
  · have h2 : ¬ width < 0 := by omega
    have h3 : ¬ 32 < width := by omega
    obtain ⟨W, rfl⟩ := Int.eq_ofNat_of_zero_le (show 0 ≤ width by omega)
    have hbl := bitsB_len s
    by_cases h4 : 8 * s.length < p + W
    · rw [getB_short h1 (by omega)] at hv
      subst hv
      rw [if_neg (by simp)]
      have h5 : ((8 * s.length - p : Nat) : Int) < (W : Int) := by omega
      clear h1 hbl
      go_enter Try.func44, Try.ntmps44
      go_wp2_with fail
      refine (left_any g s p w h hp hs).mono ?_
      rintro e w1 ⟨rfl, nq, rfl⟩
      go_wp2_with fail
      go_ret2
      exact ⟨rfl, RLeft.drewN h nq⟩
    · rw [getB_yes (by omega) (by omega)] at hv
      subst hv
      rw [if_pos rfl, Int.toNat_natCast]
      have h5 : ¬ ((8 * s.length - p : Nat) : Int) < (W : Int) := by omega
      by_cases h0 : W = 0
      · subst h0
        clear h1 hbl
        go_enter Try.func44, Try.ntmps44
        go_wp2_with fail
        refine (left_any g s p w h hp hs).mono ?_
        rintro e w1 ⟨rfl, nq, rfl⟩
        go_wp2_with fail
        go_ret2
        exact ⟨by simp [num], RLeft.drewN h nq⟩
      · have h0I : ((W : Int) == 0) = false := by rw [beq_eq_false_iff_ne]; omega
        have hw : IntKind.i64.wrap ((p : Int) + (W : Int) - (W : Int)) = (p : Int) := by rw [IntWalk.i64_in _ (by omega)]; omega
        clear h1 hbl h0
        go_enter Try.func44, Try.ntmps44
        go_wp2_with fail
        refine (left_any g s p w h hp hs).mono ?_
        rintro e w1 ⟨rfl, nq, rfl⟩
        have h' := h.drewN nq
        obtain ⟨c0, c1, f0, f1, z⟩ := blk2 h'
        go_wp2_with fail
        have h2' : Blk ((w.drewN nq).setCell ⟨g, 1, none⟩ (.int .i64 ((p : Int) + (W : Int)))) g 86 (rdr s (p + W)) := by
          have := h'.set 1 (.int .i64 ((p : Int) + (W : Int)))
          exact blk_eq this (by simp)
        have hg2 : w.grownBy ((w.drewN nq).setCell ⟨g, 1, none⟩ (.int .i64 ((p : Int) + (W : Int)))) (some g) := ⟨rfl, rfl, rfl, by simp [World.setCell], fun k _ hne => Below.heap_setCell _ _ _ k (fun e => hne (by rw [e]))⟩
        generalize (w.drewN nq).setCell ⟨g, 1, none⟩ (.int .i64 ((p : Int) + (W : Int))) = w2 at *
        clear c0 c1 f0 f1 z
        have C := peek_any g s (p + W) p W w2 h2' (by omega) (by omega) hs
        try rw [show (p : Int) + (W : Int) - (W : Int) = (p : Int) from by omega]
        refine C.mono ?_
        rintro e w3 ⟨rfl, nq2, rfl⟩
        go_wp2_with fail
        go_ret2
        exact ⟨rfl, h2'.drewN nq2, ⟨hg2.os, hg2.tape, hg2.output, hg2.size, hg2.block⟩⟩
end BitW
end Go.Proofs.Ytedoeplhjmkllaa
