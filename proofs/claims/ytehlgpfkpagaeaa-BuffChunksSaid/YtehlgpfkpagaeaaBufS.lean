/- Walks over package buff's reference: are two rows of parts the same. -/
import Derived.Test.YtehlgpfkpagaeaaBufC
namespace Go.Proofs.Ytehlgpfkpagaeaa
set_option linter.unusedVariables false
set_option linter.unusedSimpArgs false
set_option linter.unnecessarySimpa false
open Go.RowKit
namespace RecW

set_option maxHeartbeats 2000000 in
theorem sameRR_any (A1 A2 : Option Addr) (n1 c1 n2 c2 : Nat) (l m : List (List Rc)) (w : World) (h1 : RdRows rcells 50 3 w w.heap.size A1 n1 l) (h2 : RdRows rcells 50 3 w w.heap.size A2 n2 m) (hn : n1 ≤ 9223372036854775807) (hn2 : n2 ≤ 9223372036854775807) :
    Calls Try.prog 47 #[.slice A1 n1 c1, .slice A2 n2 c2] w fun e w' => e = .returned (.bool (decide (l = m))) ∧ Below w.heap.size w w' := by
  have hl := h1.len
  have hm := h2.len
  by_cases hne : n1 = n2
  · subst hne
    have e1 : ((n1 : Int) != (n1 : Int)) = false := by simp
    have hl1 : l.length ≤ n1 := by omega
    have hl2 : n1 ≤ l.length := by omega
    have hm1 : m.length ≤ n1 := by omega
    have hm2 : n1 ≤ m.length := by omega
    clear hl hm
    go_enter Try.func47, Try.ntmps47
    go_wp2_with fail
    go_loopw [5] (fun i wr => ∃ (k : Nat), k ≤ n1 ∧ i = .int .i64 k ∧ l.take k = m.take k ∧ Below w.heap.size w wr) (fun i _ => n1 - (intOf i).toNat)
    case atStart => exact ⟨0, by omega, rfl, rfl, (by first | exact Below.refl _ _ | (repeat (first | exact Below.refl _ _ | assumption | refine Below.drew ?_ | refine Below.drewN_ ?_ _ | refine Below.alloc ?_ (by first | exact Nat.le_refl _ | (simp; done) | (simp; omega) | omega) _ | refine Below.setCell ?_ (by first | exact Nat.le_refl _ | (simp; done) | (simp; omega) | omega) _ | (refine Below.trans ?_ (Below.mono (by assumption) (by first | exact Nat.le_refl _ | (simp; done) | (simp; omega) | omega))))))⟩
    case round =>
      obtain ⟨k, hk, rfl, hsame, hbw⟩ := hrel
      have HS := Lib.hid hsame
      clear hsame
      by_cases hlt : k < n1
      · obtain ⟨b1, o1, rfl, hb1, hc1⟩ := (h1.below hbw).at_ (by omega)
        obtain ⟨b2, o2, rfl, hb2, hc2⟩ := (h2.below hbw).at_ (by omega)
        have hkl : k < l.length := by omega
        have hkm : k < m.length := by omega
        obtain ⟨X1, y1, z1, d1, i1, j1, r1⟩ := hc1 k hkl
        obtain ⟨X2, y2, z2, d2, i2, j2, r2⟩ := hc2 k hkm
        have hki : (k : Int) < (n1 : Int) := by omega
        have hk0 : (0 : Int) ≤ (k : Int) := by omega
        unfold maxLen at j1 j2
        clear hc1 hc2 h1 h2
        by_cases he : l[k] = m[k]
        · have HE := Lib.hid he
          have C := fun n => sameQ_any X1 X2 y1 z1 y2 z2 l[k] m[k] (wr.drewN n) ((r1.more hbw.size).below ((Below.refl _ _).drewN_ n)) ((r2.more hbw.size).below ((Below.refl _ _).drewN_ n)) (by omega) (by omega)
          rw [show decide (l[k] = m[k]) = true by simpa using he] at C
          have HC := Lib.hid C
          clear C he
          go_wp2_with fail
          go_quiet ((go_at_call 46; exact Calls.quiet_of (HC.out _)))
          go_wp2
          go_roundw
          case rel => exact ⟨k + 1, by omega, by go_num, take_same l m k hkl hkm HS.out HE.out, hbw.drewN_ _⟩
          case measure => simp [intOf]; omega
        · have HN : Hid (¬ l = m) := by
            intro e
            apply he
            subst e
            rfl
          have C := fun n => sameQ_any X1 X2 y1 z1 y2 z2 l[k] m[k] (wr.drewN n) ((r1.more hbw.size).below ((Below.refl _ _).drewN_ n)) ((r2.more hbw.size).below ((Below.refl _ _).drewN_ n)) (by omega) (by omega)
          rw [show decide (l[k] = m[k]) = false by simpa using he] at C
          have HC := Lib.hid C
          clear C he
          go_wp2_with fail
          go_quiet ((go_at_call 46; exact Calls.quiet_of (HC.out _)))
          go_wp2
          go_ret
          exact ⟨ret_bool (by simpa using HN.out), hbw.drewN_ _⟩
      · have hfin : Hid (l = m) := by
          have := HS.out
          rwa [List.take_of_length_le (by omega), List.take_of_length_le (by omega)] at this
        go_wp2
        go_ret
        exact ⟨ret_bool (by simpa using hfin.out), hbw⟩
  · have e1 : ((n1 : Int) != (n2 : Int)) = true := by simp; omega
    have hd : Hid (¬ l = m) := by intro e; apply hne; rw [← hl, ← hm, e]
    clear hl hm
    go_enter Try.func47, Try.ntmps47
    go_wp2
    go_ret
    exact ⟨ret_bool (by simpa using hd.out), (by first | exact Below.refl _ _ | (repeat (first | exact Below.refl _ _ | assumption | refine Below.drew ?_ | refine Below.drewN_ ?_ _ | refine Below.alloc ?_ (by first | exact Nat.le_refl _ | (simp; done) | (simp; omega) | omega) _ | refine Below.setCell ?_ (by first | exact Nat.le_refl _ | (simp; done) | (simp; omega) | omega) _ | (refine Below.trans ?_ (Below.mono (by assumption) (by first | exact Nat.le_refl _ | (simp; done) | (simp; omega) | omega))))))⟩
end RecW
end Go.Proofs.Ytehlgpfkpagaeaa
