/- Walks: are two rows of what was taken the same; are wants few. -/
import Derived.Test.YtjdmbpkabeaccaaTakH
import Derived.BigQuiet
namespace Go.Proofs.Ytjdmbpkabeaccaa
set_option linter.unusedVariables false
set_option linter.unusedSimpArgs false
set_option linter.unnecessarySimpa false
open Go.RowKit
namespace TakW

theorem few_any (A : Option Addr) (n c : Nat) (b : Bool) (w : World) (hb : decide (n ≤ 200) = b) :
    Calls Try.prog 31 #[.slice A n c] w fun e w' => e = .returned (.bool b) ∧ w = w' := by
  go_enter Try.func31, Try.ntmps31
  go_wp2_with fail
  go_ret
  refine ⟨?_, rfl⟩
  subst hb
  first | rfl | (refine ret_bool ?_; first | rfl | (rw [decide_eq_decide]; omega) | simp)

set_option maxRecDepth 100000 in
set_option maxHeartbeats 1000000 in
theorem same_any (A1 A2 : Option Addr) (n1 c1 n2 c2 : Nat) (l m : List (Int × List UInt8)) (w : World) (h1 : Rd w w.heap.size 2 A1 n1 (gcells l)) (h2 : Rd w w.heap.size 2 A2 n2 (gcells m)) (hn : n1 ≤ 9223372036854775807) (hn2 : n2 ≤ 9223372036854775807) :
    Calls Try.prog 35 #[.slice A1 n1 c1, .slice A2 n2 c2] w fun e w' => e = .returned (.bool (decide (l = m))) ∧ ∃ nq, w' = w.drewN nq := by
  have hl := rd_glen h1
  have hm := rd_glen h2
  by_cases hne : n1 = n2
  · subst hne
    have e1 : ((n1 : Int) != (n1 : Int)) = false := by simp
    have hl1 : l.length ≤ n1 := by omega
    have hl2 : n1 ≤ l.length := by omega
    have hm1 : m.length ≤ n1 := by omega
    have hm2 : n1 ≤ m.length := by omega
    clear hl hm
    go_enter Try.func35, Try.ntmps35
    go_wp2_with fail
    go_loopw [5] (fun i wr => ∃ (k nq : Nat), k ≤ n1 ∧ i = .int .i64 k ∧ l.take k = m.take k ∧ wr = w.drewN nq) (fun i _ => n1 - (intOf i).toNat)
    case atStart => exact ⟨0, 0, by omega, rfl, rfl, rfl⟩
    case round =>
      obtain ⟨k, nq, hk, rfl, hsame, rfl⟩ := hrel
      have HS := Lib.hid hsame
      clear hsame
      by_cases hlt : k < n1
      · obtain ⟨b1, o1, rfl, hb1, hc1⟩ := rd_gcells h1 (by omega)
        obtain ⟨b2, o2, rfl, hb2, hc2⟩ := rd_gcells h2 (by omega)
        have hkl : k < l.length := by omega
        have hkm : k < m.length := by omega
        obtain ⟨d0, d1⟩ := hc1 k hkl
        obtain ⟨f0, f1⟩ := hc2 k hkm
        have hki : (k : Int) < (n1 : Int) := by omega
        have hk0 : (0 : Int) ≤ (k : Int) := by omega
        clear hc1 hc2 h1 h2
        by_cases he : l[k] = m[k]
        · have HE := Lib.hid he
          have q0 : (l[k].1 != m[k].1) = false := by simp [he]
          have q2 : l[k].2 = m[k].2 := by simp [he]
          rw [← q2] at f1
          clear he q2
          go_wp2_with fail
          go_quiet (fail)
          go_wp2
          go_roundw
          case rel => exact ⟨k + 1, _, by omega, by go_num, take_same l m k hkl hkm HS.out HE.out, rfl⟩
          case measure => simp [intOf]; omega
        · have HN : Hid (¬ l = m) := by
            intro e
            apply he
            subst e
            rfl
          by_cases h0 : l[k].1 = m[k].1
          · have q0 : (l[k].1 != m[k].1) = false := by simp [h0]
            have q2 : (l[k].2 == m[k].2) = false := by
              rw [beq_eq_false_iff_ne]
              exact fun e => he (Prod.ext h0 e)
            clear he h0
            go_wp2_with fail
            go_quiet (fail)
            go_wp2
            go_ret
            exact ⟨ret_bool (by simpa using HN.out), _, by first | rfl | exact World.drewN_drewN _ _ _⟩
          · have q0 : (l[k].1 != m[k].1) = true := by simp [h0]
            clear he h0
            go_wp2_with fail
            go_quiet (fail)
            go_wp2
            go_ret
            exact ⟨ret_bool (by simpa using HN.out), _, by first | rfl | exact World.drewN_drewN _ _ _⟩
      · have hfin : Hid (l = m) := by
          have := HS.out
          rwa [List.take_of_length_le (by omega), List.take_of_length_le (by omega)] at this
        go_wp2
        go_ret
        exact ⟨ret_bool (by simpa using hfin.out), _, rfl⟩
  · have e1 : ((n1 : Int) != (n2 : Int)) = true := by simp; omega
    have hd : Hid (¬ l = m) := by intro e; apply hne; rw [← hl, ← hm, e]
    clear hl hm
    go_enter Try.func35, Try.ntmps35
    go_wp2
    go_ret
    exact ⟨ret_bool (by simpa using hd.out), 0, rfl⟩
end TakW
end Go.Proofs.Ytjdmbpkabeaccaa
