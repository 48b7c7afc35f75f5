/- The walk of SameInts: are two lists the same? -/
import Derived.Test.YtdfclgpkhfpkhaaMem
namespace Go.Proofs.Ytdfclgpkhfpkhaa
set_option linter.unusedVariables false
set_option linter.unusedSimpArgs false
set_option linter.unnecessarySimpa false
open Go.RowKit

theorem take_eq_snoc {α : Type} (l m : List α) (k : Nat) (h1 : k < l.length) (h2 : k < m.length) (h : l.take k = m.take k) (he : l[k] = m[k]) : l.take (k + 1) = m.take (k + 1) := by
  rw [List.take_succ_eq_append_getElem h1, List.take_succ_eq_append_getElem h2, h, he]

set_option maxHeartbeats 1000000 in
theorem same_any (A1 A2 : Option Addr) (n1 c1 n2 c2 : Nat) (l m : List Int) (w : World) (h1 : Rd w w.heap.size 1 A1 n1 (ints l)) (h2 : Rd w w.heap.size 1 A2 n2 (ints m)) (hn : n1 ≤ 9223372036854775807) (hn2 : n2 ≤ 9223372036854775807) :
    Calls Try.prog 11 #[.slice A1 n1 c1, .slice A2 n2 c2] w fun e w' => e = .returned (.bool (decide (l = m))) ∧ Below w.heap.size w w' := by
  have hl := rd_len h1
  have hm := rd_len h2
  by_cases hne : n1 = n2
  · subst hne
    have e1 : ((n1 : Int) != (n1 : Int)) = false := by simp
    have hl1 : l.length ≤ n1 := by omega
    have hl2 : n1 ≤ l.length := by omega
    have hm1 : m.length ≤ n1 := by omega
    have hm2 : n1 ≤ m.length := by omega
    clear hl hm
    go_enter Try.func11, Try.ntmps11
    go_wp2_with fail
    go_loopw [5] (fun i wr => ∃ (k nq : Nat), k ≤ n1 ∧ i = .int .i64 k ∧ l.take k = m.take k ∧ wr = w.drewN nq) (fun i _ => n1 - (intOf i).toNat)
    case atStart => exact ⟨0, 0, by omega, rfl, rfl, rfl⟩
    case round =>
      obtain ⟨k, nq, hk, rfl, hsame, rfl⟩ := hrel
      have HS := Lib.hid hsame
      clear hsame
      by_cases hlt : k < n1
      · obtain ⟨b1, o1, rfl, hb1, hc1⟩ := rd_ints h1 (by omega)
        obtain ⟨b2, o2, rfl, hb2, hc2⟩ := rd_ints h2 (by omega)
        have hkl : k < l.length := by omega
        have hkm : k < m.length := by omega
        have d1 : w.cell? ⟨b1, o1 + k, none⟩ = some (.int .i64 l[k]) := hc1 k hkl
        have d2 : w.cell? ⟨b2, o2 + k, none⟩ = some (.int .i64 m[k]) := hc2 k hkm
        have hki : (k : Int) < (n1 : Int) := by omega
        have hk0 : (0 : Int) ≤ (k : Int) := by omega
        have HC1 := Lib.hid hc1
        have HC2 := Lib.hid hc2
        clear hc1 hc2 h1 h2
        by_cases he : l[k] = m[k]
        · have HE := Lib.hid he
          have e2 : (l[k] != m[k]) = false := by simp [he]
          clear he
          go_wp2_with fail
          go_quiet (fail)
          go_wp2
          go_roundw
          case rel => exact ⟨k + 1, _, by omega, by go_num, take_eq_snoc l m k hkl hkm HS.out HE.out, rfl⟩
          case measure => simp [intOf]; omega
        · have e2 : (l[k] != m[k]) = true := by simp [he]
          have HN : Hid (¬ l = m) := by
            intro e
            apply he
            subst e
            rfl
          clear he
          go_wp2_with fail
          go_quiet (fail)
          go_wp2
          go_ret
          exact ⟨ret_bool (by simpa using HN.out), (by first | exact Below.refl _ _ | (repeat (first | exact Below.refl _ _ | assumption | refine Below.drew ?_ | refine Below.drewN_ ?_ _ | refine Below.alloc ?_ (by first | exact Nat.le_refl _ | (simp; done) | (simp; omega) | omega) _ | refine Below.setCell ?_ (by first | exact Nat.le_refl _ | (simp; done) | (simp; omega) | omega) _ | (refine Below.trans ?_ (Below.mono (by assumption) (by first | exact Nat.le_refl _ | (simp; done) | (simp; omega) | omega))))))⟩
      · have hfin : Hid (l = m) := by
          have := HS.out
          rwa [List.take_of_length_le (by omega), List.take_of_length_le (by omega)] at this
        go_wp2
        go_ret
        exact ⟨ret_bool (by simpa using hfin.out), (by first | exact Below.refl _ _ | (repeat (first | exact Below.refl _ _ | assumption | refine Below.drew ?_ | refine Below.drewN_ ?_ _ | refine Below.alloc ?_ (by first | exact Nat.le_refl _ | (simp; done) | (simp; omega) | omega) _ | refine Below.setCell ?_ (by first | exact Nat.le_refl _ | (simp; done) | (simp; omega) | omega) _ | (refine Below.trans ?_ (Below.mono (by assumption) (by first | exact Nat.le_refl _ | (simp; done) | (simp; omega) | omega))))))⟩
  · have e1 : ((n1 : Int) != (n2 : Int)) = true := by simp; omega
    have hd : Hid (¬ l = m) := by intro e; apply hne; rw [← hl, ← hm, e]
    clear hl hm
    go_enter Try.func11, Try.ntmps11
    go_wp2
    go_ret
    exact ⟨ret_bool (by simpa using hd.out), (by first | exact Below.refl _ _ | (repeat (first | exact Below.refl _ _ | assumption | refine Below.drew ?_ | refine Below.drewN_ ?_ _ | refine Below.alloc ?_ (by first | exact Nat.le_refl _ | (simp; done) | (simp; omega) | omega) _ | refine Below.setCell ?_ (by first | exact Nat.le_refl _ | (simp; done) | (simp; omega) | omega) _ | (refine Below.trans ?_ (Below.mono (by assumption) (by first | exact Nat.le_refl _ | (simp; done) | (simp; omega) | omega))))))⟩
end Go.Proofs.Ytdfclgpkhfpkhaa
