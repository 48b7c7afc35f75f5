/- The walks of package lens and its reference: may lengths be? -/
import Derived.Test.YtpnccehaomikbaaCanQ
namespace Go.Proofs.Ytpnccehaomikbaa
set_option linter.unusedVariables false
set_option linter.unusedSimpArgs false
set_option linter.unnecessarySimpa false
open Go.RowKit
namespace LenW

set_option maxRecDepth 100000 in
set_option maxHeartbeats 2000000 in
theorem used_any (A : Option Addr) (n c : Nat) (l : List Int) (w : World) (h : Rd w w.heap.size 1 A n (ints l)) (hn : n ≤ 1000000) (v : Nat) (hv : usedL l = v) :
    Calls Try.prog 13 #[.slice A n c] w fun e w' => e = .returned (.int .i64 v) ∧ w' = w := by
  have hl : l.length = n := rd_len h
  have hl1 : l.length ≤ n := by omega
  have hl2 : n ≤ l.length := by omega
  have HV := Lib.hid hv
  clear hl hv
  go_enter Try.func13, Try.ntmps13
  go_wp2_with fail
  go_loopw [3, 8] (fun u i wr => ∃ k : Nat, i = .int .i64 k ∧ k ≤ n ∧ u = .int .i64 (usedL (l.take k)) ∧ wr = w) (fun _ i _ => n - (intOf i).toNat)
  case atStart => exact ⟨0, rfl, by omega, by simp [usedL], rfl⟩
  case round =>
    obtain ⟨k, rfl, hk, rfl, rfl⟩ := hrel
    have hki0 : (0 : Int) ≤ (k : Int) := by omega
    by_cases hlt : k < n
    · have hkl : k < l.length := by omega
      obtain ⟨b, o, rfl, hb, hc⟩ := rd_ints h (by omega)
      have d0 : wr.cell? ⟨b, o + k, none⟩ = some (.int .i64 l[k]) := hc k hkl
      have hs := usedL_snoc l k hkl
      have hle := usedL_le (l.take k)
      rw [List.length_take] at hle
      have hle : usedL (l.take k) ≤ 1000000 := by omega
      have HS := Lib.hid hs
      generalize usedL (l.take k) = u at *
      generalize hx : l[k] = x at *
      have hki : (k : Int) < (n : Int) := by omega
      have hw1 : wrap64 ((k : Int) + 1) = (k : Int) + 1 := (w64 (by omega) (by omega)).trans (by omega)
      have hw2 : wrap64 ((u : Int) + 1) = (u : Int) + 1 := (w64 (by omega) (by omega)).trans (by omega)
      clear hc hs hx
      by_cases hp : 0 < x
      · go_wp2_with fail
        go_roundw
        case rel => exact ⟨k + 1, by go_num, by omega, by rw [HS.out, if_pos hp]; go_num, trivial⟩
        case measure => simp [intOf]; omega
      · go_wp2_with fail
        go_roundw
        case rel => exact ⟨k + 1, by go_num, by omega, by rw [HS.out, if_neg hp]; rfl, trivial⟩
        case measure => simp [intOf]; omega
    · have hz := Lib.hid (show l.take k = l from List.take_of_length_le (by omega))
      rw [hz.out, HV.out]
      go_wp2_with fail
      go_ret
      exact ⟨rfl, rfl⟩
set_option maxRecDepth 100000 in
set_option maxHeartbeats 2000000 in
theorem refUsed_any (A : Option Addr) (n c : Nat) (l : List Int) (w : World) (h : Rd w w.heap.size 1 A n (ints l)) (hn : n ≤ 1000000) (v : Nat) (hv : usedL l = v) :
    Calls Try.prog 14 #[.slice A n c] w fun e w' => e = .returned (.int .i64 v) ∧ w' = w := by
  have hl : l.length = n := rd_len h
  have hl1 : l.length ≤ n := by omega
  have hl2 : n ≤ l.length := by omega
  have HV := Lib.hid hv
  clear hl hv
  go_enter Try.func14, Try.ntmps14
  go_wp2_with fail
  go_loopw [3, 4] (fun u i wr => ∃ k : Nat, i = .int .i64 k ∧ k ≤ n ∧ u = .int .i64 (usedL (l.take k)) ∧ wr = w) (fun _ i _ => n - (intOf i).toNat)
  case atStart => exact ⟨0, rfl, by omega, by simp [usedL], rfl⟩
  case round =>
    obtain ⟨k, rfl, hk, rfl, rfl⟩ := hrel
    have hki0 : (0 : Int) ≤ (k : Int) := by omega
    by_cases hlt : k < n
    · have hkl : k < l.length := by omega
      obtain ⟨b, o, rfl, hb, hc⟩ := rd_ints h (by omega)
      have d0 : wr.cell? ⟨b, o + k, none⟩ = some (.int .i64 l[k]) := hc k hkl
      have hs := usedL_snoc l k hkl
      have hle := usedL_le (l.take k)
      rw [List.length_take] at hle
      have hle : usedL (l.take k) ≤ 1000000 := by omega
      have HS := Lib.hid hs
      generalize usedL (l.take k) = u at *
      generalize hx : l[k] = x at *
      have hki : (k : Int) < (n : Int) := by omega
      have hw1 : wrap64 ((k : Int) + 1) = (k : Int) + 1 := (w64 (by omega) (by omega)).trans (by omega)
      have hw2 : wrap64 ((u : Int) + 1) = (u : Int) + 1 := (w64 (by omega) (by omega)).trans (by omega)
      clear hc hs hx
      by_cases hp : 0 < x
      · go_wp2_with fail
        go_roundw
        case rel => exact ⟨k + 1, by go_num, by omega, by rw [HS.out, if_pos hp]; go_num, trivial⟩
        case measure => simp [intOf]; omega
      · go_wp2_with fail
        go_roundw
        case rel => exact ⟨k + 1, by go_num, by omega, by rw [HS.out, if_neg hp]; rfl, trivial⟩
        case measure => simp [intOf]; omega
    · have hz := Lib.hid (show l.take k = l from List.take_of_length_le (by omega))
      rw [hz.out, HV.out]
      go_wp2_with fail
      go_ret
      exact ⟨rfl, rfl⟩
end LenW
end Go.Proofs.Ytpnccehaomikbaa
