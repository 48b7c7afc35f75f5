/- Walks over the reference of package front. -/
import Derived.Test.YtehlgpfkpagaeaaFrontY
namespace Go.Proofs.Ytehlgpfkpagaeaa
set_option linter.unusedVariables false
set_option linter.unusedSimpArgs false
set_option linter.unnecessarySimpa false
open Go.RowKit
namespace FrontW

def asc (k : Nat) : List UInt8 := (List.range k).map UInt8.ofNat
theorem asc_snoc (k : Nat) : asc (k + 1) = asc k ++ [UInt8.ofNat k] := by simp [asc, List.range_succ]
theorem asc_len (k : Nat) : (asc k).length = k := by simp [asc]

set_option maxHeartbeats 1000000 in
theorem rbegun_any (w : World) :
    Calls Try.prog 62 #[] w fun e w' => e = .returned (str init) ∧ Below w.heap.size w w' := by
  go_enter Try.func62, Try.ntmps62
  go_wp2_with fail
  go_loopw [1, 2] (fun v i wr => ∃ (k c : Nat) (A : Option Addr), k ≤ 256 ∧ i = .int .i64 k ∧ v = .slice A k c ∧ Own wr w.heap.size 5 1 A k c (byts (asc k)) ∧ Below w.heap.size w wr)
    (fun _ i _ => 256 - (intOf i).toNat)
  case atStart => exact ⟨0, 0, none, by omega, rfl, rfl, Own.nil _ _ _ _, (by first | exact Below.refl _ _ | (repeat (first | exact Below.refl _ _ | assumption | refine Below.drew ?_ | refine Below.drewN_ ?_ _ | refine Below.alloc ?_ (by first | exact Nat.le_refl _ | (simp; done) | (simp; omega) | omega) _ | refine Below.setCell ?_ (by first | exact Nat.le_refl _ | (simp; done) | (simp; omega) | omega) _ | (refine Below.trans ?_ (Below.mono (by assumption) (by first | exact Nat.le_refl _ | (simp; done) | (simp; omega) | omega))))))⟩
  case round =>
    obtain ⟨k, c, A, hk, rfl, rfl, hown, hbw⟩ := hrel
    by_cases hlt : k < 256
    · have hk1 : (k : Int) < 256 := by omega
      have hw : IntKind.u8.wrap (k : Int) = (k : Int) := IntWalk.u8_in _ (by omega)
      go_wp2_with (at_builtin; refine wp_append El_u8 rfl rfl rfl (hown.alloc _) rfl (Rd.of_blk (m := 1) (cs := [.int .u8 (k : Int)]) (Blk.new wr _ _) rfl) (by simp [Value.oneCell']) (by unfold maxLen; omega) (by omega) (by simp; exact hbw.size |> fun h => by omega) ?_; intro A4 c4 w4 hown4 hg4 hat4)
      go_roundw
      case rel =>
        refine ⟨k + 1, c4, A4, by omega, by go_num, rfl, ?_, ?_⟩
        · rw [asc_snoc]
          have e : byt (UInt8.ofNat k) = .int .u8 (k : Int) := by simp [byt]; omega
          simpa [byts, e] using hown4
        · exact (hbw.alloc hbw.size _).grown hg4 (by simp; have := hbw.size; omega) (fun j hj => by have := hown.blk j hj; omega)
      case measure => simp [intOf]; omega
    · have hd : decide ((k : Int) < 256) = false := by simp; omega
      have HH : Hid (asc k = init) := by show asc k = init; rw [show k = 256 by omega]; rfl
      have hcv := run_bytes_str (P := Try.prog) wr (c := c) Try.underlying80 Try.underlying5 Try.underlying9 hown.rd
      clear hlt hk
      go_wp2
      go_ret
      exact ⟨by rw [← HH.out]; rfl, hbw⟩

theorem ext_str (l : List UInt8) (a b : Nat) : (⟨l.toArray⟩ : ByteArray).extract a b = ⟨((l.drop a).take (b - a)).toArray⟩ := by
  apply ByteArray.ext
  apply Array.toList_inj.1
  simp [ByteArray.data_extract]
theorem app_str (l m : List UInt8) : (⟨l.toArray⟩ : ByteArray) ++ ⟨m.toArray⟩ = ⟨(l ++ m).toArray⟩ := by
  apply ByteArray.ext
  simp

set_option maxHeartbeats 1000000 in
theorem moved_any (r : List UInt8) (i : Nat) (w : World) (hi : i < r.length) (hr : r.length ≤ 1000000) :
    Calls Try.prog 63 #[str r, .int .i64 i] w fun e w' => e = .returned (str (mtf r i)) ∧ Below w.heap.size w w' := by
  have h0 : (0 : Int) ≤ (i : Int) := by omega
  have h1 : (i : Int) ≤ (i : Int) + 1 := by omega
  have h2 : (i : Int) + 1 ≤ (r.length : Int) := by omega
  have h3 : (i : Int) ≤ (r.length : Int) := by omega
  have hw : IntKind.i64.wrap ((i : Int) + 1) = (i : Int) + 1 := IntWalk.i64_in _ (by omega)
  have hw2 : ((i : Int) + 1).toNat = i + 1 := by omega
  go_enter Try.func63, Try.ntmps63
  go_wp2_with fail
  go_quiet (fail)
  go_wp2
  go_ret
  refine ⟨?_, (by first | exact Below.refl _ _ | (repeat (first | exact Below.refl _ _ | assumption | refine Below.drew ?_ | refine Below.drewN_ ?_ _ | refine Below.alloc ?_ (by first | exact Nat.le_refl _ | (simp; done) | (simp; omega) | omega) _ | refine Below.setCell ?_ (by first | exact Nat.le_refl _ | (simp; done) | (simp; omega) | omega) _ | (refine Below.trans ?_ (Below.mono (by assumption) (by first | exact Nat.le_refl _ | (simp; done) | (simp; omega) | omega))))))⟩
  show Ending.returned (.string (((⟨r.toArray⟩ : ByteArray).extract i (i + 1) ++ (⟨r.toArray⟩ : ByteArray).extract 0 i) ++ (⟨r.toArray⟩ : ByteArray).extract (i + 1) r.length)) = _
  rw [ext_str, ext_str, ext_str, app_str, app_str]
  congr 3
  unfold mtf
  have e1 : (r.drop i).take (i + 1 - i) = [r[i]] := by
    rw [show i + 1 - i = 1 by omega, List.drop_eq_getElem_cons hi]; rfl
  have e3 : (r.drop (i + 1)).take (r.length - (i + 1)) = r.drop (i + 1) := List.take_of_length_le (by simp)
  rw [e1, e3]
  simp [List.getD, List.getElem?_eq_getElem hi]

set_option maxHeartbeats 1000000 in
theorem place_any (r : List UInt8) (b : UInt8) (w : World) (hb : b ∈ r) (hr : r.length ≤ 1000000) :
    Calls Try.prog 65 #[str r, byt b] w fun e w' => e = .returned (.int .i64 (r.idxOf b : Nat)) ∧ w = w' := by
  have hil := List.idxOf_lt_length_of_mem hb
  generalize hx : r.idxOf b = x at *
  have HX := Lib.hid hx
  clear hx
  unfold byt
  go_enter Try.func65, Try.ntmps65
  go_wp2_with fail
  go_loop [5] (fun i => ∃ k : Nat, k ≤ x ∧ i = .int .i64 k) (fun i => x - (intOf i).toNat)
  case atStart => exact ⟨0, by omega, rfl⟩
  case round =>
    obtain ⟨k, hk, rfl⟩ := hrel
    have hkl : k < r.length := by omega
    have hki : (k : Int) < (r.length : Int) := by omega
    have hk0 : (0 : Int) ≤ (k : Int) := by omega
    by_cases hlt : k < x
    · have hne : ((((⟨r.toArray⟩ : ByteArray)[k]'(by show k < r.toArray.size; simpa using hkl)).toNat : Int) != (b.toNat : Int)) = true := by
        show (((r[k]).toNat : Int) != (b.toNat : Int)) = true
        rw [bne_iff_ne]
        intro e
        have e2 : r[k] = b := UInt8.toNat_inj.1 (by omega)
        have := List.not_of_lt_findIdx (p := (· == b)) (xs := r) (i := k) (by rw [← HX.out] at hlt; exact hlt)
        simp [e2] at this
      go_wp2
      go_round
      case rel => exact ⟨k + 1, by omega, by go_num⟩
      case measure => simp [intOf]; omega
    · have hkx : k = x := by omega
      have heq : ((((⟨r.toArray⟩ : ByteArray)[k]'(by show k < r.toArray.size; simpa using hkl)).toNat : Int) != (b.toNat : Int)) = false := by
        show (((r[k]).toNat : Int) != (b.toNat : Int)) = false
        have := List.getElem_idxOf (x := b) (xs := r) (by rw [HX.out]; omega)
        simp only [bne_eq_false_iff_eq]
        congr 2
        rw [← this]
        congr 1
        rw [HX.out, hkx]
      have HK := Lib.hid hkx
      clear hkx
      go_wp2
      go_ret
      exact ⟨ret_int (by rw [HK.out]), rfl⟩
end FrontW
end Go.Proofs.Ytehlgpfkpagaeaa
