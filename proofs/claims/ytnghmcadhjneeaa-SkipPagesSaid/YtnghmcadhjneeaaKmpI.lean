/- The walks of package kmp: Find, Has; the reference's. -/
import Derived.Test.YtnghmcadhjneeaaKmpH
namespace Go.Proofs.Ytnghmcadhjneeaa
set_option linter.unusedVariables false
set_option linter.unusedSimpArgs false
set_option linter.unnecessarySimpa false
open Go.RowKit
namespace KmpW

set_option maxRecDepth 100000 in
set_option maxHeartbeats 4000000 in
theorem find_any (s p : List UInt8) (w : World) (hp : p.length ≤ 100000) (hs : s.length ≤ 100000) :
    Calls Try.prog 111 #[str s, str p, .int .i64 0] w fun e w' => ∃ x, e = .returned (.tuple #[.int .i64 x, .bool (kin p s)]) ∧ Below w.heap.size w w' := by
  have hmf : ∀ (fn : Fn) (first cap : Array Value) (w : World), (Instr.makeFunc fn first cap).run Try.prog w = .ok (.func fn first cap) w := fun _ _ _ _ => rfl
  go_enter Try.func111, Try.ntmps111
  go_wp2_with fail
  have b1 := (Blk.new w 3 #[.int .i64 0]).alloc (.cells #[.bool false] 4)
  have b2 := Blk.new (w.alloc (.cells #[.int .i64 0] 3)) 4 #[.bool false]
  rw [World.size_alloc] at b2
  have hb : Below w.heap.size w ((w.alloc (.cells #[.int .i64 0] 3)).alloc (.cells #[.bool false] 4)) := ((Below.refl _ w).alloc (Nat.le_refl _) _).alloc (by simp) _
  refine (each_any s p w.heap.size w.heap.size (w.heap.size + 1) _ b1 b2 (by omega) (Nat.le_refl _) (by omega) hp hs).mono ?_
  rintro e w2 ⟨rfl, ⟨x, k1⟩, k2, hb2⟩
  have c1 := k1.cell_ 0 rfl
  have c2 := k2.cell_ 0 rfl
  have HB := hb.trans hb2
  clear b1 b2 hb hb2 hmf
  go_wp2_with fail
  go_quiet (fail)
  go_wp2
  go_ret2
  exact ⟨x, rfl, Below.drewN_ HB _⟩
theorem at_no (s p : List UInt8) (i : Nat) (w : World) (hp : p.length ≤ 100000) (hs : s.length ≤ 100000) (hi : i ≤ s.length) (h : ¬ i + p.length ≤ s.length) :
    Calls Try.prog 112 #[str s, str p, .int .i64 i] w fun e w' => e = .returned (.bool false) ∧ w = w' := by
  have h1 : ¬ (i : Int) + (p.length : Int) ≤ (s.length : Int) := by omega
  go_enter Try.func112, Try.ntmps112
  go_wp2_with fail
  go_ret
  exact ⟨rfl, rfl⟩
theorem cut_ext (l : List UInt8) (p q : Nat) : (⟨l.toArray⟩ : ByteArray).extract p q = ⟨((l.drop p).take (q - p)).toArray⟩ := by
  apply ByteArray.ext
  rw [ByteArray.data_extract]
  apply Array.ext'
  simp
theorem at_yes (s p : List UInt8) (i : Nat) (w : World) (hp : p.length ≤ 100000) (hs : s.length ≤ 100000) (hi : i ≤ s.length) (h : i + p.length ≤ s.length) :
    Calls Try.prog 112 #[str s, str p, .int .i64 i] w fun e w' => e = .returned (.bool (decide ((s.drop i).take p.length = p))) ∧ w = w' := by
  have h1 : (i : Int) + (p.length : Int) ≤ (s.length : Int) := by omega
  have h0 : (0 : Int) ≤ (i : Int) := by omega
  have h2 : (i : Int) ≤ (i : Int) + (p.length : Int) := by omega
  have hc : ((i : Int) + (p.length : Int)).toNat = i + p.length := by omega
  go_enter Try.func112, Try.ntmps112
  go_wp2_with fail
  go_ret
  refine ⟨?_, rfl⟩
  show Ending.returned (.bool _) = _
  congr 2
  rw [cut_ext, show i + p.length - i = p.length from by omega]
  rw [ByteArray.toList_mk, Bool.eq_iff_iff]
  simp
theorem at_any (s p : List UInt8) (i : Nat) (w : World) (hp : p.length ≤ 100000) (hs : s.length ≤ 100000) (hi : i ≤ s.length) (b : Bool) (hb : decide (i + p.length ≤ s.length ∧ (s.drop i).take p.length = p) = b) :
    Calls Try.prog 112 #[str s, str p, .int .i64 i] w fun e w' => e = .returned (.bool b) ∧ w = w' := by
  by_cases h : i + p.length ≤ s.length
  · have : decide ((s.drop i).take p.length = p) = b := by rw [← hb]; simp [h]
    exact this ▸ at_yes s p i w hp hs hi h
  · have : b = false := by rw [← hb]; simp [h]
    exact this ▸ at_no s p i w hp hs hi h
theorem kin_at (p s : List UInt8) : kin p s = true ↔ ∃ i, i + p.length ≤ s.length ∧ (s.drop i).take p.length = p := (kin_iff p s).trans (in_iff2 p s)

set_option maxRecDepth 100000 in
set_option maxHeartbeats 4000000 in
theorem refFind_any (s p : List UInt8) (w : World) (hp : p.length ≤ 100000) (hs : s.length ≤ 100000) :
    Calls Try.prog 101 #[str s, str p, .int .i64 0] w fun e w' => ∃ x, e = .returned (.tuple #[.int .i64 x, .bool (kin p s)]) ∧ w = w' := by
  go_enter Try.func101, Try.ntmps101
  go_wp2_with fail
  go_loopw [8] (fun iv wr => ∃ k : Nat, iv = .int .i64 k ∧ k ≤ s.length + 1 ∧ (∀ j, j < k → ¬ (j + p.length ≤ s.length ∧ (s.drop j).take p.length = p)) ∧ wr = w) (fun iv _ => s.length + 1 - (intOf iv).toNat)
  case atStart => exact ⟨0, rfl, by omega, by intro j hj; omega, rfl⟩
  case round =>
    obtain ⟨k, rfl, hk, hall, rfl⟩ := hrel
    have HA := Lib.hid hall
    clear hall
    by_cases hlt : k ≤ s.length
    · have hki : (k : Int) ≤ (s.length : Int) := by omega
      by_cases he : k + p.length ≤ s.length ∧ (s.drop k).take p.length = p
      · have hkin : kin p s = true := (kin_at p s).2 ⟨k, he⟩
        have C := at_any s p k wr hp hs hlt true (decide_eq_true he)
        clear he
        go_wp2_with fail
        refine C.mono ?_
        clear C
        rintro e w3 ⟨rfl, rfl⟩
        go_wp2_with fail
        go_ret2
        exact ⟨k, by rw [hkin]; rfl, rfl⟩
      · have C := at_any s p k wr hp hs hlt false (decide_eq_false he)
        have HE := Lib.hid he
        clear he
        go_wp2_with fail
        refine C.mono ?_
        clear C
        rintro e w3 ⟨rfl, rfl⟩
        go_wp2_with fail
        go_roundw
        case rel =>
          refine ⟨k + 1, by go_num, by omega, ?_, by first | rfl | trivial⟩
          intro j hj
          rcases Nat.lt_or_ge j k with h1 | h1
          · exact HA.out j h1
          · obtain rfl : j = k := by omega
            exact HE.out
        case measure => simp [intOf]; omega
    · have hkI : ¬ (k : Int) ≤ (s.length : Int) := by omega
      have hkin : kin p s = false := by
        rw [Bool.eq_false_iff]
        intro h
        obtain ⟨i, h1, h2⟩ := (kin_at p s).1 h
        exact HA.out i (by omega) ⟨h1, h2⟩
      go_wp2_with fail
      go_ret2
      first | exact ⟨0, by rw [hkin]; rfl, rfl⟩ | exact ⟨⟨0, by rw [hkin]; rfl⟩, rfl⟩ | exact ⟨⟨0, rfl⟩, rfl⟩
theorem has_any (s p : List UInt8) (w : World) (hp : p.length ≤ 100000) (hs : s.length ≤ 100000) :
    Calls Try.prog 100 #[str s, str p] w fun e w' => e = .returned (.bool (kin p s)) ∧ Below w.heap.size w w' := by
  go_enter Try.func100, Try.ntmps100
  go_wp2_with fail
  refine (find_any s p w hp hs).mono ?_
  rintro e w2 ⟨x, rfl, hb⟩
  go_wp2_with fail
  go_ret
  exact ⟨rfl, hb⟩
theorem refHas_any (s p : List UInt8) (w : World) (hp : p.length ≤ 100000) (hs : s.length ≤ 100000) :
    Calls Try.prog 72 #[str s, str p] w fun e w' => e = .returned (.bool (kin p s)) ∧ w = w' := by
  go_enter Try.func72, Try.ntmps72
  go_wp2_with fail
  refine (refFind_any s p w hp hs).mono ?_
  rintro e w2 ⟨x, rfl, rfl⟩
  go_wp2_with fail
  go_ret
  exact ⟨rfl, rfl⟩
end KmpW
end Go.Proofs.Ytnghmcadhjneeaa
