/- The walks of package want and its reference: two numbers, parted by a -, as the reference reads them; how they are written. -/
import Derived.Test.YtjcbaaabbdcdnaaDoorWanJ
namespace Go.Proofs.YtjcbaaabbdcdnaaDoor
set_option linter.unusedVariables false
set_option linter.unusedSimpArgs false
set_option linter.unnecessarySimpa false
open Go.RowKit
namespace WanW

theorem ext_str (l : List UInt8) (a b : Nat) : (⟨l.toArray⟩ : ByteArray).extract a b = ⟨((l.drop a).take (b - a)).toArray⟩ := by
  apply ByteArray.ext
  simp [ByteArray.extract, ByteArray.copySlice]
theorem bef_at (c : UInt8) (s : List UInt8) (k : Nat) (hk : k < s.length) (h0 : ∀ j (h : j < k), s[j] ≠ c) (h : s[k] = c) : bef c s = s.take k ∧ aft c s = s.drop (k + 1) ∧ s.contains c = true := by
  induction s generalizing k with
  | nil => simp at hk
  | cons b s ih =>
    cases k with
    | zero =>
      have : b = c := by simpa using h
      subst this
      simp [bef, aft]
    | succ k =>
      have hb : b ≠ c := by simpa using h0 0 (by omega)
      have h2 : (b != c) = true := by simp; exact hb
      obtain ⟨i1, i2, i3⟩ := ih k (by simpa using hk) (fun j hj => by simpa using h0 (j + 1) (by omega)) (by simpa using h)
      refine ⟨?_, ?_, ?_⟩
      · rw [bef, List.takeWhile_cons, h2]; simp only [if_true, List.take_succ_cons]; rw [← i1]; rfl
      · rw [aft, List.dropWhile_cons, h2]; simp only [if_true, List.drop_succ_cons]; rw [← i2]; rfl
      · simp [List.contains_cons, i3]; right; simpa using i3
theorem no_contains (c : UInt8) (s : List UInt8) (h : ∀ j (h : j < s.length), s[j] ≠ c) : s.contains c = false := by
  rw [Bool.eq_false_iff]
  intro hh
  obtain ⟨j, hj, e⟩ := List.getElem_of_mem (List.contains_iff_mem.1 hh)
  exact h j hj e
set_option maxRecDepth 100000 in
set_option maxHeartbeats 4000000 in
theorem two_any (s : List UInt8) (w : World) (hs : s.length ≤ 10000) (b : Bool) (hb : ok2 s = b) : Calls Tryd.prog 34 #[str s] w fun e w' => ∃ lo hi, e = .returned (.tuple #[.agg #[.int .i64 lo, .int .i64 hi], .bool b]) ∧ (b = true → lo = lo2 s ∧ hi = hi2 s) ∧ Below w.heap.size w w' := by
  have HOK := Lib.hid hb
  clear hb
  obtain ⟨S, hS⟩ : ∃ S : ByteArray, (⟨s.toArray⟩ : ByteArray) = S := ⟨_, rfl⟩
  have HS := Lib.hid hS
  have hsz : S.size = s.length := by rw [← hS]; simp [ByteArray.size]
  have HB := (Below.refl w.heap.size w).alloc (Nat.le_refl _) (.cells #[.int .i64 0, .int .i64 0] 24)
  have hg := Blk.new w 24 #[.int .i64 0, .int .i64 0]
  obtain ⟨w0, hw0⟩ : ∃ w0, w.alloc (.cells #[.int .i64 0, .int .i64 0] 24) = w0 := ⟨_, rfl⟩
  rw [hw0] at HB hg
  have hsz0 := HB.size
  have hlt0 := hg.lt
  go_enter Tryd.func34, Tryd.ntmps34
  go_wp2_with fail
  go_loopw [4] (fun o4 wr => ∃ i : Nat, o4 = .int .i64 (i : Int) ∧ i ≤ s.length ∧ (∀ j (h : j < s.length), j < i → s[j] ≠ 45) ∧ wr = w0) (fun o4 _ => s.length - (intOf o4).toNat)
  case atStart => exact ⟨0, rfl, by omega, fun j _ h => absurd h (by omega), rfl⟩
  case round =>
    obtain ⟨i, rfl, hi, hno, hwr⟩ := hrel
    subst wr
    clear hw0
    have HNO := Lib.hid hno
    clear hno
    by_cases hlt : i < s.length
    · have hiI : (i : Int) < (s.length : Int) := by omega
      have hi0 : (0 : Int) ≤ (i : Int) := by omega
      have hkS : i < S.size := by rw [hsz]; exact hlt
      have hadd1 : IntKind.i64.wrap ((i : Int) + 1) = (i : Int) + 1 := w64k (by omega) (by omega)
      obtain ⟨x, hx⟩ : ∃ x, S[i] = x := ⟨_, rfl⟩
      have hx2 : s[i] = x := by
        rw [← hx]
        subst hS
        rfl
      obtain ⟨m, hm⟩ : ∃ m : Nat, x.toNat = m := ⟨_, rfl⟩
      have HX2 := Lib.hid hx2
      clear hx2
      by_cases q : m = 45
      · have q1 : ((m : Int) == 45) = true := by simp; omega
        have hx45 : x = 45 := UInt8.toNat_inj.1 (by rw [hm, q]; rfl)
        obtain ⟨hb1, hb2, hb3⟩ := bef_at 45 s i hlt (fun j hj => HNO.out j (by omega) hj) (by rw [HX2.out, hx45])
        have e1 : S.extract 0 i = ⟨(bef 45 s).toArray⟩ := by rw [← hS, ext_str, hb1]; simp
        have e2 : S.extract (i + 1) s.length = ⟨(aft 45 s).toArray⟩ := by rw [← hS, ext_str, hb2, List.take_of_length_le (by simp)]
        have hok := HOK.out
        unfold ok2 at hok
        rw [hb3] at hok
        have hl1 := bef_le 45 s
        have hl2 := aft_le 45 s
        have hLO : lo2 s = (numV (bef 45 s)).1 := rfl
        have hHI : hi2 s = (numV (aft 45 s)).1 := rfl
        clear hb1 hb2 hb3 hx45
        obtain ⟨y, hy⟩ : ∃ y, bef 45 s = y := ⟨_, rfl⟩
        obtain ⟨z, hz⟩ : ∃ z, aft 45 s = z := ⟨_, rfl⟩
        rw [hy] at e1 hok hl1 hLO
        rw [hz] at e2 hok hl2 hHI
        obtain ⟨⟨n1, b1⟩, f1⟩ : ∃ p, numV y = p := ⟨_, rfl⟩
        obtain ⟨⟨n2, b2⟩, f2⟩ : ∃ p, numV z = p := ⟨_, rfl⟩
        rw [f1, f2] at hok
        rw [f1] at hLO
        rw [f2] at hHI
        dsimp only at hok hLO hHI
        have HLO := Lib.hid hLO
        have HHI := Lib.hid hHI
        have C1 := fun w => refNumber_any y w n1 b1 f1 (by omega)
        have C2 := fun w => refNumber_any z w n2 b2 f2 (by omega)
        have HC1 := Lib.hid C1
        have HC2 := Lib.hid C2
        clear C1 C2 f1 f2 hy hz hLO hHI
        subst hok
        obtain ⟨c0, c1, g0, g1, z0⟩ := blk2 hg
        cases b1
        all_goals
          go_wp2_with fail
          refine (HC1.out _).mono ?_
          rintro e w1 ⟨rfl, hq⟩
          subst w1
          go_wp2_with fail
          refine (HC2.out _).mono ?_
          rintro e w1 ⟨rfl, hq⟩
          subst w1
          go_wp2_with fail
          try rw [Exit.noGoto_ret]
          refine bodyPost_ret (results_rowA rfl _ _ w.heap.size #[.int .i64 n1, .int .i64 n2] _ rfl ((hg.set 0 (.int .i64 n1)).set 1 (.int .i64 n2)) Tryd.underlying24 rfl (by kernel_rfl)) rfl ?_
          exact ⟨n1, n2, rfl, fun _ => ⟨HLO.out.symm, HHI.out.symm⟩, (HB.setCell (p := ⟨w.heap.size, 0, none⟩) (Nat.le_refl _) _).setCell (p := ⟨w.heap.size, 1, none⟩) (Nat.le_refl _) _⟩
      · have q1 : ((m : Int) == 45) = false := by simp; omega
        go_wp2_with fail
        go_roundw
        case rel => exact ⟨i + 1, by go_num, by omega, fun j h hj => by
          by_cases hji : j = i
          · subst hji
            rw [HX2.out]
            intro e
            rw [e] at hm
            exact q hm.symm
          · exact HNO.out j h (by omega), by trivial⟩
        case measure => simp [intOf]; omega
    · have hiI : ¬ (i : Int) < (s.length : Int) := by omega
      have hok := HOK.out
      unfold ok2 at hok
      rw [no_contains 45 s (fun j hj => HNO.out j hj (by omega)), Bool.false_and] at hok
      subst hok
      obtain ⟨c0, c1, g0, g1, z0⟩ := blk2 hg
      go_wp2_with fail
      try rw [Exit.noGoto_ret]
      refine bodyPost_ret (results_rowA rfl _ _ w.heap.size #[.int .i64 0, .int .i64 0] _ rfl ((hg.set 0 (.int .i64 0)).set 1 (.int .i64 0)) Tryd.underlying24 rfl (by kernel_rfl)) rfl ?_
      have HBE := (HB.setCell (p := ⟨w.heap.size, 0, none⟩) (Nat.le_refl _) (.int .i64 0)).setCell (p := ⟨w.heap.size, 1, none⟩) (Nat.le_refl _) (.int .i64 0)
      first
        | exact ⟨0, 0, rfl, fun h => absurd h (by decide), HBE⟩
        | exact ⟨⟨0, 0, rfl⟩, HBE⟩
end WanW
end Go.Proofs.YtjcbaaabbdcdnaaDoor
