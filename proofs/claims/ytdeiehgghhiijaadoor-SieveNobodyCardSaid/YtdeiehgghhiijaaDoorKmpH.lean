/- The walks of package kmp: is it there? -/
import Derived.Test.YtdeiehgghhiijaaDoorKmpF
import Derived.Laws.EntriesVeiled
namespace Go.Proofs.YtdeiehgghhiijaaDoor
set_option linter.unusedVariables false
set_option linter.unusedSimpArgs false
set_option linter.unnecessarySimpa false
open Go.RowKit
namespace KmpW

def kin (p s : List UInt8) : Bool := (List.range (s.length + 1)).any fun i => M p (s.take i) == p.length
theorem kin_yes {p s : List UInt8} {i : Nat} (h : i ≤ s.length) (he : M p (s.take i) = p.length) : kin p s = true := by
  unfold kin
  rw [List.any_eq_true]
  exact ⟨i, List.mem_range.2 (by omega), by simp [he]⟩
theorem kin_no {p s : List UInt8} (h : ∀ i, i ≤ s.length → ¬ M p (s.take i) = p.length) : kin p s = false := by
  unfold kin
  rw [List.any_eq_false]
  intro i hi
  have := h i (by have := List.mem_range.1 hi; omega)
  simpa using this
theorem kin_iff (p s : List UInt8) : kin p s = true ↔ p <:+: s := by
  rw [in_iff]
  unfold kin
  rw [List.any_eq_true]
  constructor
  · rintro ⟨i, hi, he⟩; exact ⟨i, by have := List.mem_range.1 hi; omega, by simpa using he⟩
  · rintro ⟨i, hi, he⟩; exact ⟨i, List.mem_range.2 (by omega), by simpa using he⟩
abbrev moreF (g1 g2 : Nat) : Value := .func (.func 112) #[] #[.pointer (some ⟨g1, 0, none⟩), .pointer (some ⟨g2, 0, none⟩)]
theorem find1_any (B g1 g2 : Nat) (i x : Int) (y : Bool) (w : World) (h1 : Blk w g1 3 #[.int .i64 x]) (h2 : Blk w g2 4 #[.bool y]) (hne : g1 ≠ g2) (hB1 : B ≤ g1) (hB2 : B ≤ g2) (hBw : B ≤ w.heap.size) :
    Calls Tryd.prog 112 #[.int .i64 i, .pointer (some ⟨g1, 0, none⟩), .pointer (some ⟨g2, 0, none⟩)] w fun e w' => e = .returned (.bool false) ∧ Blk w' g1 3 #[.int .i64 i] ∧ Blk w' g2 4 #[.bool true] ∧ Below B w w' := by
  have c1 := h1.cell_ 0 rfl
  have f1 := h1.frozen 0
  have h2' := h2.far (p := ⟨g1, 0, none⟩) (fun e => hne e.symm) (.int .i64 i)
  have c2 := h2'.cell_ 0 rfl
  have f2 := h2'.frozen 0
  have h1' := (h1.set 0 (.int .i64 i)).far (p := ⟨g2, 0, none⟩) hne (.bool true)
  have h2'' := h2'.set 0 (.bool true)
  have hb : Below B w ((w.setCell ⟨g1, 0, none⟩ (.int .i64 i)).setCell ⟨g2, 0, none⟩ (.bool true)) := ((Below.refl B w).setCell (p := ⟨g1, 0, none⟩) hB1 _).setCell (p := ⟨g2, 0, none⟩) hB2 _
  go_enter Tryd.func112, Tryd.ntmps112
  go_wp2_with fail
  go_ret
  exact ⟨rfl, h1', h2'', hb⟩

set_option maxRecDepth 100000 in
set_option maxHeartbeats 4000000 in
theorem each_any (s p : List UInt8) (B g1 g2 : Nat) (w : World) (h1 : Blk w g1 3 #[.int .i64 0]) (h2 : Blk w g2 4 #[.bool false]) (hne : g1 ≠ g2) (hB1 : B ≤ g1) (hB2 : B ≤ g2) (hp : p.length ≤ 100000) (hs : s.length ≤ 100000) :
    Calls Tryd.prog 111 #[str s, str p, .int .i64 0, moreF g1 g2] w fun e w' => e = .returned (.tuple #[]) ∧ (∃ x, Blk w' g1 3 #[.int .i64 x]) ∧ Blk w' g2 4 #[.bool (kin p s)] ∧ Below B w w' := by
  have hBw : B ≤ w.heap.size := Nat.le_trans hB1 (Nat.le_of_lt h1.lt)
  have hg1 := h1.lt
  have hg2 := h2.lt
  have hs0 : ¬ (s.length : Int) < 0 := by omega
  have CF := fail_any p w hp p.length rfl
  by_cases hnil : p = []
  · subst hnil
    have hk : kin [] s = true := kin_yes (i := 0) (by omega) (by rw [List.take_zero, M_nil]; rfl)
    go_enter Tryd.func111, Tryd.ntmps111
    go_wp2_with fail
    refine CF.mono ?_
    rintro e w2 ⟨rfl, bF, hb2⟩
    go_wp2_with fail
    refine (find1_any B g1 g2 0 0 false w2 (h1.below hb2 hg1) (h2.below hb2 hg2) hne hB1 hB2 (Nat.le_trans hBw hb2.size)).mono ?_
    rintro e w3 ⟨rfl, k1, k2, hb3⟩
    go_wp2_with fail
    refine bodyPost_ret (results_none rfl _ _ _) rfl ?_
    exact ⟨rfl, ⟨0, k1⟩, by rw [hk]; exact k2, (hb2.mono hBw).trans hb3⟩
  · have hpl : 0 < p.length := List.length_pos_iff.2 hnil
    have HK0 : Hid (¬ M p (s.take 0) = p.length) := Lib.hid (by rw [List.take_zero, M_nil]; omega)
    have hM0 : M p (s.take 0) = 0 := by rw [List.take_zero, M_nil]
    have hne2 : ¬ str p = str [] := by
      intro e
      have := congrArg (fun v => match v with | Value.string b => b.data.toList | _ => []) e
      exact hnil (by simpa using this)
    go_enter Tryd.func111, Tryd.ntmps111
    go_wp2_with fail
    refine CF.mono ?_
    clear CF
    rintro e w2 ⟨rfl, bF, hb2⟩
    have k1 := h1.below hb2 hg1
    have k2 := h2.below hb2 hg2
    have hbB := hb2.mono hBw
    have hBw2 : B ≤ w2.heap.size := Nat.le_trans hBw hb2.size
    generalize w.heap.size = gF at *
    clear h1 h2 hb2
    go_wp2_with fail
    go_loopw [9, 10] (fun st iv wr => ∃ k : Nat, iv = .int .i64 k ∧ st = .int .i64 (M p (s.take k) : Nat) ∧ k ≤ s.length ∧ (∀ j, j ≤ k → ¬ M p (s.take j) = p.length) ∧ wr = w2) (fun _ iv _ => s.length - (intOf iv).toNat)
    case atStart => exact ⟨0, rfl, by rw [hM0]; rfl, by omega, by intro j hj; obtain rfl : j = 0 := by omega
                                                                  exact HK0.out, rfl⟩
    case round =>
      obtain ⟨k, rfl, rfl, hk, hall, rfl⟩ := hrel
      have HA := Lib.hid hall
      clear hall
      by_cases hlt : k < s.length
      · obtain ⟨cb, hb, hb'⟩ : ∃ x, (⟨s.toArray⟩ : ByteArray)[k]'(by show k < s.toArray.size; simpa using hlt) = x ∧ s[k] = x := ⟨_, rfl, rfl⟩
        have hcb := cb.toNat_lt
        have hki : (k : Int) < (s.length : Int) := by omega
        have HS := Lib.hid (M_step p s k hlt)
        rw [hb'] at HS
        obtain ⟨nx, hnx⟩ : ∃ nx, M p (s.take k ++ [cb]) = nx := ⟨_, rfl⟩
        have C := step_any p (s.take k) cb (some ⟨gF, 0, none⟩) p.length p.length wr hp (M_le _ _) hp (fun _ => ⟨gF, 0, rfl, fun j hj => by rw [Nat.zero_add]; have := M_le p (s.take k); exact bF.cell_ j (fc_at (by omega) (by omega))⟩) nx hnx
        rw [hnx] at HS
        have HM := Lib.hid (M_le p (s.take k ++ [cb]))
        rw [hnx] at HM
        clear hnx hb'
        generalize hst : M p (s.take k) = st at *
        go_wp2_with fail
        refine C.mono ?_
        clear C
        rintro e w3 ⟨rfl, rfl⟩
        by_cases he : nx = p.length
        · have hk1 : kin p s = true := kin_yes (i := k + 1) (by omega) (by rw [HS.out]; exact he)
          subst he
          go_wp2_with fail
          refine (find1_any B g1 g2 _ 0 false _ k1 k2 hne hB1 hB2 hBw2).mono ?_
          rintro e w4 ⟨rfl, m1, m2, hb4⟩
          go_wp2_with fail
          try simp only [Exit.inBlock, Exit.then]
          refine bodyPost_ret (results_none rfl _ _ _) rfl ?_
          exact ⟨rfl, ⟨_, m1⟩, by rw [hk1]; exact m2, hbB.trans hb4⟩
        · have heI : ((nx : Int) == (p.length : Int)) = false := by rw [beq_eq_false_iff_ne]; omega
          have HE := Lib.hid he
          clear he
          go_wp2_with fail
          go_roundw
          case rel =>
            refine ⟨k + 1, by go_num, by rw [HS.out], by omega, ?_, by first | rfl | trivial⟩
            intro j hj
            rcases Nat.lt_or_ge j (k + 1) with h1 | h1
            · exact HA.out j (by omega)
            · obtain rfl : j = k + 1 := by omega
              rw [HS.out]; exact HE.out
          case measure => simp [intOf]; omega
      · have hk0 : kin p s = false := kin_no (fun j hj => HA.out j (by omega))
        obtain rfl : k = s.length := by omega
        go_wp2_with fail
        go_end0
        exact ⟨rfl, ⟨_, k1⟩, by rw [hk0]; exact k2, hbB⟩
end KmpW
end Go.Proofs.YtdeiehgghhiijaaDoor
