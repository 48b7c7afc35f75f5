/- The walks of package lens: fewer than twenty things are sorted; the first row; packages. -/
import Derived.Test.YtpnccehaomikbaaLenD
import Derived.WalkMore
import Derived.ScopeJumps
import Derived.Deep.LoopGhost
namespace Go.Proofs.Ytpnccehaomikbaa
set_option linter.unusedVariables false
set_option linter.unusedSimpArgs false
set_option linter.unnecessarySimpa false
open Go.RowKit
namespace LenW

/-- n things are sorted. -/
def SortOk (n : Nat) : Prop := ∀ (base : Nat) (A0 : Option Addr) (c : Nat) (M : List (Int × Int)) (w : World), M.length = n → Own w base 39 2 A0 n c (fcells M) → base ≤ w.heap.size →
  Calls Try.prog 29 #[.slice A0 n c, .func (.func 30) #[] #[]] w fun e w' => e = .returned (.tuple #[]) ∧ Own w' base 39 2 A0 n c (fcells (sortW M)) ∧ Below base w w'
set_option maxRecDepth 100000 in
set_option maxHeartbeats 4000000 in
theorem stable20 (n : Nat) (hn : n < 20) (base : Nat) (A0 : Option Addr) (c : Nat) (M : List (Int × Int)) (w : World) (hM : M.length = n) (ho : Own w base 39 2 A0 n c (fcells M)) (hbs : base ≤ w.heap.size) :
    Calls Try.prog 33 #[.slice A0 n c, .int .i64 n, .func (.func 30) #[] #[]] w fun e w' => e = .returned (.tuple #[]) ∧ Own w' base 39 2 A0 n c (fcells (sortW M)) ∧ Below base w w' := by
  have C := insSort_any base A0 n c [] M [] w 0 n rfl (by rw [hM]; omega) (by simp [hM]) (by omega) (by simpa using ho) hbs
  simp only [List.nil_append, List.append_nil] at C
  rw [show ((0 : Nat) : Int) = 0 from rfl] at C
  have h1 : ¬ ((20 : Int) ≤ (n : Int)) := by omega
  have h2 : ¬ ((20 : Int) < (n : Int)) := by omega
  clear hM ho
  go_enter Try.func33, Try.ntmps33
  go_wp2_with fail
  go_loopw [7, 8] (fun a i wr => a = .int .i64 0 ∧ i = .int .i64 20 ∧ wr = w) (fun _ i _ => 0)
  case atStart => exact ⟨rfl, rfl, rfl⟩
  case round =>
    obtain ⟨rfl, rfl, rfl⟩ := hrel
    go_wp2_with fail
    refine C.mono ?_
    rintro e w1 ⟨rfl, o1, hb1⟩
    go_wp2_with fail
    go_loopw [6] (fun i wr => i = .int .i64 20 ∧ wr = w1) (fun i _ => 0)
    case atStart => exact ⟨rfl, rfl⟩
    case round =>
      obtain ⟨rfl, rfl⟩ := hrel
      go_wp2_with fail
      go_end0
      exact ⟨rfl, o1, hb1⟩
set_option maxRecDepth 100000 in
theorem sort20 (n : Nat) (hn : n < 20) : SortOk n := by
  intro base A0 c M w hM ho hbs
  have C := stable20 n hn base A0 c M w hM ho hbs
  go_enter Try.func29, Try.ntmps29
  go_wp2_with fail
  refine C.mono ?_
  rintro e w1 ⟨rfl, o1, hb1⟩
  go_wp2_with fail
  go_end0
  exact ⟨rfl, o1, hb1⟩
theorem El_w : El Try.prog 36 39 2 16 := El.mk' Try.underlying36 (z := .agg #[.int .i64 0, .int .i64 0]) (by kernel_rfl) rfl (by decide)
theorem fcells_one (l : List (Int × Int)) : ∀ u ∈ fcells l, u.oneCell' = true := by
  intro u hu
  obtain ⟨r, _, hr⟩ := List.mem_flatMap.1 hu
  simp at hr
  rcases hr with rfl | rfl <;> rfl
theorem lvsK_le (l : List Int) (k : Nat) : (lvsK l k).length ≤ k := by
  unfold lvsK
  exact Nat.le_trans (List.length_filterMap_le _ _) (by simp)
set_option maxRecDepth 100000 in
set_option maxHeartbeats 4000000 in
theorem leaves_any (A : Option Addr) (n c : Nat) (l : List Int) (w : World) (h : Rd w w.heap.size 1 A n (ints l)) (hn : n ≤ 300) (hS : SortOk (usedL l)) :
    Calls Try.prog 19 #[.slice A n c] w fun e w' => ∃ A2 c2, e = .returned (.slice A2 (usedL l) c2) ∧ Own w' w.heap.size 39 2 A2 (usedL l) c2 (fcells (lvs l)) ∧ Below w.heap.size w w' := by
  have hl : l.length = n := rd_len h
  have HLV := Lib.hid (show (lvsK l n).length = usedL l by rw [← hl, lvsK_len l _ (Nat.le_refl _), List.take_length])
  have HLS := Lib.hid (show lvs l = sortW (lvsK l n) by rw [← hl]; rfl)
  go_enter Try.func19, Try.ntmps19
  go_wp2_with fail
  go_loopw [3, 8] (fun out i wr => ∃ (k j c2 : Nat) (A2 : Option Addr), i = .int .i64 k ∧ out = .slice A2 j c2 ∧ k ≤ n ∧ (lvsK l k).length = j ∧ Own wr w.heap.size 39 2 A2 j c2 (fcells (lvsK l k)) ∧ Below w.heap.size w wr) (fun _ i _ => n - (intOf i).toNat)
  case atStart => exact ⟨0, 0, 0, none, rfl, rfl, by omega, by simp [lvsK], by simpa [lvsK, fcells] using Own.nil _ _ _ _, Below.refl _ _⟩
  case round =>
    obtain ⟨k, j, c2, A2, rfl, rfl, hk, hj, o2, hbw⟩ := hrel
    have hsz := hbw.size
    by_cases hlt : k < n
    · have hkl : k < l.length := by omega
      obtain ⟨b, o, rfl, hb, hc⟩ := rd_ints (h.below hbw) (by omega)
      have d0 : wr.cell? ⟨b, o + k, none⟩ = some (.int .i64 l[k]) := hc k hkl
      have HS := Lib.hid (lvsK_succ l k hkl)
      have hjk := lvsK_le l k
      rw [hj] at hjk
      obtain ⟨x, hx⟩ : ∃ x, l[k] = x := ⟨_, rfl⟩
      rw [hx] at d0 HS
      clear hc hx
      by_cases hx0 : 0 < x
      · have HA := Lib.hid (show lvsK l (k + 1) = lvsK l k ++ [(x, (k : Int))] by rw [HS.out, if_pos hx0])
        have hrn : Rd (wr.alloc (.cells #[.int .i64 x, .int .i64 k] 39)) (wr.heap.size + 1) 2 (some ⟨wr.heap.size, 0, none⟩) 1 (fcells [(x, (k : Int))]) := rd_new (W0 := wr) (t := 39) (cs := fcells [(x, (k : Int))]) (size := 2) (m := 1) rfl rfl
        go_wp2_with (at_builtin; with_reducible refine wp_append El_w rfl (s := .tmp 15) (x := .tmp 19) rfl rfl (o2.alloc _) rfl hrn (fcells_one _) (by unfold maxLen; omega) (by omega) (by simp; omega) ?_; intro A4 c4 w4 o4 hg4 hat4; have hbX := below_grown (hbw.alloc hsz (.cells #[.int .i64 x, .int .i64 k] 39)) hg4 (o2.alloc _) (Nat.le_refl _))
        rw [← fcells_app] at o4
        go_roundw
        case rel => exact ⟨k + 1, j + 1, c4, A4, by go_num, rfl, by omega, by rw [HA.out]; simp [hj], by rw [HA.out]; exact o4, hbX⟩
        case measure => simp [intOf]; omega
      · have HA := Lib.hid (show lvsK l (k + 1) = lvsK l k by rw [HS.out, if_neg hx0, List.append_nil])
        go_wp2_with fail
        go_roundw
        case rel => exact ⟨k + 1, j, c2, A2, by go_num, rfl, by omega, by rw [HA.out]; exact hj, by rw [HA.out]; exact o2, hbw⟩
        case measure => simp [intOf]; omega
    · obtain rfl : k = n := by omega
      have e1 := HLV.out
      rw [hj] at e1
      subst e1
      have C := hS w.heap.size A2 c2 _ wr hj o2 hsz
      rw [← HLS.out] at C
      clear o2 hj hl
      go_wp2_with fail
      refine C.mono ?_
      rintro e w1 ⟨rfl, o1, hb1⟩
      go_wp2_with fail
      try rw [Exit.noGoto_ret]
      go_ret
      exact ⟨A2, c2, rfl, o1, hbw.trans hb1⟩
end LenW
end Go.Proofs.Ytpnccehaomikbaa
