/- The walks of package tab: runs, Put, Pack, Size. -/
import Derived.Test.YtedoeplhjmkllaaTabQ
import Derived.Test.YtedoeplhjmkllaaCanX
import Derived.Test.YtedoeplhjmkllaaBitX
import Derived.WalkMore
import Derived.ScopeJumps
import Derived.Deep.LoopGhost
namespace Go.Proofs.Ytedoeplhjmkllaa
set_option linter.unusedVariables false
set_option linter.unusedSimpArgs false
set_option linter.unnecessarySimpa false
open Go.RowKit
namespace TabW
open LenW (okL okL_at chkL chk0 check_any fcells_at fcells_set)
open BitW (gam gamB Wr Wfr Fresh Puts Put_yes Gamma_yes text_any len_any)

theorem El_run : El Try.prog 95 98 2 16 := El.mk' Try.underlying95 (z := .agg #[.int .i64 0, .int .i64 0]) (by kernel_rfl) rfl (by decide)
theorem fcells_one (l : List (Int × Int)) : ∀ u ∈ fcells l, u.oneCell' = true := by
  intro u hu
  obtain ⟨r, _, hr⟩ := List.mem_flatMap.1 hu
  simp at hr
  rcases hr with rfl | rfl <;> rfl
theorem fcells_app (a b : List (Int × Int)) : fcells (a ++ b) = fcells a ++ fcells b := by simp [fcells]
theorem rle_step (l : List Int) (k : Nat) (h : k < l.length) : rle (l.take (k + 1)) = addR (rle (l.take k)) l[k] := by rw [List.take_succ_eq_append_getElem h, rle_snoc]
theorem rle_take_len (l : List Int) (k : Nat) : (rle (l.take k)).length ≤ k := by have := rle_len (l.take k); rw [List.length_take] at this; omega
theorem set_same {α : Type} (l : List α) (i : Nat) (v : α) (h : l[i]? = some v) : l.set i v = l := by
  obtain ⟨hi, rfl⟩ := List.getElem?_eq_some_iff.1 h
  exact List.set_getElem_self hi
theorem cells_bump (R : List (Int × Int)) (i : Nat) (x q : Int) (h : R[i]? = some (x, q)) : (fcells R).set (i * 2 + 1) (.int .i64 (q + 1)) = fcells (R.set i (x, q + 1)) := by
  obtain ⟨hi, hq⟩ := List.getElem?_eq_some_iff.1 h
  obtain ⟨c0, c1⟩ := fcells_at R i hi
  rw [fcells_set R i hi, set_same _ (i * 2) _ (by simpa [hq] using c0)]
theorem rle_small (l : List Int) (k i : Nat) (x q : Int) (h : (rle (l.take k))[i]? = some (x, q)) : 0 ≤ q ∧ q ≤ (k : Int) := by
  have hm := List.mem_of_getElem? h
  have h1 := rle_pos _ _ hm
  have h2 := (rle_mem _ _ hm).2
  rw [List.length_take] at h2
  dsimp only at h1 h2
  omega
set_option maxRecDepth 100000 in
set_option maxHeartbeats 4000000 in
theorem runs_any (A : Option Addr) (n c : Nat) (l : List Int) (w : World) (h : Rd w w.heap.size 1 A n (ints l)) (hn : n ≤ 1000) :
    Calls Try.prog 53 #[.slice A n c] w fun e w' => ∃ A2 n2 c2, e = .returned (.slice A2 n2 c2) ∧ n2 ≤ n ∧ Own w' w.heap.size 98 2 A2 n2 c2 (fcells (rle l)) ∧ Below w.heap.size w w' := by
  have hl : l.length = n := rd_len h
  go_enter Try.func53, Try.ntmps53
  go_wp2_with fail
  go_step3
  go_wp2_with fail
  go_step3
  go_wp2_with fail
  go_loopw [3, 9] (fun out i wr => ∃ (k j c2 : Nat) (A2 : Option Addr), i = .int .i64 k ∧ out = .slice A2 j c2 ∧ k ≤ n ∧ (rle (l.take k)).length = j ∧ Own wr w.heap.size 98 2 A2 j c2 (fcells (rle (l.take k))) ∧ Below w.heap.size w wr) (fun _ i _ => n - (intOf i).toNat)
  case atStart => exact ⟨0, 0, 0, none, rfl, rfl, by omega, by simp [rle], by simpa [rle, fcells] using Own.nil _ _ _ _, Below.refl _ _⟩
  case round =>
    obtain ⟨k, j, c2, A2, rfl, rfl, hk, hj, o2, hbw⟩ := hrel
    have hsz := hbw.size
    by_cases hlt : k < n
    · have hkl : k < l.length := by omega
      obtain ⟨b, o, rfl, hb, hc⟩ := rd_ints (h.below hbw) (by omega)
      have d0 : wr.cell? ⟨b, o + k, none⟩ = some (.int .i64 l[k]) := hc k hkl
      have HS := Lib.hid (rle_step l k hkl)
      have hjk := rle_take_len l k
      rw [hj] at hjk
      obtain ⟨x, hx⟩ : ∃ x, l[k] = x := ⟨_, rfl⟩
      rw [hx] at d0 HS
      have hsm := rle_small l k
      obtain ⟨R, hR⟩ : ∃ R, rle (l.take k) = R := ⟨_, rfl⟩
      rw [hR] at hj o2 HS hsm
      clear hc hx hR
      by_cases hlast : ∃ i q, j = i + 1 ∧ R[i]? = some (x, q)
      · obtain ⟨i, q, rfl, hq⟩ := hlast
        have hq0 := hsm i x q hq
        have HCS := Lib.hid (cells_bump R i x q hq)
        obtain ⟨hi, hq⟩ := List.getElem?_eq_some_iff.1 hq
        have hA := addR_last (x := x) (k := q) hj hq
        have HA := Lib.hid (show rle (l.take (k + 1)) = R.set i (x, q + 1) by rw [HS.out, hA])
        obtain ⟨g, rfl⟩ : ∃ g, A2 = some ⟨g, 0, none⟩ := by
          rcases o2.shape with ⟨_, h0, _⟩ | ⟨g, e, _⟩
          · omega
          · exact ⟨g, e⟩
        obtain ⟨c0, c1⟩ := fcells_at R i hi
        rw [hq] at c0 c1
        have e0 := own_cell o2 _ (by simpa using c0)
        have e1 := own_cell o2 _ (by simpa using c1)
        have fz := own_thaw o2 (i * 2 + 1)
        have hgb := (o2.blk g rfl).1
        clear c0 c1 hq hA hsm
        have hi0 : (0 : Int) ≤ (i : Int) := by omega
        have hi1 : ((i + 1 : Nat) : Int) - 1 = (i : Int) := by omega
        have hi2 : (i : Int) + 1 - 1 = (i : Int) := by omega
        go_wp2_with fail
        go_roundw
        case rel => exact ⟨k + 1, i + 1, c2, some ⟨g, 0, none⟩, by go_num, rfl, by omega, by rw [HA.out]; simpa using hj, by rw [HA.out, ← HCS.out]; exact o2.set _, hbw.setCell (p := ⟨g, i * 2 + 1, none⟩) hgb _⟩
        case measure => simp [intOf]; omega
      · have hA := addR_new (R := R) (x := x) (fun i hi e => hlast ⟨i, (R[i]'(by omega)).2, by omega, by rw [List.getElem?_eq_getElem (by omega), ← e]⟩)
        have HA := Lib.hid (show rle (l.take (k + 1)) = R ++ [(x, 1)] by rw [HS.out, hA])
        have hrn : Rd (wr.alloc (.cells #[.int .i64 x, .int .i64 1] 98)) (wr.heap.size + 1) 2 (some ⟨wr.heap.size, 0, none⟩) 1 (fcells [(x, 1)]) := rd_new (W0 := wr) (t := 98) (cs := fcells [(x, 1)]) (size := 2) (m := 1) rfl rfl
        clear hA hsm
        by_cases hj0 : j = 0
        · subst hj0
          clear hlast
          go_wp2_with (at_builtin; with_reducible refine wp_append El_run rfl (s := .tmp 35) (x := .tmp 38) rfl rfl (o2.alloc _) rfl hrn (fcells_one _) (by unfold maxLen; omega) (by omega) (by simp; omega) ?_; intro A4 c4 w4 o4 hg4 hat4; have hbX := below_grown (hbw.alloc hsz (.cells #[.int .i64 x, .int .i64 1] 98)) hg4 (o2.alloc _) (Nat.le_refl _))
          rw [← fcells_app] at o4
          go_roundw
          case rel => exact ⟨k + 1, 0 + 1, c4, A4, by go_num, rfl, by omega, by rw [HA.out]; simp [hj], by rw [HA.out]; exact o4, hbX⟩
          case measure => simp [intOf]; omega
        · obtain ⟨i, rfl⟩ : ∃ i, j = i + 1 := ⟨j - 1, by omega⟩
          obtain ⟨g, rfl⟩ : ∃ g, A2 = some ⟨g, 0, none⟩ := by
            rcases o2.shape with ⟨_, h0, _⟩ | ⟨g, e, _⟩
            · omega
            · exact ⟨g, e⟩
          have hi : i < R.length := by omega
          obtain ⟨c0, c1⟩ := fcells_at R i hi
          have e0 := own_cell o2 _ (by simpa using c0)
          have hne : ¬ R[i].1 = x := fun e => hlast ⟨i, R[i].2, rfl, by rw [List.getElem?_eq_getElem hi, ← e]⟩
          obtain ⟨y, hy⟩ : ∃ y, R[i].1 = y := ⟨_, rfl⟩
          rw [hy] at e0 hne
          have hneI : (y == x) = false := by simpa using hne
          have hneD : decide (y = x) = false := by simpa using hne
          have hi0 : (0 : Int) ≤ (i : Int) := by omega
          clear c0 c1 hy hlast hj0
          go_wp2_with (at_builtin; with_reducible refine wp_append El_run rfl (s := .tmp 35) (x := .tmp 38) rfl rfl (o2.alloc _) rfl hrn (fcells_one _) (by unfold maxLen; omega) (by omega) (by simp; omega) ?_; intro A4 c4 w4 o4 hg4 hat4; have hbX := below_grown (hbw.alloc hsz (.cells #[.int .i64 x, .int .i64 1] 98)) hg4 (o2.alloc _) (Nat.le_refl _))
          rw [← fcells_app] at o4
          go_roundw
          case rel => exact ⟨k + 1, i + 1 + 1, c4, A4, by go_num, rfl, by omega, by rw [HA.out]; simp [hj], by rw [HA.out]; exact o4, hbX⟩
          case measure => simp [intOf]; omega
    · obtain rfl : k = n := by omega
      have HL := Lib.hid (show l.take k = l by rw [← hl, List.take_length])
      rw [HL.out] at o2 hj
      have := rle_len l
      go_wp2_with fail
      try rw [Exit.noGoto_ret]
      go_ret
      exact ⟨A2, j, c2, rfl, by omega, o2, hbw⟩
end TabW
end Go.Proofs.Ytedoeplhjmkllaa
