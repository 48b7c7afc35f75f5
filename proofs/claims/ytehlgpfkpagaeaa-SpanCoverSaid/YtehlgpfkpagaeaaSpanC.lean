/- Walks over package span and its reference: what covers ranges. -/
import Derived.Test.YtehlgpfkpagaeaaSpanB
namespace Go.Proofs.Ytehlgpfkpagaeaa
set_option linter.unusedVariables false
open Go.RowKit
namespace SpanW

def full (l : List R) : List R := l.filter fun p => !emptyB p.1 p.2
theorem full_snoc (l : List R) (k : Nat) (hk : k < l.length) : full (l.take (k + 1)) = if emptyB l[k].1 l[k].2 = true then full (l.take k) else full (l.take k) ++ [l[k]] := by
  rw [List.take_succ_eq_append_getElem hk]
  unfold full
  rw [List.filter_append]
  by_cases h : emptyB l[k].1 l[k].2 = true <;> simp [h]
theorem full_len (l : List R) (k : Nat) : (full (l.take k)).length ≤ k := by
  unfold full
  have h1 := List.length_filter_le (fun p : R => !emptyB p.1 p.2) (l.take k)
  have h2 : (l.take k).length ≤ k := List.length_take_le _ _
  omega
theorem cells_snoc (l : List R) (p : R) : cells l ++ [.int .i64 p.1, .int .i64 p.2] = cells (l ++ [p]) := by simp [cells]
theorem cells_one (l : List R) : ∀ u ∈ cells l, u.oneCell' = true := by
  intro u hu
  simp only [cells, List.mem_flatMap] at hu
  obtain ⟨p, _, hp⟩ := hu
  simp only [List.mem_cons, List.not_mem_nil, or_false] at hp
  rcases hp with rfl | rfl <;> rfl

set_option maxHeartbeats 1000000 in
theorem cover_any (A : Option Addr) (n c : Nat) (l : List R) (w : World) (h : Rd w w.heap.size 2 A n (cells l)) (hnc : n ≤ c) (hcm : c ≤ 9223372036854775807) (hroom : n * 16 ≤ 140737488355328) :
    Calls Try.prog 25 #[.slice A n c] w fun e w' => e = .returned (rv (foldR widen (full l))) ∧ Below w.heap.size w w' := by
  have hl : l.length = n := by have := h.len; rw [cells_len] at this; omega
  have hl1 : l.length ≤ n := by omega
  have hl2 : n ≤ l.length := by omega
  clear hl
  go_enter Try.func25, Try.ntmps25
  go_wp2_with fail
  go_loopw [3, 8] (fun v i wr => ∃ (k m cc : Nat) (A' : Option Addr), k ≤ n ∧ i = .int .i64 k ∧ v = .slice A' m cc ∧ Own wr (w.heap.size + 1) 23 2 A' m cc (cells (full (l.take k))) ∧ Blk wr w.heap.size 23 #[.int .i64 0, .int .i64 0] ∧ Below w.heap.size w wr)
    (fun _ i _ => n - (intOf i).toNat)
  case atStart => exact ⟨0, 0, 0, none, by omega, rfl, rfl, Own.nil _ _ _ _, Blk.new _ _ _, (by first | exact Below.refl _ _ | (repeat (first | exact Below.refl _ _ | assumption | refine Below.drew ?_ | refine Below.drewN_ ?_ _ | refine Below.alloc ?_ (by first | exact Nat.le_refl _ | (simp; done) | (simp; omega) | omega) _ | refine Below.setCell ?_ (by first | exact Nat.le_refl _ | (simp; done) | (simp; omega) | omega) _ | (refine Below.trans ?_ (Below.mono (by assumption) (by first | exact Nat.le_refl _ | (simp; done) | (simp; omega) | omega))))))⟩
  case round =>
    obtain ⟨k, m, cc, A', hk, rfl, rfl, hown, hB0, hbw⟩ := hrel
    have hz0 := hB0.lt
    by_cases hlt : k < n
    · obtain ⟨b, o, rfl, hb, hcell⟩ := rd_at h (by omega)
      have hkl : k < l.length := by omega
      have e0 : wr.cell? ⟨b, o + k * 2, none⟩ = some (.int .i64 l[k].1) := (hbw.cell (p := ⟨b, _, none⟩) hb).trans (hcell k hkl).1
      have e1 : wr.cell? ⟨b, o + k * 2 + 1, none⟩ = some (.int .i64 l[k].2) := (hbw.cell (p := ⟨b, _, none⟩) hb).trans (hcell k hkl).2
      have HC := Lib.hid hcell
      clear hcell
      go_wp2_with fail
      refine (empty_any _ _ _).mono ?_
      rintro e w1 ⟨rfl, hb1⟩
      have HB : Below w.heap.size w w1 := (hbw.alloc hbw.size _).trans (hb1.mono (by simp; omega))
      have g0 : Blk w1 w.heap.size 23 #[.int .i64 0, .int .i64 0] := (hB0.alloc _).below hb1 (by simp; omega)
      have g1 : Blk w1 wr.heap.size 23 #[.int .i64 l[k].1, .int .i64 l[k].2] := (Blk.new _ _ _).below hb1 (by simp)
      have hown1 := (hown.alloc (.cells #[.int .i64 l[k].1, .int .i64 l[k].2] 23)).below hb1
      have d0 : w1.cell? ⟨wr.heap.size, 0, none⟩ = some (.int .i64 l[k].1) := g1.cell_ 0 rfl
      have d1 : w1.cell? ⟨wr.heap.size, 1, none⟩ = some (.int .i64 l[k].2) := g1.cell_ 1 rfl
      have hz1 := g0.lt
      have hm := hown.len
      have hfl := full_len l k
      rw [cells_len] at hm
      have HM := Lib.hid hm
      have hm1 : m ≤ k := by omega
      have HF := Lib.hid (full_snoc l k hkl)
      clear hm
      by_cases hE : l[k].2 < l[k].1
      · have hEB : emptyB l[k].1 l[k].2 = true := by simpa [emptyB] using hE
        go_wp2
        go_roundw
        case rel => exact ⟨k + 1, m, cc, A', by omega, by go_num, rfl, by rw [HF.out, if_pos hEB]; exact hown1, g0, HB⟩
        case measure => simp [intOf]; omega
      · have hEB : emptyB l[k].1 l[k].2 = false := by simpa [emptyB] using hE
        have HEB := Lib.hid hEB
        go_wp2_with (at_builtin; refine wp_append El_range rfl rfl rfl (hown1.alloc _) rfl (Rd.of_blk (m := 1) (cs := [.int .i64 l[k].1, .int .i64 l[k].2]) (Blk.new w1 _ _) rfl) (by simp [Value.oneCell']) (by unfold maxLen; omega) (by omega) (by simp; omega) ?_; intro A2 c2 w2 hown2 hg2 hat2)
        go_roundw
        case rel => exact ⟨k + 1, m + 1, c2, A2, by omega, by go_num, rfl, by rw [HF.out, HEB.out, if_neg (by simp), ← cells_snoc]; exact hown2, (g0.alloc _).grown hg2 (fun e => by have := hown1.blk _ e.symm; omega), (HB.alloc HB.size _).grown hg2 (by simp; omega) (fun j hj => by have := hown1.blk j hj; omega)⟩
        case measure => simp [intOf]; omega
    · go_wp2_with fail
      refine (fold_widen A' m cc _ _ hown.rd hown.cap (by have := hown.capm; unfold maxLen at this; omega)).mono ?_
      rintro e w1 ⟨rfl, hb1⟩
      have hfin : full (l.take k) = full l := by rw [List.take_of_length_le (by omega)]
      have g0 : Blk w1 w.heap.size 23 #[.int .i64 0, .int .i64 0] := hB0.below hb1 (by omega)
      have HB : Below w.heap.size w w1 := hbw.trans (hb1.mono (by omega))
      have d0 : w1.cell? ⟨w.heap.size, 0, none⟩ = some (.int .i64 0) := g0.cell_ 0 rfl
      have d1 : w1.cell? ⟨w.heap.size, 1, none⟩ = some (.int .i64 0) := g0.cell_ 1 rfl
      have f0 := g0.frozen 0
      have f1 := g0.frozen 1
      have HF := Lib.hid hfin
      clear g0 hfin
      go_wp2
      rw [HF.out]
      refine bodyPost_ret (v := rv (foldR widen (full l))) ?_ rfl ⟨rfl, (HB.setCell (by simp) _).setCell (by simp) _⟩
      simp [results, Try.results25, go_sem, d0, d1]

/-- The reference's fold: what covers those that came so far, an empty one none of them. -/
def rstep (q p : R) : R := if emptyB p.1 p.2 = true then q else if emptyB q.1 q.2 = true then p else widen q p
def rcover (l : List R) : R := l.foldl rstep (1, 0)
theorem rcover_snoc (l : List R) (k : Nat) (hk : k < l.length) : rcover (l.take (k + 1)) = rstep (rcover (l.take k)) l[k] := by
  rw [rcover, List.take_succ_eq_append_getElem hk, List.foldl_append]; rfl

set_option maxHeartbeats 2000000 in
theorem refCover_any (A : Option Addr) (n c : Nat) (l : List R) (w : World) (h : Rd w w.heap.size 2 A n (cells l)) (hnc : n ≤ c) (hcm : c ≤ 9223372036854775807) :
    Calls Try.prog 26 #[.slice A n c] w fun e w' => e = .returned (rv (rcover l)) ∧ Below w.heap.size w w' := by
  have hl : l.length = n := by have := h.len; rw [cells_len] at this; omega
  have hl1 : l.length ≤ n := by omega
  have hl2 : n ≤ l.length := by omega
  clear hl
  go_enter Try.func26, Try.ntmps26
  go_wp2_with fail
  refine (refNone_any _).mono ?_
  rintro e w0 ⟨rfl, hb0⟩
  have HB : Below w.heap.size w w0 := ((Below.refl _ _).alloc (Nat.le_refl _) _).trans (hb0.mono (by simp))
  have g0 : Blk w0 w.heap.size 23 #[.int .i64 0, .int .i64 0] := (Blk.new _ _ _).below hb0 (by simp)
  have hz := g0.lt
  go_wp2_with fail
  go_loopw [4] (fun i wr => ∃ (k : Nat), k ≤ n ∧ i = .int .i64 k ∧ Blk wr w.heap.size 23 #[.int .i64 0, .int .i64 0] ∧ Blk wr w0.heap.size 23 #[.int .i64 (rcover (l.take k)).1, .int .i64 (rcover (l.take k)).2] ∧ Below w.heap.size w wr)
    (fun i _ => n - (intOf i).toNat)
  case atStart => exact ⟨0, by omega, rfl, g0.alloc _, by simpa [rcover] using Blk.new w0 23 #[.int .i64 1, .int .i64 0], HB.alloc HB.size _⟩
  case round =>
    obtain ⟨k, hk, rfl, hB0, hB1, hbw⟩ := hrel
    have hz0 := hB1.lt
    generalize hq : rcover (l.take k) = q at *
    have HQ := Lib.hid hq
    clear hq
    by_cases hlt : k < n
    · obtain ⟨b, o, rfl, hb, hcell⟩ := rd_at h (by omega)
      have hkl : k < l.length := by omega
      have HS := Lib.hid (rcover_snoc l k hkl)
      obtain ⟨p, hp⟩ : ∃ p, p = l[k] := ⟨_, rfl⟩
      have HP := Lib.hid hp
      have e0 : wr.cell? ⟨b, o + k * 2, none⟩ = some (.int .i64 p.1) := by rw [hp]; exact (hbw.cell (p := ⟨b, _, none⟩) hb).trans (hcell k hkl).1
      have e1 : wr.cell? ⟨b, o + k * 2 + 1, none⟩ = some (.int .i64 p.2) := by rw [hp]; exact (hbw.cell (p := ⟨b, _, none⟩) hb).trans (hcell k hkl).2
      have hcc : ∀ w1 : World, Below w.heap.size w w1 → w1.cell? ⟨b, o + k * 2, none⟩ = some (.int .i64 p.1) ∧ w1.cell? ⟨b, o + k * 2 + 1, none⟩ = some (.int .i64 p.2) := by
        intro w1 h1; rw [hp]; exact ⟨(h1.cell (p := ⟨b, _, none⟩) hb).trans (hcell k hkl).1, (h1.cell (p := ⟨b, _, none⟩) hb).trans (hcell k hkl).2⟩
      have HC := Lib.hid hcc
      clear hcell hp hcc
      go_wp2_with fail
      refine (refEmpty_any _ _ _).mono ?_
      rintro e w1 ⟨rfl, hb1⟩
      have HB1 : Below w.heap.size w w1 := hbw.trans (hb1.mono (by omega))
      have g0 := hB0.below hb1 (by omega)
      have g1 := hB1.below hb1 (by omega)
      have d0 : w1.cell? ⟨w0.heap.size, 0, none⟩ = some (.int .i64 q.1) := g1.cell_ 0 rfl
      have d1 : w1.cell? ⟨w0.heap.size, 1, none⟩ = some (.int .i64 q.2) := g1.cell_ 1 rfl
      have hz1 := g1.lt
      clear e0 e1
      by_cases hE : emptyB p.1 p.2 = true
      · go_wp2
        go_roundw
        case rel => exact ⟨k + 1, by omega, by go_num, g0, by rw [HS.out, HQ.out, ← HP.out, rstep, if_pos hE]; exact g1, HB1⟩
        case measure => simp [intOf]; omega
      · have hE' : emptyB p.1 p.2 = false := by simpa using hE
        go_wp2_with fail
        refine (refEmpty_any _ _ _).mono ?_
        rintro e w2 ⟨rfl, hb2⟩
        have HB2 : Below w.heap.size w w2 := HB1.trans (hb2.mono (by omega))
        have g2 := g0.below hb2 (by omega)
        have g3 := g1.below hb2 (by omega)
        have d0 : w2.cell? ⟨w0.heap.size, 0, none⟩ = some (.int .i64 q.1) := g3.cell_ 0 rfl
        have d1 : w2.cell? ⟨w0.heap.size, 1, none⟩ = some (.int .i64 q.2) := g3.cell_ 1 rfl
        have f0 := g3.frozen 0
        have f1 := g3.frozen 1
        obtain ⟨e0, e1⟩ := HC.out w2 HB2
        have hz2 := g3.lt
        have hbz : b < w0.heap.size := by omega
        have hbz' : ¬ b = w0.heap.size := by omega
        by_cases hF : emptyB q.1 q.2 = true
        · go_wp2_with fail
          go_quiet (fail)
          go_wp2_with fail
          go_quiet (fail)
          go_wp2
          go_roundw
          case rel => exact ⟨k + 1, by omega, by go_num, (by repeat (first | with_reducible assumption | with_reducible exact Blk.new _ _ _ | with_reducible apply Blk.drewN | with_reducible apply Blk.drew | with_reducible apply Blk.alloc | with_reducible apply Blk.set | (with_reducible apply Blk.far; rotate_left; focus (first | (simp; done) | (simp; omega) | omega)))), blk_eq (by repeat (first | with_reducible assumption | with_reducible exact Blk.new _ _ _ | with_reducible apply Blk.drewN | with_reducible apply Blk.drew | with_reducible apply Blk.alloc | with_reducible apply Blk.set | (with_reducible apply Blk.far; rotate_left; focus (first | (simp; done) | (simp; omega) | omega)))) (by rw [HS.out, HQ.out, ← HP.out, rstep, if_neg hE, if_pos hF]; simp), (by first | exact Below.refl _ _ | (repeat (first | exact Below.refl _ _ | assumption | refine Below.drew ?_ | refine Below.drewN_ ?_ _ | refine Below.alloc ?_ (by first | exact Nat.le_refl _ | (simp; done) | (simp; omega) | omega) _ | refine Below.setCell ?_ (by first | exact Nat.le_refl _ | (simp; done) | (simp; omega) | omega) _ | (refine Below.trans ?_ (Below.mono (by assumption) (by first | exact Nat.le_refl _ | (simp; done) | (simp; omega) | omega))))))⟩
          case measure => simp [intOf]; omega
        · have hF' : emptyB q.1 q.2 = false := by simpa using hF
          by_cases h1 : p.1 < q.1
          all_goals
            by_cases h2 : q.2 < p.2
            all_goals
              go_wp2_with fail
              go_quiet (fail)
              go_wp2_with fail
              go_quiet (fail)
              go_wp2
              go_roundw
              case rel => exact ⟨k + 1, by omega, by go_num, (by repeat (first | with_reducible assumption | with_reducible exact Blk.new _ _ _ | with_reducible apply Blk.drewN | with_reducible apply Blk.drew | with_reducible apply Blk.alloc | with_reducible apply Blk.set | (with_reducible apply Blk.far; rotate_left; focus (first | (simp; done) | (simp; omega) | omega)))), blk_eq (by repeat (first | with_reducible assumption | with_reducible exact Blk.new _ _ _ | with_reducible apply Blk.drewN | with_reducible apply Blk.drew | with_reducible apply Blk.alloc | with_reducible apply Blk.set | (with_reducible apply Blk.far; rotate_left; focus (first | (simp; done) | (simp; omega) | omega)))) (by rw [HS.out, HQ.out, ← HP.out, rstep, if_neg hE, if_neg hF]; simp [widen]; omega), (by first | exact Below.refl _ _ | (repeat (first | exact Below.refl _ _ | assumption | refine Below.drew ?_ | refine Below.drewN_ ?_ _ | refine Below.alloc ?_ (by first | exact Nat.le_refl _ | (simp; done) | (simp; omega) | omega) _ | refine Below.setCell ?_ (by first | exact Nat.le_refl _ | (simp; done) | (simp; omega) | omega) _ | (refine Below.trans ?_ (Below.mono (by assumption) (by first | exact Nat.le_refl _ | (simp; done) | (simp; omega) | omega))))))⟩
              case measure => simp [intOf]; omega
    · have d0 : wr.cell? ⟨w0.heap.size, 0, none⟩ = some (.int .i64 q.1) := hB1.cell_ 0 rfl
      have d1 : wr.cell? ⟨w0.heap.size, 1, none⟩ = some (.int .i64 q.2) := hB1.cell_ 1 rfl
      have e0 : wr.cell? ⟨w.heap.size, 0, none⟩ = some (.int .i64 0) := hB0.cell_ 0 rfl
      have e1 : wr.cell? ⟨w.heap.size, 1, none⟩ = some (.int .i64 0) := hB0.cell_ 1 rfl
      have f0 := hB0.frozen 0
      have f1 := hB0.frozen 1
      have hfin : Hid (q = rcover l) := by rw [← HQ.out, List.take_of_length_le (by omega)]; rfl
      go_wp2
      refine bodyPost_ret (v := rv (rcover l)) ?_ rfl ⟨rfl, (by first | exact Below.refl _ _ | (repeat (first | exact Below.refl _ _ | assumption | refine Below.drew ?_ | refine Below.drewN_ ?_ _ | refine Below.alloc ?_ (by first | exact Nat.le_refl _ | (simp; done) | (simp; omega) | omega) _ | refine Below.setCell ?_ (by first | exact Nat.le_refl _ | (simp; done) | (simp; omega) | omega) _ | (refine Below.trans ?_ (Below.mono (by assumption) (by first | exact Nat.le_refl _ | (simp; done) | (simp; omega) | omega))))))⟩
      rw [← hfin.out]
      simp [results, Try.results26, go_sem, e0, e1]
end SpanW
end Go.Proofs.Ytehlgpfkpagaeaa
