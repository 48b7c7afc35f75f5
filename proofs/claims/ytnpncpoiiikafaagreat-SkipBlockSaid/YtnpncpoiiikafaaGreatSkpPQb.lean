/- The walk of package skip: a page. The reference's walk of package skip: a page. -/
import Derived.Test.YtnpncpoiiikafaaGreatSkpKQb
namespace Go.Proofs.YtnpncpoiiikafaaGreat
set_option linter.unusedVariables false
set_option linter.unusedSimpArgs false
set_option linter.unnecessarySimpa false
open Go.RowKit
namespace SkpW

/-- The first hits, and the number of the next one. -/
def pageV (l : List Rc) (n : Int) : List Rc × Int := (l.take n.toNat, match l[n.toNat]? with | some r => if 0 ≤ n then r.1 else 0 | none => 0)
theorem pageV_all (l : List Rc) (n : Int) (h : (l.length : Int) ≤ max n 0) : pageV l n = (l, 0) := by
  unfold pageV
  rw [List.take_of_length_le (by omega), List.getElem?_eq_none (by omega)]
theorem pageV_cut (l : List Rc) (k : Nat) (h : k < l.length) : pageV l (k : Int) = (l.take k, l[k].1) := by
  unfold pageV
  simp [List.getElem?_eq_getElem h]
theorem chk0_pos (q : Qy) (h : chkQ q = 0) : 1 ≤ q.limit ∧ q.limit ≤ 1000 := by
  unfold chkQ at h
  split at h
  · omega
  · omega
theorem hit_limit (q : Qy) (l : List Rc) (h : 0 < (l.filter (hitA (ofQ q))).length) : 1 ≤ q.limit ∧ q.limit ≤ 1000 := by
  by_cases hc : chkQ q = 0
  · exact chk0_pos q hc
  · exfalso
    have : l.filter (hitA (ofQ q)) = [] := by
      rw [List.filter_eq_nil_iff]
      intro r _
      unfold hitA ofQ
      rw [if_neg hc]
      have hz : SpanW.hasB 1 0 r.1 = false := by simp [SpanW.hasB]; omega
      dsimp only
      rw [hz]
      simp
    rw [this] at h
    simp at h

set_option maxRecDepth 100000 in
set_option maxHeartbeats 4000000 in
theorem page_any (q : Qy) (A : Option Addr) (n c : Nat) (l : List Rc) (w : World) (h : Rd w w.heap.size 3 A n (rcells l)) (hn : n ≤ 1000000) (hf : q.find.length ≤ 100000) (hd : ∀ r ∈ l, r.2.2.length ≤ 100000)
    (v : List Rc × Int) (hv : pageV (l.filter (hitA (ofQ q))) q.limit = v) :
    Calls Tryz.prog 60 #[qv q, .slice A n c] w fun e w' => ∃ A' m c', e = .returned (.agg #[.slice A' m c', .int .i64 v.2]) ∧ Rd w' w'.heap.size 3 A' m (rcells v.1) ∧ (∀ k, blkOf A' = some k → w.heap.size ≤ k ∧ k < w'.heap.size) ∧ Below w.heap.size w w' := by
  have hlim := hit_limit q l
  have hfl : (l.filter (hitA (ofQ q))).length ≤ 1000000 := by
    have := List.length_filter_le (hitA (ofQ q)) l
    have := rd_rlen h
    omega
  have C := fun w HH => filter_any q A n c l w HH hn hf hd
  generalize l.filter (hitA (ofQ q)) = hits at *
  clear hd
  have b0 := (Blk.new w 58 (qc q)).alloc (.cells #[.slice none 0 0, .int .i64 0] 119)
  have b1 := Blk.new (w.alloc (.cells (qc q) 58)) 119 #[.slice none 0 0, .int .i64 0]
  rw [World.size_alloc] at b1
  have HB : Below w.heap.size w ((w.alloc (.cells (qc q) 58)).alloc (.cells #[.slice none 0 0, .int .i64 0] 119)) := ((Below.refl _ w).alloc (Nat.le_refl _) _).alloc (by simp) _
  go_enter Tryz.func60, Tryz.ntmps60
  go_wp2_with fail
  refine (C _ ((h.below HB).more HB.size)).mono ?_
  clear C
  rintro e w1 ⟨A1, m, c1, rfl, o1, hb1⟩
  replace b0 := b0.below hb1 b0.lt
  replace b1 := b1.below hb1 b1.lt
  have hm : hits.length = m := rd_rlen o1.rd
  have hcap := o1.cap
  replace HB := HB.trans (hb1.mono HB.size)
  have hob := o1.blk
  have zb := HB.size
  clear hb1
  have hne : blkOf A1 ≠ some (w.heap.size + 1) := fun e => by
    have := (hob _ e).1
    simp only [World.size_alloc] at this
    omega
  have hbq := b1.lt
  have b0' := b0
  have b1' := b1
  obtain ⟨q0, q1, q2, q3, q4, q5, q6⟩ := blk7 b0'
  obtain ⟨k0, k1, f0, f1, _⟩ := blk2 b1'
  clear b0' b1'
  by_cases hle : (m : Int) ≤ max q.limit 0
  · rw [pageV_all hits q.limit (by omega)] at hv
    subst hv
    clear hlim
    obtain ⟨mx, hmx⟩ : ∃ x, max q.limit 0 = x := ⟨_, rfl⟩
    have oN := (o1.far (p := ⟨w.heap.size + 1, 0, none⟩) hne (.slice A1 m c1)).far (p := ⟨w.heap.size + 1, 1, none⟩) hne (.int .i64 0)
    have bN := (b1.set 0 (.slice A1 m c1)).set 1 (.int .i64 0)
    have bN' := blk_eq (cs' := #[.slice A1 m c1, .int .i64 0]) bN (by simp)
    have hN := (HB.setCell (p := ⟨w.heap.size + 1, 0, none⟩) (by simp) (.slice A1 m c1)).setCell (p := ⟨w.heap.size + 1, 1, none⟩) (by simp) (.int .i64 0)
    clear hob hne bN
    go_wp2_with fail
    refine bodyPost_ret (results_row1 rfl _ _ (w.heap.size + 1) 119 #[.slice A1 m c1, .int .i64 0] (0, 0) _ rfl bN' Tryz.underlying119 rfl (by kernel_rfl)) rfl ?_
    exact ⟨A1, m, ⟨c1, rfl⟩, oN.rd, fun k hk => by have := oN.blk k hk; simp only [World.size_alloc, World.size_setCell, World.size_drew] at this ⊢; omega, hN⟩
  · have hl2 := hlim (by omega)
    obtain ⟨k, hk⟩ := Int.eq_ofNat_of_zero_le (show 0 ≤ q.limit by omega)
    have hkm : k < m := by omega
    have hkh : k < hits.length := by omega
    rw [hk, pageV_cut hits k hkh] at hv
    obtain ⟨b, rfl⟩ : ∃ b, A1 = some ⟨b, 0, none⟩ := by
      rcases o1.shape with ⟨_, h0, _⟩ | ⟨b, rfl, _⟩
      · omega
      · exact ⟨b, rfl⟩
    have hget := (rcells_get hits k hkh).1
    obtain ⟨nx, hnx⟩ : ∃ x, hits[k].1 = x := ⟨_, rfl⟩
    rw [hnx] at hget hv
    subst hv
    have d0 := own_cell o1 (k * 3) hget
    have oS := o1.short (i := k) (by omega)
    rw [rcells_take] at oS
    have hki : (k : Int) < (m : Int) := by omega
    have hk0 : (0 : Int) ≤ (k : Int) := by omega
    have hkc : (k : Int) ≤ (c1 : Int) := by omega
    have hsl : ∀ w, (Instr.slice 29 (.slice (some ⟨b, 0, none⟩) m c1) none (some (.int .i64 k)) (some (.int .i64 k))).run Tryz.prog w = .ok (.slice (some ⟨b, 0, none⟩) k k) w := fun w => by
      obtain ⟨i, z, hi, _, hsize, _, _⟩ := RecW.El_rec'.inf
      have hel : Tryz.prog.elem 29 = 98 := by unfold Program.elem; rw [RecW.El_rec'.und]
      rw [run_slice_hm w _ (some ⟨b, 0, none⟩) m c1 (by rw [hel]; exact RecW.El_rec'.und) .i64 .i64 k k (by omega) (by omega) (by omega), hel]
      have hs : ((sizeOf 98).run Tryz.prog w) = .ok i.size w := by simp [sizeOf, typeInfo, hi]
      rw [hs, Result.andThen_ok]
      simp only [sliced, Int.toNat_natCast, Nat.sub_zero, Nat.zero_mul]
      congr 2
      split
      · rfl
      · simp [add_lit]
    have hqk : (qc q)[5]? = some (.int .i64 k) := by rw [← hk]; rfl
    have hqn : w.heap.size ≠ w.heap.size + 1 := by omega
    have HQ := Lib.hid hqk
    have HG := Lib.hid hget
    have HN := Lib.hid hne
    clear hget hne hob hqk hnx
    rw [hk] at q5
    go_wp2_with fail
    refine wp_region_held_drew (S := (fun w' => w'.cell? ⟨w.heap.size, 5, none⟩ = some (.int .i64 k) ∧ w'.cell? ⟨b, k * 3, none⟩ = some (.int .i64 nx))) (by kernel_rfl) ?_ (fun hHeld => ?_)
    · replace HB := Below.drew HB; replace b1 := Blk.drew b1; replace oS := Own.drew oS; replace b0 := Blk.drew b0; replace o1 := Own.drew o1; (try dsimp only); exact ⟨q5, d0⟩
    replace HB := Below.drew HB
    replace b1 := Blk.drew b1
    replace oS := Own.drew oS
    replace b0 := Blk.drew b0
    replace o1 := Own.drew o1
    have zHB := HB.size
    refine take_movev (v := ?vu1x0) 0 (Operand.tmp 5) rfl rfl (by first | exact .inl rfl | exact .inr rfl) rfl (by kernel_rfl) (by kernel_rfl) (by kernel_rfl) (fun _ _ _ h => h) (by assumption) ?yu1x0 ?ru1x0
    case yu1x0 => (go_simp; try (with_reducible rfl))
    simp only [List.setIfInBounds_toArray, List.set_cons_zero, List.set_cons_succ]
    refine take_op (v := ?vu1x1) 1 (Op.fieldAddr 58 (Operand.tmp 2) 3) 0 rfl rfl rfl rfl rfl (by kernel_rfl) (by kernel_rfl) (by kernel_rfl) (fun _ _ _ h => h) ?yu1x1 (by assumption) ?ru1x1
    case yu1x1 => (intro w' hSw; (try dsimp only at hSw); go_simp; try (with_reducible rfl))
    simp only [List.setIfInBounds_toArray, List.set_cons_zero, List.set_cons_succ]
    refine take_op (v := ?vu1x2) 2 (Op.load 3 (Operand.tmp 18)) 3 rfl rfl rfl rfl rfl (by kernel_rfl) (by kernel_rfl) (by kernel_rfl) (fun _ _ _ h => h) ?yu1x2 (by assumption) ?ru1x2
    case yu1x2 => (intro w' hSw; (try dsimp only at hSw); go_simp; try (with_reducible rfl))
    simp only [List.setIfInBounds_toArray, List.set_cons_zero, List.set_cons_succ]
    refine take_op (v := ?vu1x3) 3 (Op.fieldAddr 58 (Operand.tmp 2) 3) 0 rfl rfl rfl rfl rfl (by kernel_rfl) (by kernel_rfl) (by kernel_rfl) (fun _ _ _ h => h) ?yu1x3 (by assumption) ?ru1x3
    case yu1x3 => (intro w' hSw; (try dsimp only at hSw); go_simp; try (with_reducible rfl))
    simp only [List.setIfInBounds_toArray, List.set_cons_zero, List.set_cons_succ]
    refine take_op (v := ?vu1x4) 4 (Op.load 3 (Operand.tmp 20)) 3 rfl rfl rfl rfl rfl (by kernel_rfl) (by kernel_rfl) (by kernel_rfl) (fun _ _ _ h => h) ?yu1x4 (by assumption) ?ru1x4
    case yu1x4 => (intro w' hSw; (try dsimp only at hSw); go_simp; try (with_reducible rfl))
    simp only [List.setIfInBounds_toArray, List.set_cons_zero, List.set_cons_succ]
    refine take_op (v := ?vu1x5) 5 (Op.slice 29 (Operand.tmp 17) none (some (Operand.tmp 19)) (some (Operand.tmp 21))) 29 rfl rfl rfl rfl rfl (by kernel_rfl) (by kernel_rfl) (by kernel_rfl) (fun _ _ _ h => h) ?yu1x5 (by assumption) ?ru1x5
    case yu1x5 => (intro w' hSw; (try dsimp only at hSw); go_simp; try (with_reducible rfl))
    simp only [List.setIfInBounds_toArray, List.set_cons_zero, List.set_cons_succ]
    refine take_movev (v := ?vu1x6) 6 (Operand.tmp 5) rfl rfl (by first | exact .inl rfl | exact .inr rfl) rfl (by kernel_rfl) (by kernel_rfl) (by kernel_rfl) (fun _ _ _ h => h) (by assumption) ?yu1x6 ?ru1x6
    case yu1x6 => (go_simp; try (with_reducible rfl))
    simp only [List.setIfInBounds_toArray, List.set_cons_zero, List.set_cons_succ]
    refine take_op (v := ?vu1x7) 7 (Op.fieldAddr 58 (Operand.tmp 2) 3) 0 rfl rfl rfl rfl rfl (by kernel_rfl) (by kernel_rfl) (by kernel_rfl) (fun _ _ _ h => h) ?yu1x7 (by assumption) ?ru1x7
    case yu1x7 => (intro w' hSw; (try dsimp only at hSw); go_simp; try (with_reducible rfl))
    simp only [List.setIfInBounds_toArray, List.set_cons_zero, List.set_cons_succ]
    refine take_op (v := ?vu1x8) 8 (Op.load 3 (Operand.tmp 24)) 3 rfl rfl rfl rfl rfl (by kernel_rfl) (by kernel_rfl) (by kernel_rfl) (fun _ _ _ h => h) ?yu1x8 (by assumption) ?ru1x8
    case yu1x8 => (intro w' hSw; (try dsimp only at hSw); go_simp; try (with_reducible rfl))
    simp only [List.setIfInBounds_toArray, List.set_cons_zero, List.set_cons_succ]
    refine take_op (v := ?vu1x9) 9 (Op.indexAddr 29 (Operand.tmp 23) (Operand.tmp 25)) 0 rfl rfl rfl rfl rfl (by kernel_rfl) (by kernel_rfl) (by kernel_rfl) (fun _ _ _ h => h) ?yu1x9 (by assumption) ?ru1x9
    case yu1x9 => (intro w' hSw; (try dsimp only at hSw); go_simp; try (with_reducible rfl))
    simp only [List.setIfInBounds_toArray, List.set_cons_zero, List.set_cons_succ]
    refine take_op (v := ?vu1x10) 10 (Op.fieldAddr 98 (Operand.tmp 26) 0) 0 rfl rfl rfl rfl rfl (by kernel_rfl) (by kernel_rfl) (by kernel_rfl) (fun _ _ _ h => h) ?yu1x10 (by assumption) ?ru1x10
    case yu1x10 => (intro w' hSw; (try dsimp only at hSw); go_simp; try (with_reducible rfl))
    simp only [List.setIfInBounds_toArray, List.set_cons_zero, List.set_cons_succ]
    refine take_op (v := ?vu1x11) 11 (Op.load 3 (Operand.tmp 27)) 3 rfl rfl rfl rfl rfl (by kernel_rfl) (by kernel_rfl) (by kernel_rfl) (fun _ _ _ h => h) ?yu1x11 (by assumption) ?ru1x11
    case yu1x11 => (intro w' hSw; (try dsimp only at hSw); go_simp; try (with_reducible rfl))
    simp only [List.setIfInBounds_toArray, List.set_cons_zero, List.set_cons_succ]
    refine take_op (v := ?vu1x12) 12 (Op.build 119 #[(0, Operand.tmp 22), (1, Operand.tmp 28)]) 119 rfl rfl rfl rfl rfl (by kernel_rfl) (by kernel_rfl) (by kernel_rfl) (fun _ _ _ h => h) ?yu1x12 (by assumption) ?ru1x12
    case yu1x12 => (intro w' hSw; (try dsimp only at hSw); go_simp; try (with_reducible rfl))
    simp only [List.setIfInBounds_toArray, List.set_cons_zero, List.set_cons_succ]
    refine wpAnyH_ready (rs := [13]) (by kernel_rfl) (by simp) (AllReadyH.cons rfl (fun K13 hK13 => ?ku1x13) AllReadyH.nil)
    refine take_store 13 (Op.store 119 (Operand.tmp 4) (Operand.tmp 29)) 0 rfl rfl rfl (by kernel_rfl) (w' := (w1.drew.setCell ⟨w.heap.size + 1, 0, none⟩ (.slice (some ⟨b, 0, none⟩) k k)).setCell ⟨w.heap.size + 1, 1, none⟩ (.int .i64 nx)) (by obtain ⟨k0, k1, f0, f1, _⟩ := blk2 b1; go_simp; try (with_reducible rfl)) ?_
    refine hK13.out _ _ (⟨((b0.far (p := ⟨w.heap.size + 1, 0, none⟩) hqn _).far (p := ⟨w.heap.size + 1, 1, none⟩) hqn _).cell_ 5 HQ.out, own_cell ((o1.far (p := ⟨w.heap.size + 1, 0, none⟩) HN.out _).far (p := ⟨w.heap.size + 1, 1, none⟩) HN.out _) (k * 3) HG.out⟩) (fun hHeld => ?_)
    refine wpAnyH_done (by kernel_rfl) ?_ _
    have oN := (oS.far (p := ⟨w.heap.size + 1, 0, none⟩) HN.out (.slice (some ⟨b, 0, none⟩) k k)).far (p := ⟨w.heap.size + 1, 1, none⟩) HN.out (.int .i64 nx)
    have bN := (b1.set 0 (.slice (some ⟨b, 0, none⟩) k k)).set 1 (.int .i64 nx)
    have bN' := blk_eq (cs' := #[.slice (some ⟨b, 0, none⟩) k k, .int .i64 nx]) bN (by simp)
    have hN := (HB.setCell (p := ⟨w.heap.size + 1, 0, none⟩) (by simp) (.slice (some ⟨b, 0, none⟩) k k)).setCell (p := ⟨w.heap.size + 1, 1, none⟩) (by simp) (.int .i64 nx)
    go_wp2_with fail
    refine bodyPost_ret (results_row1 rfl _ _ (w.heap.size + 1) 119 #[.slice (some ⟨b, 0, none⟩) k k, .int .i64 nx] (0, 0) _ rfl bN' Tryz.underlying119 rfl (by kernel_rfl)) rfl ?_
    exact ⟨some ⟨b, 0, none⟩, k, ⟨k, rfl⟩, oN.rd, fun k hk => by have := oN.blk k hk; simp only [World.size_alloc, World.size_setCell, World.size_drew] at this ⊢; omega, hN⟩
end SkpW
end Go.Proofs.YtnpncpoiiikafaaGreat

namespace Go.Proofs.YtnpncpoiiikafaaGreat
set_option linter.unusedVariables false
set_option linter.unusedSimpArgs false
set_option linter.unnecessarySimpa false
open Go.RowKit
namespace SkpW
open RecW (El_rec')

theorem rd_cell3 {w : World} {B b o n : Nat} {l : List Rc} (h : Rd w B 3 (some ⟨b, o, none⟩) n (rcells l)) (k : Nat) (hk : k < l.length) (x y : Int) (d : List UInt8) (hr : l[k] = (x, y, d)) :
    w.cell? ⟨b, o + k * 3, none⟩ = some (.int .i64 x) ∧ w.cell? ⟨b, o + k * 3 + 1, none⟩ = some (.int .i64 y) ∧ w.cell? ⟨b, o + k * 3 + 2, none⟩ = some (str d) := by
  have hn : 0 < n := by have := rd_rlen h; omega
  obtain ⟨b', o', e, _, hc⟩ := rd_recs h hn
  simp only [Option.some.injEq, Addr.mk.injEq, and_true] at e
  obtain ⟨rfl, rfl⟩ := e
  have := hc k hk
  rwa [hr] at this
end SkpW
end Go.Proofs.YtnpncpoiiikafaaGreat
