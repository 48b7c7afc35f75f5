/- The walk of package skip: a page. The reference's walk of package skip: a page. -/
import Derived.Test.YtnghmcadhjneeaaSkpK
namespace Go.Proofs.Ytnghmcadhjneeaa
set_option linter.unusedVariables false
set_option linter.unusedSimpArgs false
set_option linter.unnecessarySimpa false
open Go.RowKit
namespace SkpW

/-- The first hits, and the number of the next one. -/
def pageV (l : List Rc) (n : Int) : List Rc × Int := (l.take n.toNat, match l[n.toNat]? with | some r => if 0 ≤ n then r.1 else 0 | none => 0)
theorem pageV_all (l : List Rc) (n : Int) (h : (l.length : Int) ≤ max n 0) : pageV l n = (l, 0) := by
  unfold pageV
  rw [List.take_of_length_le (by omega), List.getElem?_eq_none (by omega)]
theorem pageV_cut (l : List Rc) (k : Nat) (h : k < l.length) : pageV l (k : Int) = (l.take k, l[k].1) := by
  unfold pageV
  simp [List.getElem?_eq_getElem h]
theorem chk0_pos (q : Qy) (h : chkQ q = 0) : 1 ≤ q.limit ∧ q.limit ≤ 1000 := by
  unfold chkQ at h
  split at h
  · omega
  · omega
theorem hit_limit (q : Qy) (l : List Rc) (h : 0 < (l.filter (hitA (ofQ q))).length) : 1 ≤ q.limit ∧ q.limit ≤ 1000 := by
  by_cases hc : chkQ q = 0
  · exact chk0_pos q hc
  · exfalso
    have : l.filter (hitA (ofQ q)) = [] := by
      rw [List.filter_eq_nil_iff]
      intro r _
      unfold hitA ofQ
      rw [if_neg hc]
      have hz : SpanW.hasB 1 0 r.1 = false := by simp [SpanW.hasB]; omega
      dsimp only
      rw [hz]
      simp
    rw [this] at h
    simp at h

set_option maxRecDepth 100000 in
set_option maxHeartbeats 4000000 in
theorem page_any (q : Qy) (A : Option Addr) (n c : Nat) (l : List Rc) (w : World) (h : Rd w w.heap.size 3 A n (rcells l)) (hn : n ≤ 1000000) (hf : q.find.length ≤ 100000) (hd : ∀ r ∈ l, r.2.2.length ≤ 100000)
    (v : List Rc × Int) (hv : pageV (l.filter (hitA (ofQ q))) q.limit = v) :
    Calls Try.prog 35 #[qv q, .slice A n c] w fun e w' => ∃ A' m c', e = .returned (.agg #[.slice A' m c', .int .i64 v.2]) ∧ Rd w' w'.heap.size 3 A' m (rcells v.1) ∧ (∀ k, blkOf A' = some k → w.heap.size ≤ k ∧ k < w'.heap.size) ∧ Below w.heap.size w w' := by
  have hlim := hit_limit q l
  have hfl : (l.filter (hitA (ofQ q))).length ≤ 1000000 := by
    have := List.length_filter_le (hitA (ofQ q)) l
    have := rd_rlen h
    omega
  have C := fun w HH => filter_any q A n c l w HH hn hf hd
  generalize l.filter (hitA (ofQ q)) = hits at *
  clear hd
  have b0 := (Blk.new w 67 (qc q)).alloc (.cells #[.slice none 0 0, .int .i64 0] 70)
  have b1 := Blk.new (w.alloc (.cells (qc q) 67)) 70 #[.slice none 0 0, .int .i64 0]
  rw [World.size_alloc] at b1
  have HB : Below w.heap.size w ((w.alloc (.cells (qc q) 67)).alloc (.cells #[.slice none 0 0, .int .i64 0] 70)) := ((Below.refl _ w).alloc (Nat.le_refl _) _).alloc (by simp) _
  go_enter Try.func35, Try.ntmps35
  go_wp2_with fail
  refine (C _ ((h.below HB).more HB.size)).mono ?_
  clear C
  rintro e w1 ⟨A1, m, c1, rfl, o1, hb1⟩
  replace b0 := b0.below hb1 b0.lt
  replace b1 := b1.below hb1 b1.lt
  have hm : hits.length = m := rd_rlen o1.rd
  have hcap := o1.cap
  replace HB := HB.trans (hb1.mono HB.size)
  have hob := o1.blk
  have zb := HB.size
  clear hb1
  have hne : blkOf A1 ≠ some (w.heap.size + 1) := fun e => by
    have := (hob _ e).1
    simp only [World.size_alloc] at this
    omega
  have hbq := b1.lt
  have b0' := b0
  have b1' := b1
  obtain ⟨q0, q1, q2, q3, q4, q5, q6⟩ := blk7 b0'
  obtain ⟨k0, k1, f0, f1, _⟩ := blk2 b1'
  clear b0' b1'
  by_cases hle : (m : Int) ≤ max q.limit 0
  · rw [pageV_all hits q.limit (by omega)] at hv
    subst hv
    clear hlim
    obtain ⟨mx, hmx⟩ : ∃ x, max q.limit 0 = x := ⟨_, rfl⟩
    have oN := (o1.far (p := ⟨w.heap.size + 1, 0, none⟩) hne (.slice A1 m c1)).far (p := ⟨w.heap.size + 1, 1, none⟩) hne (.int .i64 0)
    have bN := (b1.set 0 (.slice A1 m c1)).set 1 (.int .i64 0)
    have bN' := blk_eq (cs' := #[.slice A1 m c1, .int .i64 0]) bN (by simp)
    have hN := (HB.setCell (p := ⟨w.heap.size + 1, 0, none⟩) (by simp) (.slice A1 m c1)).setCell (p := ⟨w.heap.size + 1, 1, none⟩) (by simp) (.int .i64 0)
    clear hob hne bN
    go_wp2_with fail
    refine bodyPost_ret (results_row1 rfl _ _ (w.heap.size + 1) 70 #[.slice A1 m c1, .int .i64 0] (0, 0) _ rfl bN' Try.underlying70 rfl (by kernel_rfl)) rfl ?_
    exact ⟨A1, m, ⟨c1, rfl⟩, oN.rd, fun k hk => by have := oN.blk k hk; simp only [World.size_alloc, World.size_setCell, World.size_drew] at this ⊢; omega, hN⟩
  · have hl2 := hlim (by omega)
    obtain ⟨k, hk⟩ := Int.eq_ofNat_of_zero_le (show 0 ≤ q.limit by omega)
    have hkm : k < m := by omega
    have hkh : k < hits.length := by omega
    rw [hk, pageV_cut hits k hkh] at hv
    obtain ⟨b, rfl⟩ : ∃ b, A1 = some ⟨b, 0, none⟩ := by
      rcases o1.shape with ⟨_, h0, _⟩ | ⟨b, rfl, _⟩
      · omega
      · exact ⟨b, rfl⟩
    have hget := (rcells_get hits k hkh).1
    obtain ⟨nx, hnx⟩ : ∃ x, hits[k].1 = x := ⟨_, rfl⟩
    rw [hnx] at hget hv
    subst hv
    have d0 := own_cell o1 (k * 3) hget
    have oS := o1.short (i := k) (by omega)
    rw [rcells_take] at oS
    have hki : (k : Int) < (m : Int) := by omega
    have hk0 : (0 : Int) ≤ (k : Int) := by omega
    have hkc : (k : Int) ≤ (c1 : Int) := by omega
    have hsl : ∀ w, (Instr.slice 22 (.slice (some ⟨b, 0, none⟩) m c1) none (some (.int .i64 k)) (some (.int .i64 k))).run Try.prog w = .ok (.slice (some ⟨b, 0, none⟩) k k) w := fun w => by
      obtain ⟨i, z, hi, _, hsize, _, _⟩ := RecW.El_rec'.inf
      have hel : Try.prog.elem 22 = 26 := by unfold Program.elem; rw [RecW.El_rec'.und]
      rw [run_slice_hm w _ (some ⟨b, 0, none⟩) m c1 (by rw [hel]; exact RecW.El_rec'.und) .i64 .i64 k k (by omega) (by omega) (by omega), hel]
      have hs : ((sizeOf 26).run Try.prog w) = .ok i.size w := by simp [sizeOf, typeInfo, hi]
      rw [hs, Result.andThen_ok]
      simp only [sliced, Int.toNat_natCast, Nat.sub_zero, Nat.zero_mul]
      congr 2
      split
      · rfl
      · simp [add_lit]
    have hqk : (qc q)[5]? = some (.int .i64 k) := by rw [← hk]; rfl
    have hqn : w.heap.size ≠ w.heap.size + 1 := by omega
    have HQ := Lib.hid hqk
    have HG := Lib.hid hget
    have HN := Lib.hid hne
    clear hget hne hob hqk hnx
    rw [hk] at q5
    go_wp2_with fail
    refine wp_region_held_drew (S := (fun w' => w'.cell? ⟨w.heap.size, 5, none⟩ = some (.int .i64 k) ∧ w'.cell? ⟨b, k * 3, none⟩ = some (.int .i64 nx))) (by kernel_rfl) ?_ (fun hHeld => ?_)
    · replace HB := Below.drew HB; replace b1 := Blk.drew b1; replace oS := Own.drew oS; replace b0 := Blk.drew b0; replace o1 := Own.drew o1; (try dsimp only); exact ⟨q5, d0⟩
    replace HB := Below.drew HB
    replace b1 := Blk.drew b1
    replace oS := Own.drew oS
    replace b0 := Blk.drew b0
    replace o1 := Own.drew o1
    have zHB := HB.size
    refine take_move 0 (Operand.tmp 5) rfl rfl (by first | exact .inl rfl | exact .inr rfl) rfl (by kernel_rfl) (by kernel_rfl) (by kernel_rfl) (fun _ _ _ h => h) (by assumption) ?_
    simp only [List.setIfInBounds_toArray, List.set_cons_zero, List.set_cons_succ]
    refine take_op (v := ?vu1x1) 1 (Op.fieldAddr 67 (Operand.tmp 2) 3) 0 rfl rfl rfl rfl rfl (by kernel_rfl) (by kernel_rfl) (by kernel_rfl) (fun _ _ _ h => h) ?yu1x1 (by assumption) ?ru1x1
    case yu1x1 => (intro w' hSw; (try dsimp only at hSw); go_simp; try (with_reducible rfl))
    simp only [List.setIfInBounds_toArray, List.set_cons_zero, List.set_cons_succ]
    refine take_op (v := ?vu1x2) 2 (Op.load 3 (Operand.tmp 18)) 3 rfl rfl rfl rfl rfl (by kernel_rfl) (by kernel_rfl) (by kernel_rfl) (fun _ _ _ h => h) ?yu1x2 (by assumption) ?ru1x2
    case yu1x2 => (intro w' hSw; (try dsimp only at hSw); go_simp; try (with_reducible rfl))
    simp only [List.setIfInBounds_toArray, List.set_cons_zero, List.set_cons_succ]
    refine take_op (v := ?vu1x3) 3 (Op.fieldAddr 67 (Operand.tmp 2) 3) 0 rfl rfl rfl rfl rfl (by kernel_rfl) (by kernel_rfl) (by kernel_rfl) (fun _ _ _ h => h) ?yu1x3 (by assumption) ?ru1x3
    case yu1x3 => (intro w' hSw; (try dsimp only at hSw); go_simp; try (with_reducible rfl))
    simp only [List.setIfInBounds_toArray, List.set_cons_zero, List.set_cons_succ]
    refine take_op (v := ?vu1x4) 4 (Op.load 3 (Operand.tmp 20)) 3 rfl rfl rfl rfl rfl (by kernel_rfl) (by kernel_rfl) (by kernel_rfl) (fun _ _ _ h => h) ?yu1x4 (by assumption) ?ru1x4
    case yu1x4 => (intro w' hSw; (try dsimp only at hSw); go_simp; try (with_reducible rfl))
    simp only [List.setIfInBounds_toArray, List.set_cons_zero, List.set_cons_succ]
    refine take_op (v := ?vu1x5) 5 (Op.slice 22 (Operand.tmp 17) none (some (Operand.tmp 19)) (some (Operand.tmp 21))) 22 rfl rfl rfl rfl rfl (by kernel_rfl) (by kernel_rfl) (by kernel_rfl) (fun _ _ _ h => h) ?yu1x5 (by assumption) ?ru1x5
    case yu1x5 => (intro w' hSw; (try dsimp only at hSw); go_simp; try (with_reducible rfl))
    simp only [List.setIfInBounds_toArray, List.set_cons_zero, List.set_cons_succ]
    refine take_move 6 (Operand.tmp 5) rfl rfl (by first | exact .inl rfl | exact .inr rfl) rfl (by kernel_rfl) (by kernel_rfl) (by kernel_rfl) (fun _ _ _ h => h) (by assumption) ?_
    simp only [List.setIfInBounds_toArray, List.set_cons_zero, List.set_cons_succ]
    refine take_op (v := ?vu1x7) 7 (Op.fieldAddr 67 (Operand.tmp 2) 3) 0 rfl rfl rfl rfl rfl (by kernel_rfl) (by kernel_rfl) (by kernel_rfl) (fun _ _ _ h => h) ?yu1x7 (by assumption) ?ru1x7
    case yu1x7 => (intro w' hSw; (try dsimp only at hSw); go_simp; try (with_reducible rfl))
    simp only [List.setIfInBounds_toArray, List.set_cons_zero, List.set_cons_succ]
    refine take_op (v := ?vu1x8) 8 (Op.load 3 (Operand.tmp 24)) 3 rfl rfl rfl rfl rfl (by kernel_rfl) (by kernel_rfl) (by kernel_rfl) (fun _ _ _ h => h) ?yu1x8 (by assumption) ?ru1x8
    case yu1x8 => (intro w' hSw; (try dsimp only at hSw); go_simp; try (with_reducible rfl))
    simp only [List.setIfInBounds_toArray, List.set_cons_zero, List.set_cons_succ]
    refine take_op (v := ?vu1x9) 9 (Op.indexAddr 22 (Operand.tmp 23) (Operand.tmp 25)) 0 rfl rfl rfl rfl rfl (by kernel_rfl) (by kernel_rfl) (by kernel_rfl) (fun _ _ _ h => h) ?yu1x9 (by assumption) ?ru1x9
    case yu1x9 => (intro w' hSw; (try dsimp only at hSw); go_simp; try (with_reducible rfl))
    simp only [List.setIfInBounds_toArray, List.set_cons_zero, List.set_cons_succ]
    refine take_op (v := ?vu1x10) 10 (Op.fieldAddr 26 (Operand.tmp 26) 0) 0 rfl rfl rfl rfl rfl (by kernel_rfl) (by kernel_rfl) (by kernel_rfl) (fun _ _ _ h => h) ?yu1x10 (by assumption) ?ru1x10
    case yu1x10 => (intro w' hSw; (try dsimp only at hSw); go_simp; try (with_reducible rfl))
    simp only [List.setIfInBounds_toArray, List.set_cons_zero, List.set_cons_succ]
    refine take_op (v := ?vu1x11) 11 (Op.load 3 (Operand.tmp 27)) 3 rfl rfl rfl rfl rfl (by kernel_rfl) (by kernel_rfl) (by kernel_rfl) (fun _ _ _ h => h) ?yu1x11 (by assumption) ?ru1x11
    case yu1x11 => (intro w' hSw; (try dsimp only at hSw); go_simp; try (with_reducible rfl))
    simp only [List.setIfInBounds_toArray, List.set_cons_zero, List.set_cons_succ]
    refine take_op (v := ?vu1x12) 12 (Op.build 70 #[(0, Operand.tmp 22), (1, Operand.tmp 28)]) 70 rfl rfl rfl rfl rfl (by kernel_rfl) (by kernel_rfl) (by kernel_rfl) (fun _ _ _ h => h) ?yu1x12 (by assumption) ?ru1x12
    case yu1x12 => (intro w' hSw; (try dsimp only at hSw); go_simp; try (with_reducible rfl))
    simp only [List.setIfInBounds_toArray, List.set_cons_zero, List.set_cons_succ]
    refine wpAnyH_ready (rs := [13]) (by kernel_rfl) (by simp) (AllReadyH.cons rfl (fun K13 hK13 => ?ku1x13) AllReadyH.nil)
    refine take_store 13 (Op.store 70 (Operand.tmp 4) (Operand.tmp 29)) 0 rfl rfl rfl (by kernel_rfl) (w' := (w1.drew.setCell ⟨w.heap.size + 1, 0, none⟩ (.slice (some ⟨b, 0, none⟩) k k)).setCell ⟨w.heap.size + 1, 1, none⟩ (.int .i64 nx)) (by obtain ⟨k0, k1, f0, f1, _⟩ := blk2 b1; go_simp; try (with_reducible rfl)) ?_
    refine hK13.out _ _ (⟨((b0.far (p := ⟨w.heap.size + 1, 0, none⟩) hqn _).far (p := ⟨w.heap.size + 1, 1, none⟩) hqn _).cell_ 5 HQ.out, own_cell ((o1.far (p := ⟨w.heap.size + 1, 0, none⟩) HN.out _).far (p := ⟨w.heap.size + 1, 1, none⟩) HN.out _) (k * 3) HG.out⟩) (fun hHeld => ?_)
    refine wpAnyH_done (by kernel_rfl) ?_ _
    have oN := (oS.far (p := ⟨w.heap.size + 1, 0, none⟩) HN.out (.slice (some ⟨b, 0, none⟩) k k)).far (p := ⟨w.heap.size + 1, 1, none⟩) HN.out (.int .i64 nx)
    have bN := (b1.set 0 (.slice (some ⟨b, 0, none⟩) k k)).set 1 (.int .i64 nx)
    have bN' := blk_eq (cs' := #[.slice (some ⟨b, 0, none⟩) k k, .int .i64 nx]) bN (by simp)
    have hN := (HB.setCell (p := ⟨w.heap.size + 1, 0, none⟩) (by simp) (.slice (some ⟨b, 0, none⟩) k k)).setCell (p := ⟨w.heap.size + 1, 1, none⟩) (by simp) (.int .i64 nx)
    go_wp2_with fail
    refine bodyPost_ret (results_row1 rfl _ _ (w.heap.size + 1) 70 #[.slice (some ⟨b, 0, none⟩) k k, .int .i64 nx] (0, 0) _ rfl bN' Try.underlying70 rfl (by kernel_rfl)) rfl ?_
    exact ⟨some ⟨b, 0, none⟩, k, ⟨k, rfl⟩, oN.rd, fun k hk => by have := oN.blk k hk; simp only [World.size_alloc, World.size_setCell, World.size_drew] at this ⊢; omega, hN⟩
end SkpW
end Go.Proofs.Ytnghmcadhjneeaa

namespace Go.Proofs.Ytnghmcadhjneeaa
set_option linter.unusedVariables false
set_option linter.unusedSimpArgs false
set_option linter.unnecessarySimpa false
open Go.RowKit
namespace SkpW
open RecW (El_rec')

theorem hitR_limit (q : Qy) (l : List Rc) (h : 0 < (l.filter (hitR q)).length) : 1 ≤ q.limit ∧ q.limit ≤ 1000 := by
  by_cases hc : chkQ q = 0
  · exact chk0_pos q hc
  · exfalso
    have : l.filter (hitR q) = [] := by
      rw [List.filter_eq_nil_iff]
      intro r _
      unfold hitR
      simp [hc]
    rw [this] at h
    simp at h
theorem pageV_lt (l : List Rc) (k L : Nat) (h : k < L) (hk : k < l.length) : pageV (l.take (k + 1)) L = ((pageV (l.take k) L).1 ++ [l[k]], 0) ∧ (pageV (l.take k) L).2 = 0 ∧ (pageV (l.take k) L).1 = l.take k := by
  rw [pageV_all _ _ (by rw [List.length_take]; omega), pageV_all _ _ (by rw [List.length_take]; omega)]
  refine ⟨?_, rfl, rfl⟩
  rw [List.take_succ_eq_append_getElem hk]
theorem pageV_eq (l : List Rc) (L : Nat) (hk : L < l.length) : pageV (l.take (L + 1)) L = ((pageV (l.take L) L).1, l[L].1) := by
  rw [pageV_all (l.take L) _ (by rw [List.length_take]; omega), pageV_cut _ L (by rw [List.length_take]; omega)]
  simp [List.take_take]
theorem pageV_gt (l : List Rc) (k L : Nat) (h : L < k) (hk : k < l.length) : pageV (l.take (k + 1)) L = pageV (l.take k) L := by
  rw [pageV_cut _ L (by rw [List.length_take]; omega), pageV_cut _ L (by rw [List.length_take]; omega)]
  simp [List.take_take]
  omega
theorem pageV_len (l : List Rc) (n : Int) : (pageV l n).1.length ≤ l.length := by
  unfold pageV
  rw [List.length_take]
  omega

theorem rd_cell3 {w : World} {B b o n : Nat} {l : List Rc} (h : Rd w B 3 (some ⟨b, o, none⟩) n (rcells l)) (k : Nat) (hk : k < l.length) (x y : Int) (d : List UInt8) (hr : l[k] = (x, y, d)) :
    w.cell? ⟨b, o + k * 3, none⟩ = some (.int .i64 x) ∧ w.cell? ⟨b, o + k * 3 + 1, none⟩ = some (.int .i64 y) ∧ w.cell? ⟨b, o + k * 3 + 2, none⟩ = some (str d) := by
  have hn : 0 < n := by have := rd_rlen h; omega
  obtain ⟨b', o', e, _, hc⟩ := rd_recs h hn
  simp only [Option.some.injEq, Addr.mk.injEq, and_true] at e
  obtain ⟨rfl, rfl⟩ := e
  have := hc k hk
  rwa [hr] at this
set_option maxRecDepth 100000 in
set_option maxHeartbeats 4000000 in
theorem refPage_any (q : Qy) (A : Option Addr) (n c : Nat) (l : List Rc) (w : World) (h : Rd w w.heap.size 3 A n (rcells l)) (hn : n ≤ 1000000) (hf : q.find.length ≤ 100000) (hd : ∀ r ∈ l, r.2.2.length ≤ 100000)
    (v : List Rc × Int) (hv : pageV (l.filter (hitR q)) q.limit = v) :
    Calls Try.prog 36 #[qv q, .slice A n c] w fun e w' => ∃ A' m c', e = .returned (.agg #[.slice A' m c', .int .i64 v.2]) ∧ Rd w' w'.heap.size 3 A' m (rcells v.1) ∧ (∀ k, blkOf A' = some k → w.heap.size ≤ k ∧ k < w'.heap.size) ∧ Below w.heap.size w w' := by
  have hlim := hitR_limit q l
  have hfl : (l.filter (hitR q)).length ≤ 1000000 := by
    have := List.length_filter_le (hitR q) l
    have := rd_rlen h
    omega
  have C := fun w HH => refFilter_any q A n c l w HH hn hf hd
  generalize l.filter (hitR q) = hits at *
  clear hd
  have b0 := (Blk.new w 67 (qc q)).alloc (.cells #[.slice none 0 0, .int .i64 0] 70)
  have b1 := Blk.new (w.alloc (.cells (qc q) 67)) 70 #[.slice none 0 0, .int .i64 0]
  rw [World.size_alloc] at b1
  have HB : Below w.heap.size w ((w.alloc (.cells (qc q) 67)).alloc (.cells #[.slice none 0 0, .int .i64 0] 70)) := ((Below.refl _ w).alloc (Nat.le_refl _) _).alloc (by simp) _
  go_enter Try.func36, Try.ntmps36
  go_wp2_with fail
  refine (C _ ((h.below HB).more HB.size)).mono ?_
  clear C
  rintro e w1 ⟨A1, m, c1, rfl, o1, hb1⟩
  replace b0 := b0.below hb1 b0.lt
  replace b1 := b1.below hb1 b1.lt
  have hm : hits.length = m := rd_rlen o1.rd
  replace HB := HB.trans (hb1.mono HB.size)
  have hz1 := HB.size
  have hob : w.heap.size + 2 ≤ w1.heap.size := by have := hb1.size; simp only [World.size_alloc] at this; omega
  have r1 := o1.rd
  have bP := Blk.new w1 70 #[.slice none 0 0, .int .i64 0]
  have HBP := HB.alloc HB.size (.cells #[.slice none 0 0, .int .i64 0] 70)
  replace b0 := b0.alloc (.cells #[.slice none 0 0, .int .i64 0] 70)
  replace b1 := b1.alloc (.cells #[.slice none 0 0, .int .i64 0] 70)
  clear hb1 o1
  go_wp2_with fail
  go_loopw [7] (fun i wr => ∃ (k : Nat) (A2 : Option Addr) (j c2 : Nat) (p : List Rc × Int), i = .int .i64 k ∧ k ≤ m ∧ pageV (hits.take k) q.limit = p ∧ j ≤ k ∧ Own wr (w1.heap.size + 1) 26 3 A2 j c2 (rcells p.1) ∧ Blk wr w1.heap.size 70 #[.slice A2 j c2, .int .i64 p.2] ∧
    Blk wr w.heap.size 67 (qc q) ∧ Blk wr (w.heap.size + 1) 70 #[.slice none 0 0, .int .i64 0] ∧ Below w.heap.size w wr ∧ Rd wr w1.heap.size 3 A1 m (rcells hits)) (fun i _ => m - (intOf i).toNat)
  case atStart => exact ⟨0, none, 0, 0, ([], 0), rfl, by omega, by unfold pageV; simp, by omega, by simpa [rcells] using Own.nil _ _ _ _, bP, b0, b1, HBP, r1.below ((Below.refl _ _).alloc (Nat.le_refl _) _)⟩
  case round =>
    obtain ⟨k, A2, j, c2, p, rfl, hk, hp, hj, o2, p2, q2, g2, hbw, r2⟩ := hrel
    have hsz := hbw.size
    clear bP b0 b1 HBP r1
    obtain ⟨p1, px⟩ := p
    dsimp only at o2 p2
    by_cases hlt : k < m
    · have hkh : k < hits.length := by omega
      have hl2 := hlim (by omega)
      obtain ⟨L, hL⟩ := Int.eq_ofNat_of_zero_le (show 0 ≤ q.limit by omega)
      rw [hL] at hp
      obtain ⟨b, o, rfl, hb, hc⟩ := rd_recs r2 (by omega)
      obtain ⟨ra, rb, rd, hr⟩ : ∃ x y z, hits[k] = (x, y, z) := ⟨_, _, _, rfl⟩
      have RC := Lib.hid (fun (w' : World) (hx : Rd w' w1.heap.size 3 (some ⟨b, o, none⟩) m (rcells hits)) => rd_cell3 hx k hkh ra rb rd hr)
      obtain ⟨d0, d1, d2⟩ := RC.out _ r2
      clear hc
      have q2' := q2
      obtain ⟨s0, s1, s2, s3, s4, s5, s6⟩ := blk7 q2'
      rw [hL] at s5
      have hki : (k : Int) < (m : Int) := by omega
      have hk0 : (0 : Int) ≤ (k : Int) := by omega
      have hPL : pageV (hits.take (k + 1)) q.limit = pageV (hits.take (k + 1)) L := by rw [hL]
      have HPL := Lib.hid hPL
      have hpw := p2.lt
      have HLL := Lib.hid hL
      have HW := hbw
      clear q2' hPL
      rcases Nat.lt_trichotomy k L with hkL | hkL | hkL
      · obtain ⟨hnew, hz, hacc⟩ := pageV_lt hits k L hkL hkh
        rw [hp] at hnew hz
        rw [hr] at hnew
        dsimp only at hnew hz
        have HNEW := Lib.hid hnew
        subst hz
        have hkLI : (k : Int) < (L : Int) := by omega
        have hkLe : ((k : Int) == (L : Int)) = false := by simp; omega
        clear hnew hacc hp hr hlim hL
        go_wp2_with fail
        refine wp_region_held_drew (S := (fun w' => w'.cell? ⟨b, o + k * 3, none⟩ = some (.int .i64 ra) ∧ w'.cell? ⟨b, o + k * 3 + 1, none⟩ = some (.int .i64 rb) ∧ w'.cell? ⟨b, o + k * 3 + 2, none⟩ = some (str rd))) (by kernel_rfl) ?_ (fun hHeld => ?_)
        · replace HW := Below.drew HW; replace o2 := Own.drew o2; replace p2 := Blk.drew p2; replace q2 := Blk.drew q2; replace g2 := Blk.drew g2; replace r2 := Rd.drew r2; (try dsimp only); exact RC.out _ r2
        replace HW := Below.drew HW
        replace o2 := Own.drew o2
        replace p2 := Blk.drew p2
        replace q2 := Blk.drew q2
        replace g2 := Blk.drew g2
        replace r2 := Rd.drew r2
        have zHW := HW.size
        refine take_op (v := ?vu2x0) 0 (Op.fieldAddr 70 (Operand.tmp 6) 0) 0 rfl rfl rfl rfl rfl (by kernel_rfl) (by kernel_rfl) (by kernel_rfl) (fun _ _ _ h => h) ?yu2x0 (by assumption) ?ru2x0
        case yu2x0 => (intro w' hSw; (try dsimp only at hSw); go_simp; try (with_reducible rfl))
        simp only [List.setIfInBounds_toArray, List.set_cons_zero, List.set_cons_succ]
        refine take_move 2 (Operand.tmp 5) rfl rfl (by first | exact .inl rfl | exact .inr rfl) rfl (by kernel_rfl) (by kernel_rfl) (by kernel_rfl) (fun _ _ _ h => h) (by assumption) ?_
        simp only [List.setIfInBounds_toArray, List.set_cons_zero, List.set_cons_succ]
        refine take_move 3 (Operand.tmp 7) rfl rfl (by first | exact .inl rfl | exact .inr rfl) rfl (by kernel_rfl) (by kernel_rfl) (by kernel_rfl) (fun _ _ _ h => h) (by assumption) ?_
        simp only [List.setIfInBounds_toArray, List.set_cons_zero, List.set_cons_succ]
        refine take_op (v := ?vu2x4) 4 (Op.indexAddr 22 (Operand.tmp 23) (Operand.tmp 24)) 0 rfl rfl rfl rfl rfl (by kernel_rfl) (by kernel_rfl) (by kernel_rfl) (fun _ _ _ h => h) ?yu2x4 (by assumption) ?ru2x4
        case yu2x4 => (intro w' hSw; (try dsimp only at hSw); go_simp; try (with_reducible rfl))
        simp only [List.setIfInBounds_toArray, List.set_cons_zero, List.set_cons_succ]
        refine take_op (v := ?vu2x5) 5 (Op.load 26 (Operand.tmp 25)) 26 rfl rfl rfl rfl rfl (by kernel_rfl) (by kernel_rfl) (by kernel_rfl) (fun _ _ _ h => h) ?yu2x5 (by assumption) ?ru2x5
        case yu2x5 => (intro w' hSw; (try dsimp only at hSw); go_simp; try (with_reducible rfl))
        simp only [List.setIfInBounds_toArray, List.set_cons_zero, List.set_cons_succ]
        refine wpAnyH_ready (rs := [1, 6]) (by kernel_rfl) (by simp) (AllReadyH.cons rfl (fun K1 hK1 => ?ku2x1) (AllReadyH.cons rfl (fun K6 hK6 => ?ku2x6) AllReadyH.nil))
        case ku2x1 =>
          refine take_any 1 (Op.load 22 (Operand.tmp 21)) 22 rfl rfl rfl (by kernel_rfl) (v := .slice A2 j c2) (by have cL := p2.cell_ 0 rfl; go_simp; try (with_reducible rfl)) ?_
          refine hK1.out _ _ ?su2xb1x1 (fun hHeld => ?ru2xb1x1)
          case su2xb1x1 => ((try dsimp only); exact RC.out _ r2)
          try simp only [List.setIfInBounds_toArray, List.set_cons_zero, List.set_cons_succ]
          refine wpAnyH_ready (rs := [6]) (by kernel_rfl) (by simp) (AllReadyH.cons rfl (fun K6 hK6 => ?ku2xb1x6) AllReadyH.nil)
          refine take_build (e := 26) (len := 1) (size := 3) (w1.heap.size + 1) (rcells [(ra, rb, rd)]) 6 (Op.buildSlice 22 1 #[(0, Operand.tmp 26)]) 22 rfl rfl rfl (by kernel_rfl) ?eu2xb1x6 (by rfl) (by decide) (by first | exact Nat.le_refl _ | (simp only [World.size_alloc, World.size_setCell, World.size_drew] at *; omega) | omega) ?_
          case eu2xb1x6 => (go_simp; try (first | with_reducible rfl | (simp [rcells, rcell]; done) | rfl))
          intro gx6 w6 o6 gr6 l6 m6
          have z6 := gr6.size
          try simp only [World.size_drew] at z6
          replace HW := below_grow HW gr6
          have zHW6 := HW.size
          replace o2 := Own.grow0 o2 gr6
          replace p2 := Blk.grow0 p2 gr6
          replace q2 := Blk.grow0 q2 gr6
          replace g2 := Blk.grow0 g2 gr6
          replace r2 := Rd.grow0 r2 gr6 (by first | exact Nat.le_refl _ | (simp only [World.size_alloc, World.size_setCell, World.size_drew] at *; omega) | omega)
          refine hK6.out _ _ ?su2xb1x6 (fun hHeld => ?ru2xb1x6)
          case su2xb1x6 => ((try dsimp only); exact RC.out _ r2)
          try simp only [List.setIfInBounds_toArray, List.set_cons_zero, List.set_cons_succ]
          refine wpAnyH_ready (rs := [7]) (by kernel_rfl) (by simp) (AllReadyH.cons rfl (fun K7 hK7 => ?ku2xb1x7) AllReadyH.nil)
          refine take_app El_rec' 7 (Operand.tmp 22) (Operand.tmp 27) 22 rfl rfl rfl (by kernel_rfl) o2 rfl (o6.rd) rfl (rcells_one _) (by unfold maxLen; omega) (by omega) (by first | exact Nat.le_refl _ | (simp only [World.size_alloc, World.size_setCell, World.size_drew] at *; omega) | omega) ?_
          intro A7 c7 w7 o7 gr7 at7
          have z7 := gr7.size
          try simp only [World.size_drew] at z7
          replace HW := below_grown HW gr7 o2 (by first | exact Nat.le_refl _ | (simp only [World.size_alloc, World.size_setCell, World.size_drew] at *; omega) | omega)
          have zHW7 := HW.size
          replace p2 := Blk.grown p2 gr7 (by intro e; have := o2.blk _ e.symm; omega)
          replace q2 := Blk.grown q2 gr7 (by intro e; have := o2.blk _ e.symm; omega)
          replace g2 := Blk.grown g2 gr7 (by intro e; have := o2.blk _ e.symm; omega)
          replace r2 := Rd.grownOwn r2 gr7 o2 (by first | exact Nat.le_refl _ | (simp only [World.size_alloc, World.size_setCell, World.size_drew] at *; omega) | omega) (by first | exact Nat.le_refl _ | (simp only [World.size_alloc, World.size_setCell, World.size_drew] at *; omega) | omega)
          refine hK7.out _ _ ?su2xb1x7 (fun hHeld => ?ru2xb1x7)
          case su2xb1x7 => ((try dsimp only); exact RC.out _ r2)
          try simp only [List.setIfInBounds_toArray, List.set_cons_zero, List.set_cons_succ]
          refine take_op (v := ?vu2xb1x8) 8 (Op.fieldAddr 70 (Operand.tmp 6) 0) 0 rfl rfl rfl rfl rfl (by kernel_rfl) (by kernel_rfl) (by kernel_rfl) (fun _ _ _ h => h) ?yu2xb1x8 (by assumption) ?ru2xb1x8
          case yu2xb1x8 => (intro w' hSw; (try dsimp only at hSw); go_simp; try (with_reducible rfl))
          simp only [List.setIfInBounds_toArray, List.set_cons_zero, List.set_cons_succ]
          refine wpAnyH_ready (rs := [9]) (by kernel_rfl) (by simp) (AllReadyH.cons rfl (fun K9 hK9 => ?ku2xb1x9) AllReadyH.nil)
          refine take_store 9 (Op.store 22 (Operand.tmp 29) (Operand.tmp 28)) 0 rfl rfl rfl (by kernel_rfl) (w' := w7.setCell ⟨w1.heap.size, 0, none⟩ (.slice A7 (j + 1) c7)) (by obtain ⟨cL, _, fL, _, _⟩ := blk2 p2; go_simp; try (with_reducible rfl)) ?_
          refine hK9.out _ _ (RC.out _ (r2.below ((Below.refl _ _).setCell (p := ⟨w1.heap.size, 0, none⟩) (Nat.le_refl _) _))) (fun hHeld => ?_)
          refine wpAnyH_done (by kernel_rfl) ?_ _
          have hob7 := o7.blk
          have pN : Blk (w7.setCell ⟨w1.heap.size, 0, none⟩ (.slice A7 (j + 1) c7)) w1.heap.size 70 #[.slice A7 (j + 1) c7, .int .i64 0] := blk_eq (p2.set 0 _) (by simp)
          have oN := o7.far (p := ⟨w1.heap.size, 0, none⟩) (fun e => by have := (hob7 _ e).1; dsimp only at this; omega) (.slice A7 (j + 1) c7)
          have qN := q2.far (p := ⟨w1.heap.size, 0, none⟩) (by simp; omega) (.slice A7 (j + 1) c7)
          have gN := g2.far (p := ⟨w1.heap.size, 0, none⟩) (by simp; omega) (.slice A7 (j + 1) c7)
          have hN := HW.setCell (p := ⟨w1.heap.size, 0, none⟩) hz1 (.slice A7 (j + 1) c7)
          have rN := r2.below ((Below.refl _ w7).setCell (p := ⟨w1.heap.size, 0, none⟩) (Nat.le_refl _) (.slice A7 (j + 1) c7))
          have qN' := qN
          obtain ⟨s0, s1, s2, s3, s4, s5', s6⟩ := blk7 qN'
          rw [← rcells_append] at oN
          generalize w7.setCell ⟨w1.heap.size, 0, none⟩ (.slice A7 (j + 1) c7) = wn at *
          rw [HLL.out] at s5'
          go_wp2_with fail
          go_roundw
          case rel => exact ⟨k + 1, A7, j + 1, c7, (p1 ++ [(ra, rb, rd)], 0), by go_num, by omega, HPL.out.trans HNEW.out, by omega, oN, pN, qN, gN, hN, rN⟩
          case measure => simp [intOf]; omega
        case ku2x6 =>
          refine take_build (e := 26) (len := 1) (size := 3) (w1.heap.size + 1) (rcells [(ra, rb, rd)]) 6 (Op.buildSlice 22 1 #[(0, Operand.tmp 26)]) 22 rfl rfl rfl (by kernel_rfl) ?eu2xb5x6 (by rfl) (by decide) (by first | exact Nat.le_refl _ | (simp only [World.size_alloc, World.size_setCell, World.size_drew] at *; omega) | omega) ?_
          case eu2xb5x6 => (go_simp; try (first | with_reducible rfl | (simp [rcells, rcell]; done) | rfl))
          intro gx6 w6 o6 gr6 l6 m6
          have z6 := gr6.size
          try simp only [World.size_drew] at z6
          replace HW := below_grow HW gr6
          have zHW6 := HW.size
          replace o2 := Own.grow0 o2 gr6
          replace p2 := Blk.grow0 p2 gr6
          replace q2 := Blk.grow0 q2 gr6
          replace g2 := Blk.grow0 g2 gr6
          replace r2 := Rd.grow0 r2 gr6 (by first | exact Nat.le_refl _ | (simp only [World.size_alloc, World.size_setCell, World.size_drew] at *; omega) | omega)
          refine hK6.out _ _ ?su2xb5x6 (fun hHeld => ?ru2xb5x6)
          case su2xb5x6 => ((try dsimp only); exact RC.out _ r2)
          try simp only [List.setIfInBounds_toArray, List.set_cons_zero, List.set_cons_succ]
          refine wpAnyH_ready (rs := [1]) (by kernel_rfl) (by simp) (AllReadyH.cons rfl (fun K1 hK1 => ?ku2xb5x1) AllReadyH.nil)
          refine take_any 1 (Op.load 22 (Operand.tmp 21)) 22 rfl rfl rfl (by kernel_rfl) (v := .slice A2 j c2) (by have cL := p2.cell_ 0 rfl; go_simp; try (with_reducible rfl)) ?_
          refine hK1.out _ _ ?su2xb5x1 (fun hHeld => ?ru2xb5x1)
          case su2xb5x1 => ((try dsimp only); exact RC.out _ r2)
          try simp only [List.setIfInBounds_toArray, List.set_cons_zero, List.set_cons_succ]
          refine wpAnyH_ready (rs := [7]) (by kernel_rfl) (by simp) (AllReadyH.cons rfl (fun K7 hK7 => ?ku2xb5x7) AllReadyH.nil)
          refine take_app El_rec' 7 (Operand.tmp 22) (Operand.tmp 27) 22 rfl rfl rfl (by kernel_rfl) o2 rfl (o6.rd) rfl (rcells_one _) (by unfold maxLen; omega) (by omega) (by first | exact Nat.le_refl _ | (simp only [World.size_alloc, World.size_setCell, World.size_drew] at *; omega) | omega) ?_
          intro A7 c7 w7 o7 gr7 at7
          have z7 := gr7.size
          try simp only [World.size_drew] at z7
          replace HW := below_grown HW gr7 o2 (by first | exact Nat.le_refl _ | (simp only [World.size_alloc, World.size_setCell, World.size_drew] at *; omega) | omega)
          have zHW7 := HW.size
          replace p2 := Blk.grown p2 gr7 (by intro e; have := o2.blk _ e.symm; omega)
          replace q2 := Blk.grown q2 gr7 (by intro e; have := o2.blk _ e.symm; omega)
          replace g2 := Blk.grown g2 gr7 (by intro e; have := o2.blk _ e.symm; omega)
          replace r2 := Rd.grownOwn r2 gr7 o2 (by first | exact Nat.le_refl _ | (simp only [World.size_alloc, World.size_setCell, World.size_drew] at *; omega) | omega) (by first | exact Nat.le_refl _ | (simp only [World.size_alloc, World.size_setCell, World.size_drew] at *; omega) | omega)
          refine hK7.out _ _ ?su2xb5x7 (fun hHeld => ?ru2xb5x7)
          case su2xb5x7 => ((try dsimp only); exact RC.out _ r2)
          try simp only [List.setIfInBounds_toArray, List.set_cons_zero, List.set_cons_succ]
          refine take_op (v := ?vu2xb5x8) 8 (Op.fieldAddr 70 (Operand.tmp 6) 0) 0 rfl rfl rfl rfl rfl (by kernel_rfl) (by kernel_rfl) (by kernel_rfl) (fun _ _ _ h => h) ?yu2xb5x8 (by assumption) ?ru2xb5x8
          case yu2xb5x8 => (intro w' hSw; (try dsimp only at hSw); go_simp; try (with_reducible rfl))
          simp only [List.setIfInBounds_toArray, List.set_cons_zero, List.set_cons_succ]
          refine wpAnyH_ready (rs := [9]) (by kernel_rfl) (by simp) (AllReadyH.cons rfl (fun K9 hK9 => ?ku2xb5x9) AllReadyH.nil)
          refine take_store 9 (Op.store 22 (Operand.tmp 29) (Operand.tmp 28)) 0 rfl rfl rfl (by kernel_rfl) (w' := w7.setCell ⟨w1.heap.size, 0, none⟩ (.slice A7 (j + 1) c7)) (by obtain ⟨cL, _, fL, _, _⟩ := blk2 p2; go_simp; try (with_reducible rfl)) ?_
          refine hK9.out _ _ (RC.out _ (r2.below ((Below.refl _ _).setCell (p := ⟨w1.heap.size, 0, none⟩) (Nat.le_refl _) _))) (fun hHeld => ?_)
          refine wpAnyH_done (by kernel_rfl) ?_ _
          have hob7 := o7.blk
          have pN : Blk (w7.setCell ⟨w1.heap.size, 0, none⟩ (.slice A7 (j + 1) c7)) w1.heap.size 70 #[.slice A7 (j + 1) c7, .int .i64 0] := blk_eq (p2.set 0 _) (by simp)
          have oN := o7.far (p := ⟨w1.heap.size, 0, none⟩) (fun e => by have := (hob7 _ e).1; dsimp only at this; omega) (.slice A7 (j + 1) c7)
          have qN := q2.far (p := ⟨w1.heap.size, 0, none⟩) (by simp; omega) (.slice A7 (j + 1) c7)
          have gN := g2.far (p := ⟨w1.heap.size, 0, none⟩) (by simp; omega) (.slice A7 (j + 1) c7)
          have hN := HW.setCell (p := ⟨w1.heap.size, 0, none⟩) hz1 (.slice A7 (j + 1) c7)
          have rN := r2.below ((Below.refl _ w7).setCell (p := ⟨w1.heap.size, 0, none⟩) (Nat.le_refl _) (.slice A7 (j + 1) c7))
          have qN' := qN
          obtain ⟨s0, s1, s2, s3, s4, s5', s6⟩ := blk7 qN'
          rw [← rcells_append] at oN
          generalize w7.setCell ⟨w1.heap.size, 0, none⟩ (.slice A7 (j + 1) c7) = wn at *
          rw [HLL.out] at s5'
          go_wp2_with fail
          go_roundw
          case rel => exact ⟨k + 1, A7, j + 1, c7, (p1 ++ [(ra, rb, rd)], 0), by go_num, by omega, HPL.out.trans HNEW.out, by omega, oN, pN, qN, gN, hN, rN⟩
          case measure => simp [intOf]; omega
      · subst hkL
        have hnew := pageV_eq hits k hkh
        rw [hp, hr] at hnew
        dsimp only at hnew
        have HNEW := Lib.hid hnew
        have hkLI : ¬ (k : Int) < (k : Int) := by omega
        have p2' := p2
        obtain ⟨k0, k1, f0, f1, _⟩ := blk2 p2'
        have hob2 := o2.blk
        have pN : Blk (wr.setCell ⟨w1.heap.size, 1, none⟩ (.int .i64 ra)) w1.heap.size 70 #[.slice A2 j c2, .int .i64 ra] := blk_eq (p2.set 1 _) (by simp)
        have oN := o2.far (p := ⟨w1.heap.size, 1, none⟩) (fun e => by have := (hob2 _ e).1; dsimp only at this; omega) (.int .i64 ra)
        have qN := q2.far (p := ⟨w1.heap.size, 1, none⟩) (by simp; omega) (.int .i64 ra)
        have gN := g2.far (p := ⟨w1.heap.size, 1, none⟩) (by simp; omega) (.int .i64 ra)
        have hN := HW.setCell (p := ⟨w1.heap.size, 1, none⟩) hz1 (.int .i64 ra)
        have rN := r2.below ((Below.refl _ wr).setCell (p := ⟨w1.heap.size, 1, none⟩) (Nat.le_refl _) (.int .i64 ra))
        clear hnew hp hr hlim hL p2' hob2
        go_wp2_with fail
        go_roundw
        case rel => exact ⟨k + 1, A2, j, c2, (p1, ra), by go_num, by omega, HPL.out.trans HNEW.out, by omega, oN, pN, qN, gN, hN, rN⟩
        case measure => simp [intOf]; omega
      · have hnew := pageV_gt hits k L hkL hkh
        rw [hp] at hnew
        have HNEW := Lib.hid hnew
        have hkLI : ¬ (k : Int) < (L : Int) := by omega
        have hkLe : ((k : Int) == (L : Int)) = false := by simp; omega
        clear hnew hp hr hlim hL
        go_wp2_with fail
        go_roundw
        case rel => exact ⟨k + 1, A2, j, c2, (p1, px), by go_num, by omega, HPL.out.trans HNEW.out, by omega, o2, p2, q2, g2, HW, r2⟩
        case measure => simp [intOf]; omega
    · have hz : hits.take k = hits := List.take_of_length_le (by omega)
      rw [hz, hv] at hp
      subst hp
      have p2' := p2
      obtain ⟨k0, k1, f0, f1, _⟩ := blk2 p2'
      have g2' := g2
      obtain ⟨m0, m1, n0, n1, _⟩ := blk2 g2'
      have hob2 := o2.blk
      have gN : Blk ((wr.setCell ⟨w.heap.size + 1, 0, none⟩ (.slice A2 j c2)).setCell ⟨w.heap.size + 1, 1, none⟩ (.int .i64 px)) (w.heap.size + 1) 70 #[.slice A2 j c2, .int .i64 px] := blk_eq ((g2.set 0 (.slice A2 j c2)).set 1 (.int .i64 px)) (by simp)
      have oN := (o2.far (p := ⟨w.heap.size + 1, 0, none⟩) (fun e => by have := (hob2 _ e).1; dsimp only at this; omega) (.slice A2 j c2)).far (p := ⟨w.heap.size + 1, 1, none⟩) (fun e => by have := (hob2 _ e).1; dsimp only at this; omega) (.int .i64 px)
      have hN := (hbw.setCell (p := ⟨w.heap.size + 1, 0, none⟩) (by simp) (.slice A2 j c2)).setCell (p := ⟨w.heap.size + 1, 1, none⟩) (by simp) (.int .i64 px)
      clear p2' g2' hob2
      go_wp2_with fail
      refine bodyPost_ret (results_row1 rfl _ _ (w.heap.size + 1) 70 #[.slice A2 j c2, .int .i64 px] (0, 0) _ rfl gN Try.underlying70 rfl (by kernel_rfl)) rfl ?_
      exact ⟨A2, j, ⟨c2, rfl⟩, oN.rd, fun k hk => by have := oN.blk k hk; simp only [World.size_alloc, World.size_setCell, World.size_drew] at this ⊢; omega, hN⟩
end SkpW
end Go.Proofs.Ytnghmcadhjneeaa
