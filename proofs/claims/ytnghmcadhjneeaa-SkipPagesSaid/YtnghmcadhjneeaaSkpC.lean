/- The law of package skip on segments: plain facts on rows of records, and the walk. -/
import Derived.Test.YtnghmcadhjneeaaSkpX
import Derived.Test.YtnghmcadhjneeaaSkpY
import Derived.Test.YtnghmcadhjneeaaRecC
namespace Go.Proofs.Ytnghmcadhjneeaa
set_option linter.unusedVariables false
set_option linter.unusedSimpArgs false
set_option linter.unnecessarySimpa false
open Go.RowKit
namespace SkpW
open SpanW (R rv meetsB emptyB hasB)
open RecW (few_any few_len fewB)

theorem few_dat {l : List Rc} (h : fewB l = true) : ∀ r ∈ l, r.2.2.length ≤ 100000 := by
  intro r hr
  unfold fewB at h
  rw [Bool.and_eq_true, List.all_eq_true] at h
  have := h.2 r hr
  simp only [decide_eq_true_eq] at this
  omega
theorem row_chain (p : Rc) (l : List Rc) (h : rowFrom (some p) l = 0) : ∀ i (hi : i < l.length), l[i].1 = p.1 + 1 + i ∧ p.2.1 ≤ l[i].2.1 ∧ ∀ j (hj : j < l.length), i ≤ j → l[i].2.1 ≤ l[j].2.1 := by
  induction l generalizing p with
  | nil => intro i hi; simp at hi
  | cons r l ih =>
    unfold rowFrom at h
    by_cases ho : okR r = true
    · rw [if_pos ho] at h
      dsimp only at h
      by_cases hx : nextB p r = true
      · rw [if_pos hx] at h
        have IH := ih r h
        unfold nextB at hx
        simp only [Bool.and_eq_true, decide_eq_true_eq] at hx
        intro i hi
        cases i with
        | zero =>
          refine ⟨by simp only [List.getElem_cons_zero]; omega, by simpa using hx.2, fun j hj _ => ?_⟩
          cases j with
          | zero => simp
          | succ j =>
            have := (IH j (by simpa using hj)).2.1
            simpa using this
        | succ i =>
          have hi' : i < l.length := by simpa using hi
          obtain ⟨h1, h2, h3⟩ := IH i hi'
          refine ⟨by simp only [List.getElem_cons_succ]; push_cast; omega, by simp only [List.getElem_cons_succ]; omega, fun j hj hij => ?_⟩
          cases j with
          | zero => omega
          | succ j =>
            have := h3 j (by simpa using hj) (by omega)
            simpa using this
      · rw [if_neg hx] at h
        omega
    · rw [if_neg ho] at h
      omega
/-- In a row numbers go on by one, times don't fall. -/
theorem row_span {l : List Rc} (h : rowN l = 0) : ∀ i (hi : i < l.length), l[i].1 = (l[0]'(by omega)).1 + i ∧ ∀ j (hj : j < l.length), i ≤ j → l[i].2.1 ≤ l[j].2.1 := by
  cases l with
  | nil => intro i hi; simp at hi
  | cons r l =>
    unfold rowN rowFrom at h
    by_cases ho : okR r = true
    · rw [if_pos ho] at h
      dsimp only at h
      have IH := row_chain r l h
      intro i hi
      cases i with
      | zero =>
        refine ⟨by simp, fun j hj _ => ?_⟩
        cases j with
        | zero => simp
        | succ j =>
          have := (IH j (by simpa using hj)).2.1
          simpa using this
      | succ i =>
        obtain ⟨h1, h2, h3⟩ := IH i (by simpa using hi)
        refine ⟨by simp only [List.getElem_cons_succ, List.getElem_cons_zero]; push_cast; omega, fun j hj hij => ?_⟩
        cases j with
        | zero => omega
        | succ j =>
          have := h3 j (by simpa using hj) (by omega)
          simpa using this
    · rw [if_neg ho] at h
      omega
theorem meets_of {p s : R} {x : Int} (h1 : hasB p.1 p.2 x = true) (h2 : s.1 ≤ x ∧ x ≤ s.2) : meetsB p s = true := by
  unfold hasB at h1
  simp only [Bool.and_eq_true, decide_eq_true_eq] at h1
  rw [SpanW.meets_eq]
  simp only [emptyB, Bool.and_eq_true, Bool.not_eq_true', decide_eq_false_iff_not, decide_eq_true_eq]
  omega
/-- A segment that has a hit need be read, sealed or open. -/
theorem seg_hit (q : Qy) (l : List Rc) (e : En) (hr : rowN l = 0) (hl : 0 < l.length) (hc : chkE e = 0) (hf : e.frst = (l[0]'hl).1) (hh : 0 < (l.filter (hitA (ofQ q))).length)
    (hs : e.shut = true → e.count = l.length ∧ e.early = (l[0]'hl).2.1 ∧ e.late = (l[l.length - 1]'(by omega)).2.1) : segB q e = true := by
  obtain ⟨r, hr1⟩ := List.exists_mem_of_ne_nil _ (List.length_pos_iff.1 hh)
  obtain ⟨hmem, hit⟩ := List.mem_filter.1 hr1
  obtain ⟨i, hi, rfl⟩ := List.mem_iff_getElem.1 hmem
  unfold hitA at hit
  simp only [Bool.and_eq_true] at hit
  obtain ⟨h1, h2, _⟩ := hit
  obtain ⟨s1, s2⟩ := row_span hr i hi
  have s3 := s2 (l.length - 1) (by omega) (by omega)
  have s4 := (row_span hr 0 hl).2 i hi (by omega)
  have hok := (okR_iff _).1 (rowFrom_ok hr _ (List.getElem_mem hi))
  unfold segB
  rw [decide_eq_true hc, Bool.true_and]
  by_cases hsh : e.shut = true
  · rw [if_pos hsh]
    obtain ⟨g1, g2, g3⟩ := hs hsh
    obtain ⟨k1, k2⟩ := sE_yes e hsh hc
    have hb := chkE_le e hsh hc
    unfold meetsA
    rw [k1, k2, Bool.and_eq_true]
    have hw : wrap64 (wrap64 (e.frst + e.count) - 1) = e.frst + e.count - 1 := by unfold wrap64; omega
    refine ⟨meets_of h1 ?_, meets_of h2 ?_⟩
    · dsimp only
      rw [hw]
      omega
    · dsimp only
      omega
  · rw [if_neg hsh]
    refine meets_of h1 ?_
    dsimp only
    omega

theorem set9 {w : World} {g : Nat} {t : TypeId} {c0 c1 c2 c3 c4 c5 c6 c7 c8 : Value} (h : Blk w g t #[c0, c1, c2, c3, c4, c5, c6, c7, c8]) (a0 a1 a2 a3 a4 a5 a6 a7 a8 : Value) :
    Blk (((((((((w.setCell ⟨g, 0, none⟩ a0).setCell ⟨g, 1, none⟩ a1).setCell ⟨g, 2, none⟩ a2).setCell ⟨g, 3, none⟩ a3).setCell ⟨g, 4, none⟩ a4).setCell ⟨g, 5, none⟩ a5).setCell ⟨g, 6, none⟩ a6).setCell ⟨g, 7, none⟩ a7).setCell ⟨g, 8, none⟩ a8) g t #[a0, a1, a2, a3, a4, a5, a6, a7, a8] :=
  blk_eq (((((((((h.set 0 a0).set 1 a1).set 2 a2).set 3 a3).set 4 a4).set 5 a5).set 6 a6).set 7 a7).set 8 a8) (by simp)
theorem far9 {w : World} {g g' : Nat} {t : TypeId} {cs : Array Value} (h : Blk w g' t cs) (hne : g' ≠ g) (a0 a1 a2 a3 a4 a5 a6 a7 a8 : Value) :
    Blk (((((((((w.setCell ⟨g, 0, none⟩ a0).setCell ⟨g, 1, none⟩ a1).setCell ⟨g, 2, none⟩ a2).setCell ⟨g, 3, none⟩ a3).setCell ⟨g, 4, none⟩ a4).setCell ⟨g, 5, none⟩ a5).setCell ⟨g, 6, none⟩ a6).setCell ⟨g, 7, none⟩ a7).setCell ⟨g, 8, none⟩ a8) g' t cs :=
  ((((((((h.far (p := ⟨g, 0, none⟩) hne a0).far (p := ⟨g, 1, none⟩) hne a1).far (p := ⟨g, 2, none⟩) hne a2).far (p := ⟨g, 3, none⟩) hne a3).far (p := ⟨g, 4, none⟩) hne a4).far (p := ⟨g, 5, none⟩) hne a5).far (p := ⟨g, 6, none⟩) hne a6).far (p := ⟨g, 7, none⟩) hne a7).far (p := ⟨g, 8, none⟩) hne a8
theorem low9 {w0 w : World} {g : Nat} (h : Below w0.heap.size w0 w) (hg : w0.heap.size ≤ g) (a0 a1 a2 a3 a4 a5 a6 a7 a8 : Value) :
    Below w0.heap.size w0 (((((((((w.setCell ⟨g, 0, none⟩ a0).setCell ⟨g, 1, none⟩ a1).setCell ⟨g, 2, none⟩ a2).setCell ⟨g, 3, none⟩ a3).setCell ⟨g, 4, none⟩ a4).setCell ⟨g, 5, none⟩ a5).setCell ⟨g, 6, none⟩ a6).setCell ⟨g, 7, none⟩ a7).setCell ⟨g, 8, none⟩ a8) :=
  ((((((((h.setCell (p := ⟨g, 0, none⟩) hg a0).setCell (p := ⟨g, 1, none⟩) hg a1).setCell (p := ⟨g, 2, none⟩) hg a2).setCell (p := ⟨g, 3, none⟩) hg a3).setCell (p := ⟨g, 4, none⟩) hg a4).setCell (p := ⟨g, 5, none⟩) hg a5).setCell (p := ⟨g, 6, none⟩) hg a6).setCell (p := ⟨g, 7, none⟩) hg a7).setCell (p := ⟨g, 8, none⟩) hg a8

set_option maxRecDepth 100000 in
set_option maxHeartbeats 16000000 in
theorem segment_law (q : Qy) (A : Option Addr) (n c : Nat) (l : List Rc) (hx hy hz : Int) (w : World) (h : Rd w w.heap.size 3 A n (rcells l)) (hok : ∀ x ∈ l, RcOk x) (hn : n ≤ maxLen) (hfd : q.find.length ≤ maxLen) :
    Calls Try.prog 10 #[qv q, .slice A n c, .agg #[.int .i64 hx, .int .i64 hy, .int .i64 hz]] w fun e w' => e = .returned (.bool true) ∧ Below w.heap.size w w' := by
  unfold maxLen at hn hfd
  have CF := Lib.hid (fun v hv w HH => few_any A n c l v hv w HH (by omega) (fun r hr => by have := (hok r hr).2.2; unfold maxLen at this; omega))
  have CR := Lib.hid (fun w HH => RecW.row_any A n c l w HH (by omega))
  have hl := rd_rlen h
  have bQ := (Blk.new w 67 (qc q)).alloc (.cells #[.int .i64 hx, .int .i64 hy, .int .i64 hz] 80)
  have bH := Blk.new (w.alloc (.cells (qc q) 67)) 80 #[.int .i64 hx, .int .i64 hy, .int .i64 hz]
  rw [World.size_alloc] at bH
  have HB : Below w.heap.size w ((w.alloc (.cells (qc q) 67)).alloc (.cells #[.int .i64 hx, .int .i64 hy, .int .i64 hz] 80)) := hb2 w _ _
  obtain ⟨fw, hfw⟩ : ∃ v, fewB l = v := ⟨_, rfl⟩
  go_enter Try.func10, Try.ntmps10
  go_wp2_with fail
  refine (CF.out fw hfw _ ((h.below HB).more HB.size)).mono ?_
  rintro e w1 ⟨rfl, hb1⟩
  replace bQ := bQ.below hb1 bQ.lt
  replace bH := bH.below hb1 bH.lt
  replace HB := HB.trans (hb1.mono HB.size)
  clear hb1 CF
  cases fw with
  | false =>
    go_wp2_with fail
    refine (awake_any _).mono ?_
    rintro e w2 ⟨rfl, hb2⟩
    go_wp2_with fail
    go_ret
    exact ⟨rfl, HB.trans (hb2.mono HB.size)⟩
  | true =>
    have hlen := few_len hfw
    have hdat := few_dat hfw
    have bQ' := bQ
    obtain ⟨d0, d1, d2, d3, d4, d5, d6⟩ := blk7 bQ'
    clear bQ' hfw hok
    by_cases hm : (1000 : Int) < (q.find.length : Int)
    · go_wp2_with fail
      refine (awake_any _).mono ?_
      rintro e w2 ⟨rfl, hb2⟩
      go_wp2_with fail
      go_ret
      exact ⟨rfl, HB.trans (hb2.mono HB.size)⟩
    · by_cases hn0 : n = 0
      · subst hn0
        go_wp2_with fail
        refine (awake_any _).mono ?_
        rintro e w2 ⟨rfl, hb2⟩
        go_wp2_with fail
        go_ret
        exact ⟨rfl, HB.trans (hb2.mono HB.size)⟩
      · have hn0I : ((n : Int) == 0) = false := by simp; omega
        have hn0D : decide ((n : Int) = 0) = false := by simp; omega
        obtain ⟨rv, hrv⟩ : ∃ x, rowN l = x := ⟨_, rfl⟩
        have CR2 := Lib.hid (fun w HH => hrv ▸ CR.out w HH)
        go_wp2_with fail
        refine (CR2.out _ ((h.below HB).more HB.size)).mono ?_
        rintro e w2 ⟨rfl, hb2⟩
        replace bQ := bQ.below hb2 bQ.lt
        replace bH := bH.below hb2 bH.lt
        replace HB := HB.trans (hb2.mono HB.size)
        clear hb2 d0 d1 d2 d3 d4 d5 d6 CR CR2
        by_cases hrz : rv = 0
        · subst hrz
          have hfl : q.find.length ≤ 1000 := by omega
          have hl0 : 0 < l.length := by omega
          have C1 := Lib.hid (fun w HH => filter_any q A n c l w HH (by omega) (by omega) hdat)
          have HS := Lib.hid (fun e hc hf hs hh => seg_hit q l e hrv hl0 hc hf hh hs)
          generalize l.filter (hitA (ofQ q)) = hits at *
          obtain ⟨ra, rb, rd, hr⟩ : ∃ x y z, l[0] = (x, y, z) := ⟨_, _, _, rfl⟩
          obtain ⟨za, zb, zd, hzr⟩ : ∃ x y z, l[l.length - 1] = (x, y, z) := ⟨_, _, _, rfl⟩
          simp only [hr, hzr] at HS
          have RC := Lib.hid (fun (w' : World) (hx : Below w.heap.size w w') (b o : Nat) (hA : A = some ⟨b, o, none⟩) => And.intro (show w'.cell? ⟨b, o, none⟩ = some (.int .i64 ra) ∧ w'.cell? ⟨b, o + 1, none⟩ = some (.int .i64 rb) ∧ w'.cell? ⟨b, o + 2, none⟩ = some (str rd) from by have := rd_cell3 (hA ▸ h.below hx) 0 hl0 ra rb rd hr; rwa [Nat.zero_mul, Nat.add_zero] at this) (rd_cell3 (hA ▸ h.below hx) (l.length - 1) (by omega) za zb zd hzr))
          clear hrv hr hzr hdat
          obtain ⟨b, o, rfl, hb, _⟩ := rd_recs (h.below HB) (by omega)
          obtain ⟨⟨e0, e1, e2⟩, _⟩ := RC.out _ HB b o rfl
          have bH' := bH
          obtain ⟨k0, k1, k2, f0, f1, f2, _⟩ := blk3 bH'
          have bHN : Blk (w2.setCell ⟨w.heap.size + 1, 2, none⟩ (.int .i64 ra)) (w.heap.size + 1) 80 #[.int .i64 hx, .int .i64 hy, .int .i64 ra] := blk_eq (bH.set 2 _) (by simp)
          have bQN := bQ.far (p := ⟨w.heap.size + 1, 2, none⟩) (by dsimp only; omega) (.int .i64 ra)
          have HBN := HB.setCell (p := ⟨w.heap.size + 1, 2, none⟩) (by dsimp only; omega) (.int .i64 ra)
          have bQN' := bQN
          obtain ⟨d0, d1, d2, d3, d4, d5, d6⟩ := blk7 bQN'
          have hn1 : (0 : Int) < (n : Int) := by omega
          have hn1N : 0 < n := by omega
          clear bH' bQN' bH bQ HB
          go_wp2_with fail
          clear e0 e1 e2 k0 k1 k2 f0 f1 f2
          refine (C1.out _ ((h.below HBN).more HBN.size)).mono ?_
          rintro e w3 ⟨A3, m3, c3, rfl, o3, hb3⟩
          have hm3 : hits.length = m3 := rd_rlen o3.rd
          have bH := bHN.below hb3 bHN.lt
          have bQ := bQN.below hb3 bQN.lt
          have HB := HBN.trans (hb3.mono HBN.size)
          have hgl := bH.lt
          clear hb3 o3 bHN bQN HBN d0 d1 d2 d3 d4 d5 d6
          obtain ⟨⟨e0, e1, e2⟩, z0, z1, z2⟩ := RC.out _ HB b o rfl
          rw [hl] at z0 z1 z2
          have hn2 : wrap64 ((n : Int) - 1) = ((n - 1 : Nat) : Int) := by unfold wrap64; omega
          have hn3 : ((n - 1 : Nat) : Int) < (n : Int) := by omega
          have bL := Blk.new w3 26 #[.int .i64 za, .int .i64 zb, str zd]
          have HBL := HB.alloc HB.size (.cells #[.int .i64 za, .int .i64 zb, str zd] 26)
          replace bH := bH.alloc (.cells #[.int .i64 za, .int .i64 zb, str zd] 26)
          replace bQ := bQ.alloc (.cells #[.int .i64 za, .int .i64 zb, str zd] 26)
          have hgl3 := HB.size
          go_wp2_with fail
          clear z0 z1 z2 e0 e1 e2
          refine wp_region_held_drew (S := (fun w' => (w'.cell? ⟨w.heap.size + 1, 0, none⟩ = some (.int .i64 hx) ∧ w'.cell? ⟨w.heap.size + 1, 1, none⟩ = some (.int .i64 hy) ∧ w'.cell? ⟨w.heap.size + 1, 2, none⟩ = some (.int .i64 ra)) ∧ w'.cell? ⟨b, o + 1, none⟩ = some (.int .i64 rb) ∧ w'.cell? ⟨w3.heap.size, 1, none⟩ = some (.int .i64 zb))) (by kernel_rfl) ?_ (fun hHeld => ?_)
          · replace HBL := Below.drew HBL; replace bH := Blk.drew bH; replace bL := Blk.drew bL; replace bQ := Blk.drew bQ; (try dsimp only); exact ⟨⟨bH.cell_ 0 rfl, bH.cell_ 1 rfl, bH.cell_ 2 rfl⟩, (RC.out _ HBL b o rfl).1.2.1, bL.cell_ 1 rfl⟩
          replace HBL := Below.drew HBL
          replace bH := Blk.drew bH
          replace bL := Blk.drew bL
          replace bQ := Blk.drew bQ
          have zHBL := HBL.size
          refine take_op (v := ?vu1x0) 0 (Op.load 80 (Operand.tmp 5)) 80 rfl rfl rfl rfl rfl (by kernel_rfl) (by kernel_rfl) (by kernel_rfl) (fun _ _ _ h => h) ?yu1x0 (by assumption) ?ru1x0
          case yu1x0 => (intro w' hSw; (try dsimp only at hSw); go_simp; try (with_reducible rfl))
          simp only [List.setIfInBounds_toArray, List.set_cons_zero, List.set_cons_succ]
          refine take_move 1 (Operand.tmp 1) rfl rfl (by first | exact .inl rfl | exact .inr rfl) rfl (by kernel_rfl) (by kernel_rfl) (by kernel_rfl) (fun _ _ _ h => h) (by assumption) ?_
          simp only [List.setIfInBounds_toArray, List.set_cons_zero, List.set_cons_succ]
          refine take_op (v := ?vu1x2) 2 (Op.call { callee := Callee.builtin Builtin.len, args := #[Operand.tmp 46], argTypes := #[22] }) 3 rfl rfl rfl rfl rfl (by kernel_rfl) (by kernel_rfl) (by kernel_rfl) (fun _ _ _ h => h) ?yu1x2 (by assumption) ?ru1x2
          case yu1x2 => (intro w' hSw; (try dsimp only at hSw); go_simp; try (with_reducible rfl))
          simp only [List.setIfInBounds_toArray, List.set_cons_zero, List.set_cons_succ]
          refine take_move 3 (Operand.tmp 1) rfl rfl (by first | exact .inl rfl | exact .inr rfl) rfl (by kernel_rfl) (by kernel_rfl) (by kernel_rfl) (fun _ _ _ h => h) (by assumption) ?_
          simp only [List.setIfInBounds_toArray, List.set_cons_zero, List.set_cons_succ]
          refine take_op (v := ?vu1x4) 4 (Op.indexAddr 22 (Operand.tmp 48) (Operand.const (Value.int IntKind.i64 0))) 0 rfl rfl rfl rfl rfl (by kernel_rfl) (by kernel_rfl) (by kernel_rfl) (fun _ _ _ h => h) ?yu1x4 (by assumption) ?ru1x4
          case yu1x4 => (intro w' hSw; (try dsimp only at hSw); go_simp; try (with_reducible rfl))
          simp only [List.setIfInBounds_toArray, List.set_cons_zero, List.set_cons_succ]
          refine take_op (v := ?vu1x5) 5 (Op.fieldAddr 26 (Operand.tmp 49) 1) 0 rfl rfl rfl rfl rfl (by kernel_rfl) (by kernel_rfl) (by kernel_rfl) (fun _ _ _ h => h) ?yu1x5 (by assumption) ?ru1x5
          case yu1x5 => (intro w' hSw; (try dsimp only at hSw); go_simp; try (with_reducible rfl))
          simp only [List.setIfInBounds_toArray, List.set_cons_zero, List.set_cons_succ]
          refine take_op (v := ?vu1x6) 6 (Op.load 3 (Operand.tmp 50)) 3 rfl rfl rfl rfl rfl (by kernel_rfl) (by kernel_rfl) (by kernel_rfl) (fun _ _ _ h => h) ?yu1x6 (by assumption) ?ru1x6
          case yu1x6 => (intro w' hSw; (try dsimp only at hSw); go_simp; try (with_reducible rfl))
          simp only [List.setIfInBounds_toArray, List.set_cons_zero, List.set_cons_succ]
          refine take_op (v := ?vu1x7) 7 (Op.fieldAddr 26 (Operand.tmp 8) 1) 0 rfl rfl rfl rfl rfl (by kernel_rfl) (by kernel_rfl) (by kernel_rfl) (fun _ _ _ h => h) ?yu1x7 (by assumption) ?ru1x7
          case yu1x7 => (intro w' hSw; (try dsimp only at hSw); go_simp; try (with_reducible rfl))
          simp only [List.setIfInBounds_toArray, List.set_cons_zero, List.set_cons_succ]
          refine take_op (v := ?vu1x8) 8 (Op.load 3 (Operand.tmp 52)) 3 rfl rfl rfl rfl rfl (by kernel_rfl) (by kernel_rfl) (by kernel_rfl) (fun _ _ _ h => h) ?yu1x8 (by assumption) ?ru1x8
          case yu1x8 => (intro w' hSw; (try dsimp only at hSw); go_simp; try (with_reducible rfl))
          simp only [List.setIfInBounds_toArray, List.set_cons_zero, List.set_cons_succ]
          refine take_op (v := ?vu1x9) 9 (Op.build 82 #[(0, Operand.tmp 45), (1, Operand.const (Value.bool true)), (2, Operand.tmp 47), (3, Operand.const (Value.int IntKind.i64 1)), (4, Operand.tmp 51), (5, Operand.tmp 53), (6, Operand.const (Value.int IntKind.i64 50))]) 82 rfl rfl rfl rfl rfl (by kernel_rfl) (by kernel_rfl) (by kernel_rfl) (fun _ _ _ h => h) ?yu1x9 (by assumption) ?ru1x9
          case yu1x9 => (intro w' hSw; (try dsimp only at hSw); go_simp; try (with_reducible rfl))
          simp only [List.setIfInBounds_toArray, List.set_cons_zero, List.set_cons_succ]
          refine wpAnyH_ready (rs := [10]) (by kernel_rfl) (by simp) (AllReadyH.cons rfl (fun K10 hK10 => ?ku1x10) AllReadyH.nil)
          refine take_new (t := 82) (cs := #[.int .i64 0, .int .i64 0, .int .i64 0, .bool false, .int .i64 0, .int .i64 0, .int .i64 0, .int .i64 0, .int .i64 0]) 10 (Op.alloc 82) 0 rfl rfl rfl (by kernel_rfl) ?eu1x10 ?_
          case eu1x10 => (go_simp; try (first | with_reducible rfl | rfl))
          intro g10 w10 b10 gr10 l10 m10
          have z10 := gr10.size
          try simp only [World.size_drew] at z10
          try simp only [World.size_drew, World.size_alloc] at l10
          replace HBL := below_grow HBL gr10
          have zHBL10 := HBL.size
          replace bH := Blk.grow0 bH gr10
          replace bL := Blk.grow0 bL gr10
          replace bQ := Blk.grow0 bQ gr10
          refine hK10.out _ _ ?su1x10 (fun hHeld => ?ru1x10)
          case su1x10 => ((try dsimp only); exact ⟨⟨bH.cell_ 0 rfl, bH.cell_ 1 rfl, bH.cell_ 2 rfl⟩, (RC.out _ HBL b o rfl).1.2.1, bL.cell_ 1 rfl⟩)
          try simp only [List.setIfInBounds_toArray, List.set_cons_zero, List.set_cons_succ]
          refine wpAnyH_ready (rs := [11]) (by kernel_rfl) (by simp) (AllReadyH.cons rfl (fun K11 hK11 => ?ku1x11) AllReadyH.nil)
          refine take_store 11 (Op.store 82 (Operand.tmp 9) (Operand.tmp 54)) 0 rfl rfl rfl (by kernel_rfl) (w' := (((((((((w10.setCell ⟨g10, 0, none⟩ (.int .i64 hx)).setCell ⟨g10, 1, none⟩ (.int .i64 hy)).setCell ⟨g10, 2, none⟩ (.int .i64 ra)).setCell ⟨g10, 3, none⟩ (.bool true)).setCell ⟨g10, 4, none⟩ (.int .i64 n)).setCell ⟨g10, 5, none⟩ (.int .i64 1)).setCell ⟨g10, 6, none⟩ (.int .i64 rb)).setCell ⟨g10, 7, none⟩ (.int .i64 zb)).setCell ⟨g10, 8, none⟩ (.int .i64 50))) (by obtain ⟨⟨x0, x1, x2, x3, x4, x5, x6, x7, x8⟩, fz⟩ := blk9 b10; have fz0 := fz 0; have fz1 := fz 1; have fz2 := fz 2; have fz3 := fz 3; have fz4 := fz 4; have fz5 := fz 5; have fz6 := fz 6; have fz7 := fz 7; have fz8 := fz 8; go_simp; try (with_reducible rfl)) ?_
          refine hK11.out _ _ (⟨⟨(far9 (g := g10) bH (by omega) (.int .i64 hx) (.int .i64 hy) (.int .i64 ra) (.bool true) (.int .i64 n) (.int .i64 1) (.int .i64 rb) (.int .i64 zb) (.int .i64 50)).cell_ 0 rfl, (far9 (g := g10) bH (by omega) (.int .i64 hx) (.int .i64 hy) (.int .i64 ra) (.bool true) (.int .i64 n) (.int .i64 1) (.int .i64 rb) (.int .i64 zb) (.int .i64 50)).cell_ 1 rfl, (far9 (g := g10) bH (by omega) (.int .i64 hx) (.int .i64 hy) (.int .i64 ra) (.bool true) (.int .i64 n) (.int .i64 1) (.int .i64 rb) (.int .i64 zb) (.int .i64 50)).cell_ 2 rfl⟩, (RC.out _ (low9 (g := g10) HBL (by omega) (.int .i64 hx) (.int .i64 hy) (.int .i64 ra) (.bool true) (.int .i64 n) (.int .i64 1) (.int .i64 rb) (.int .i64 zb) (.int .i64 50)) b o rfl).1.2.1, (far9 (g := g10) bL (by omega) (.int .i64 hx) (.int .i64 hy) (.int .i64 ra) (.bool true) (.int .i64 n) (.int .i64 1) (.int .i64 rb) (.int .i64 zb) (.int .i64 50)).cell_ 1 rfl⟩) (fun hHeld => ?_)
          replace bQ := far9 (g := g10) bQ (by omega) (.int .i64 hx) (.int .i64 hy) (.int .i64 ra) (.bool true) (.int .i64 n) (.int .i64 1) (.int .i64 rb) (.int .i64 zb) (.int .i64 50)
          replace HBL := low9 (g := g10) HBL (by omega) (.int .i64 hx) (.int .i64 hy) (.int .i64 ra) (.bool true) (.int .i64 n) (.int .i64 1) (.int .i64 rb) (.int .i64 zb) (.int .i64 50)
          replace b10 := set9 b10 (.int .i64 hx) (.int .i64 hy) (.int .i64 ra) (.bool true) (.int .i64 n) (.int .i64 1) (.int .i64 rb) (.int .i64 zb) (.int .i64 50)
          refine wpAnyH_done (by kernel_rfl) ?_ _
          clear bL bH
          generalize (((((((((w10.setCell ⟨g10, 0, none⟩ (.int .i64 hx)).setCell ⟨g10, 1, none⟩ (.int .i64 hy)).setCell ⟨g10, 2, none⟩ (.int .i64 ra)).setCell ⟨g10, 3, none⟩ (.bool true)).setCell ⟨g10, 4, none⟩ (.int .i64 n)).setCell ⟨g10, 5, none⟩ (.int .i64 1)).setCell ⟨g10, 6, none⟩ (.int .i64 rb)).setCell ⟨g10, 7, none⟩ (.int .i64 zb)).setCell ⟨g10, 8, none⟩ (.int .i64 50)) = wN at *
          have hgN := b10.lt
          have bO := Blk.new wN 82 (ec ⟨hx, hy, ra, false, 0, 0, 0, 0, 0⟩)
          have HBO := HBL.alloc HBL.size (.cells (ec ⟨hx, hy, ra, false, 0, 0, 0, 0, 0⟩) 82)
          replace b10 := b10.alloc (.cells (ec ⟨hx, hy, ra, false, 0, 0, 0, 0, 0⟩) 82)
          replace bQ := bQ.alloc (.cells (ec ⟨hx, hy, ra, false, 0, 0, 0, 0, 0⟩) 82)
          obtain ⟨v1, hv1⟩ : ∃ v, chkE ⟨hx, hy, ra, true, n, 1, rb, zb, 50⟩ = v := ⟨_, rfl⟩
          obtain ⟨v2, hv2⟩ : ∃ v, chkE ⟨hx, hy, ra, false, 0, 0, 0, 0, 0⟩ = v := ⟨_, rfl⟩
          have E1 := Lib.hid (fun w => echeck_any ⟨hx, hy, ra, true, n, 1, rb, zb, 50⟩ v1 hv1 w)
          have E2 := Lib.hid (fun w => echeck_any ⟨hx, hy, ra, false, 0, 0, 0, 0, 0⟩ v2 hv2 w)
          obtain ⟨x, hsx⟩ : ∃ v, segB q ⟨hx, hy, ra, true, n, 1, rb, zb, 50⟩ = v := ⟨_, rfl⟩
          obtain ⟨y, hsy⟩ : ∃ v, segB q ⟨hx, hy, ra, false, 0, 0, 0, 0, 0⟩ = v := ⟨_, rfl⟩
          have S1 := Lib.hid (fun w => segment_any q ⟨hx, hy, ra, true, n, 1, rb, zb, 50⟩ x hsx w)
          have S2 := Lib.hid (fun w => segment_any q ⟨hx, hy, ra, false, 0, 0, 0, 0, 0⟩ y hsy w)
          have hxy : v1 = 0 → v2 = 0 → m3 = 0 ∨ (x = true ∧ y = true) := by
            intro h1 h2
            rcases Nat.eq_zero_or_pos m3 with hm0 | hm0
            · exact .inl hm0
            · refine .inr ⟨?_, ?_⟩
              · rw [← hsx]
                exact HS.out ⟨hx, hy, ra, true, n, 1, rb, zb, 50⟩ (hv1.trans h1) rfl (fun _ => ⟨by dsimp only; omega, rfl, rfl⟩) (by omega)
              · rw [← hsy]
                exact HS.out ⟨hx, hy, ra, false, 0, 0, 0, 0, 0⟩ (hv2.trans h2) rfl (fun hf => by cases hf) (by omega)
          clear hv1 hv2 hsx hsy HS
          have b10' := b10
          obtain ⟨⟨u0, u1, u2, u3, u4, u5, u6, u7, u8⟩, _⟩ := blk9 b10'
          clear b10'
          go_wp2_with fail
          refine (E1.out _).mono ?_
          rintro e w4 ⟨rfl, hb4⟩
          replace b10 := b10.below hb4 b10.lt
          replace bO := bO.below hb4 bO.lt
          replace bQ := bQ.below hb4 bQ.lt
          replace HBO := HBO.trans (hb4.mono HBO.size)
          clear hb4 E1 u0 u1 u2 u3 u4 u5 u6 u7 u8
          by_cases hz1 : v1 = 0
          · subst hz1
            have bO' := bO
            obtain ⟨⟨o0, o1, o2, o3, o4, o5, o6, o7, o8⟩, _⟩ := blk9 bO'
            clear bO'
            go_wp2_with fail
            refine (E2.out _).mono ?_
            rintro e w5 ⟨rfl, hb5⟩
            replace b10 := b10.below hb5 b10.lt
            replace bO := bO.below hb5 bO.lt
            replace bQ := bQ.below hb5 bQ.lt
            replace HBO := HBO.trans (hb5.mono HBO.size)
            clear hb5 E2 o0 o1 o2 o3 o4 o5 o6 o7 o8
            by_cases hz2 : v2 = 0
            · subst hz2
              have hxz := hxy (by trivial) (by trivial)
              have b10' := b10
              obtain ⟨⟨u0, u1, u2, u3, u4, u5, u6, u7, u8⟩, _⟩ := blk9 b10'
              have bQ' := bQ
              obtain ⟨d0, d1, d2, d3, d4, d5, d6⟩ := blk7 bQ'
              clear b10' bQ'
              go_wp2_with fail
              refine (S1.out _).mono ?_
              rintro e w6 ⟨rfl, hb6⟩
              replace bO := bO.below hb6 bO.lt
              replace bQ := bQ.below hb6 bQ.lt
              replace HBO := HBO.trans (hb6.mono HBO.size)
              clear hb6 S1 u0 u1 u2 u3 u4 u5 u6 u7 u8 d0 d1 d2 d3 d4 d5 d6
              obtain ⟨⟨o0, o1, o2, o3, o4, o5, o6, o7, o8⟩, _⟩ := blk9 bO
              obtain ⟨d0, d1, d2, d3, d4, d5, d6⟩ := blk7 bQ
              rcases hxz with rfl | ⟨rfl, rfl⟩
              · cases x <;> cases y
                all_goals
                  go_wp2_with fail
                  refine (S2.out _).mono ?_
                  rintro e w7 ⟨rfl, hb7⟩
                  replace HBO := HBO.trans (hb7.mono HBO.size)
                  go_wp2_with fail
                  refine (awake_any _).mono ?_
                  rintro e w8 ⟨rfl, hb8⟩
                  go_wp2_with fail
                  go_ret
                  exact ⟨rfl, HBO.trans (hb8.mono HBO.size)⟩
              · go_wp2_with fail
                refine (S2.out _).mono ?_
                rintro e w7 ⟨rfl, hb7⟩
                replace HBO := HBO.trans (hb7.mono HBO.size)
                go_wp2_with fail
                refine (awake_any _).mono ?_
                rintro e w8 ⟨rfl, hb8⟩
                go_wp2_with fail
                go_ret
                exact ⟨rfl, HBO.trans (hb8.mono HBO.size)⟩
            · have hzI : (v2 != 0) = true := by simp [hz2]
              clear hxy
              go_wp2_with fail
              refine (awake_any _).mono ?_
              rintro e w8 ⟨rfl, hb8⟩
              go_wp2_with fail
              go_ret
              exact ⟨rfl, HBO.trans (hb8.mono HBO.size)⟩
          · have hzI : (v1 != 0) = true := by simp [hz1]
            clear hxy
            go_wp2_with fail
            refine (awake_any _).mono ?_
            rintro e w8 ⟨rfl, hb8⟩
            go_wp2_with fail
            go_ret
            exact ⟨rfl, HBO.trans (hb8.mono HBO.size)⟩
        · have hrzI : (rv != 0) = true := by simp [hrz]
          go_wp2_with fail
          refine (awake_any _).mono ?_
          rintro e w3 ⟨rfl, hb3⟩
          go_wp2_with fail
          go_ret
          exact ⟨rfl, HB.trans (hb3.mono HB.size)⟩
end SkpW
end Go.Proofs.Ytnghmcadhjneeaa
