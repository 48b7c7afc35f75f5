/- The law of package skip on hits and pages: its walk. -/
import Derived.Test.YtnghmcadhjneeaaSkpX
import Derived.Test.YtnghmcadhjneeaaSkpY
import Derived.Test.YtnghmcadhjneeaaRecC
import Derived.Deep.CutRange
namespace Go.Proofs.Ytnghmcadhjneeaa
set_option linter.unusedVariables false
set_option linter.unusedSimpArgs false
set_option linter.unnecessarySimpa false
open Go.RowKit
namespace SkpW
open RecW (few_any sameR_any few_len fewB)

theorem same_self (A1 A2 : Option Addr) (n1 c1 n2 c2 : Nat) (l : List Rc) (w : World) (h1 : Rd w w.heap.size 3 A1 n1 (rcells l)) (h2 : Rd w w.heap.size 3 A2 n2 (rcells l)) (hl : l.length ≤ 1000000) :
    Calls Try.prog 41 #[.slice A1 n1 c1, .slice A2 n2 c2] w fun e w' => e = .returned (.bool true) ∧ Below w.heap.size w w' := by
  have := sameR_any A1 A2 n1 c1 n2 c2 l l w h1 h2 (by have := rd_rlen h1; omega) (by have := rd_rlen h2; omega)
  rwa [decide_eq_true (rfl : l = l)] at this
theorem few_data {l : List Rc} (h : fewB l = true) : ∀ r ∈ l, r.2.2.length ≤ 100000 := by
  intro r hr
  unfold fewB at h
  rw [Bool.and_eq_true, List.all_eq_true] at h
  have := h.2 r hr
  simp only [decide_eq_true_eq] at this
  omega
set_option maxRecDepth 100000 in
set_option maxHeartbeats 16000000 in
theorem looks_law (q : Qy) (A : Option Addr) (n c : Nat) (l : List Rc) (w : World) (h : Rd w w.heap.size 3 A n (rcells l)) (hok : ∀ x ∈ l, RcOk x) (hn : n ≤ maxLen) (h2 : q.s2 ≤ 9223372036854775807) (hfd : q.find.length ≤ maxLen) :
    Calls Try.prog 8 #[qv q, .slice A n c] w fun e w' => e = .returned (.bool true) ∧ Below w.heap.size w w' := by
  unfold maxLen at hn hfd
  have CF := fun v hv w HH => few_any A n c l v hv w HH (by omega) (fun r hr => by have := (hok r hr).2.2; unfold maxLen at this; omega)
  have HF := Lib.hid CF
  have hl := rd_rlen h
  clear CF
  have b0 := Blk.new w 67 (qc q)
  have HB : Below w.heap.size w (w.alloc (.cells (qc q) 67)) := (Below.refl _ w).alloc (Nat.le_refl _) _
  by_cases hf : fewB l = true
  · have hlen := few_len hf
    have hdat := few_data hf
    have CC := HF.out true hf
    by_cases hm : (1000 : Int) < (q.find.length : Int)
    · clear hl hf HF hdat hok
      go_enter Try.func8, Try.ntmps8
      go_wp2_with fail
      refine (CC _ ((h.below HB).more HB.size)).mono ?_
      rintro e w1 ⟨rfl, hb1⟩
      replace b0 := b0.below hb1 b0.lt
      replace HB := HB.trans (hb1.mono HB.size)
      obtain ⟨d0, d1, d2, d3, d4, d5, d6⟩ := blk7 b0
      go_wp2_with fail
      refine (awake_any _).mono ?_
      rintro e w2 ⟨rfl, hb2⟩
      go_wp2_with fail
      go_ret
      exact ⟨rfl, HB.trans (hb2.mono HB.size)⟩
    · have hfl : q.find.length ≤ 1000 := by omega
      have C1 := Lib.hid (fun r (hr : r ∈ l) w => Hit_any q r w (by omega) (hdat r hr))
      have C2 := Lib.hid (fun r (hr : r ∈ l) w => refHit_any q r _ rfl w (by omega) (hdat r hr))
      have HEQ := Lib.hid (fun r (hr : r ∈ l) => hit_eq q r (hok r hr).1)
      have hfilt : l.filter (hitA (ofQ q)) = l.filter (hitR q) := List.filter_congr fun r hr => hit_eq q r (hok r hr).1
      have C3 := Lib.hid (fun w HH => page_any q A n c l w HH (by omega) (by omega) hdat _ rfl)
      have C4 := Lib.hid (fun w HH => refPage_any q A n c l w HH (by omega) (by omega) hdat _ rfl)
      have C5 := Lib.hid (fun w HH => filter_any q A n c l w HH (by omega) (by omega) hdat)
      have C6 := Lib.hid (fun w HH => refFilter_any q A n c l w HH (by omega) (by omega) hdat)
      rw [hfilt] at C3 C5
      have C7 := Lib.hid (fun w => check_any q _ rfl w)
      have C8 := Lib.hid (fun w => refCheck_any q _ rfl w)
      have C9 := Lib.hid (fun w => seqs_any q w)
      have C10 := Lib.hid (fun w => refSeqs_any q w h2)
      have hpl := pageV_len (l.filter (hitR q)) q.limit
      have hfl2 := List.length_filter_le (hitR q) l
      generalize pageV (l.filter (hitR q)) q.limit = pg at *
      generalize l.filter (hitR q) = hits at *
      generalize chkQ q = ck at *
      generalize (ofQ q).2 = sq at *
      obtain ⟨p1, px⟩ := pg
      obtain ⟨sq1, sq2⟩ := sq
      dsimp only at hpl
      clear hf HF hok hdat h2 hfd hfilt
      go_enter Try.func8, Try.ntmps8
      go_wp2_with fail
      refine (CC _ ((h.below HB).more HB.size)).mono ?_
      clear CC
      rintro e w1 ⟨rfl, hb1⟩
      replace b0 := b0.below hb1 b0.lt
      replace HB := HB.trans (hb1.mono HB.size)
      clear hb1
      have b0' := b0
      obtain ⟨d0, d1, d2, d3, d4, d5, d6⟩ := blk7 b0'
      clear b0'
      go_wp2_with fail
      clear d0 d1 d2 d3 d4 d5 d6
      go_loopw [5] (fun i wr => ∃ k : Nat, i = .int .i64 k ∧ k ≤ n ∧ Below w.heap.size w wr ∧ Blk wr w.heap.size 67 (qc q)) (fun i _ => n - (intOf i).toNat)
      case atStart => exact ⟨0, rfl, by omega, HB, b0⟩
      case round =>
        obtain ⟨k, rfl, hk, hbw, b2⟩ := hrel
        have hsz := hbw.size
        clear HB b0
        by_cases hlt : k < n
        · have hkl : k < l.length := by omega
          obtain ⟨ra, rb, rd, hr⟩ : ∃ x y z, l[k] = (x, y, z) := ⟨_, _, _, rfl⟩
          have hmem : (ra, rb, rd) ∈ l := hr ▸ List.getElem_mem hkl
          have D1 := C1.out _ hmem
          have D2 := C2.out _ hmem
          rw [HEQ.out _ hmem] at D1
          generalize hitR q (ra, rb, rd) = v at *
          have RC := Lib.hid (fun (w' : World) (hx : Below w.heap.size w w') (b o : Nat) (hA : A = some ⟨b, o, none⟩) => rd_cell3 (hA ▸ h.below hx) k hkl ra rb rd hr)
          obtain ⟨b, o, rfl, hb, _⟩ := rd_recs (h.below hbw) (by omega)
          obtain ⟨d0, d1, d2⟩ := RC.out _ hbw b o rfl
          have E1 := Lib.hid D1
          have E2 := Lib.hid D2
          have hki : (k : Int) < (n : Int) := by omega
          have hk0 : (0 : Int) ≤ (k : Int) := by omega
          have HW := hbw
          have hql := b2.lt
          clear D1 D2 hr hmem
          have b2' := b2
          obtain ⟨q0, q1, q2, q3, q4, q5, q6⟩ := blk7 b2'
          clear b2'
          go_wp2_with fail
          refine wp_region_held_drew (S := (fun w' => (w'.cell? ⟨w.heap.size, 0, none⟩ = some (.int .i64 q.s1) ∧ w'.cell? ⟨w.heap.size, 1, none⟩ = some (.int .i64 q.s2) ∧ w'.cell? ⟨w.heap.size, 2, none⟩ = some (.int .i64 q.t1) ∧ w'.cell? ⟨w.heap.size, 3, none⟩ = some (.int .i64 q.t2) ∧ w'.cell? ⟨w.heap.size, 4, none⟩ = some (str q.find) ∧ w'.cell? ⟨w.heap.size, 5, none⟩ = some (.int .i64 q.limit) ∧ w'.cell? ⟨w.heap.size, 6, none⟩ = some (.int .i64 q.frm)) ∧ w'.cell? ⟨b, o + k * 3, none⟩ = some (.int .i64 ra) ∧ w'.cell? ⟨b, o + k * 3 + 1, none⟩ = some (.int .i64 rb) ∧ w'.cell? ⟨b, o + k * 3 + 2, none⟩ = some (str rd))) (by kernel_rfl) ?_ (fun hHeld => ?_)
          · replace HW := Below.drew HW; replace b2 := Blk.drew b2; (try dsimp only); exact ⟨blk7 b2, RC.out _ HW b o rfl⟩
          replace HW := Below.drew HW
          replace b2 := Blk.drew b2
          have zHW := HW.size
          refine take_op (v := ?vu1x0) 0 (Op.load 67 (Operand.tmp 2)) 67 rfl rfl rfl rfl rfl (by kernel_rfl) (by kernel_rfl) (by kernel_rfl) (fun _ _ _ h => h) ?yu1x0 (by assumption) ?ru1x0
          case yu1x0 => (intro w' hSw; (try dsimp only at hSw); go_simp; try (with_reducible rfl))
          simp only [List.setIfInBounds_toArray, List.set_cons_zero, List.set_cons_succ]
          refine take_move 1 (Operand.tmp 1) rfl rfl (by first | exact .inl rfl | exact .inr rfl) rfl (by kernel_rfl) (by kernel_rfl) (by kernel_rfl) (fun _ _ _ h => h) (by assumption) ?_
          simp only [List.setIfInBounds_toArray, List.set_cons_zero, List.set_cons_succ]
          refine take_move 2 (Operand.tmp 5) rfl rfl (by first | exact .inl rfl | exact .inr rfl) rfl (by kernel_rfl) (by kernel_rfl) (by kernel_rfl) (fun _ _ _ h => h) (by assumption) ?_
          simp only [List.setIfInBounds_toArray, List.set_cons_zero, List.set_cons_succ]
          refine take_op (v := ?vu1x3) 3 (Op.indexAddr 22 (Operand.tmp 25) (Operand.tmp 26)) 0 rfl rfl rfl rfl rfl (by kernel_rfl) (by kernel_rfl) (by kernel_rfl) (fun _ _ _ h => h) ?yu1x3 (by assumption) ?ru1x3
          case yu1x3 => (intro w' hSw; (try dsimp only at hSw); go_simp; try (with_reducible rfl))
          simp only [List.setIfInBounds_toArray, List.set_cons_zero, List.set_cons_succ]
          refine take_op (v := ?vu1x4) 4 (Op.load 26 (Operand.tmp 27)) 26 rfl rfl rfl rfl rfl (by kernel_rfl) (by kernel_rfl) (by kernel_rfl) (fun _ _ _ h => h) ?yu1x4 (by assumption) ?ru1x4
          case yu1x4 => (intro w' hSw; (try dsimp only at hSw); go_simp; try (with_reducible rfl))
          simp only [List.setIfInBounds_toArray, List.set_cons_zero, List.set_cons_succ]
          refine take_op (v := ?vu1x6) 6 (Op.load 67 (Operand.tmp 2)) 67 rfl rfl rfl rfl rfl (by kernel_rfl) (by kernel_rfl) (by kernel_rfl) (fun _ _ _ h => h) ?yu1x6 (by assumption) ?ru1x6
          case yu1x6 => (intro w' hSw; (try dsimp only at hSw); go_simp; try (with_reducible rfl))
          simp only [List.setIfInBounds_toArray, List.set_cons_zero, List.set_cons_succ]
          refine take_move 7 (Operand.tmp 1) rfl rfl (by first | exact .inl rfl | exact .inr rfl) rfl (by kernel_rfl) (by kernel_rfl) (by kernel_rfl) (fun _ _ _ h => h) (by assumption) ?_
          simp only [List.setIfInBounds_toArray, List.set_cons_zero, List.set_cons_succ]
          refine take_move 8 (Operand.tmp 5) rfl rfl (by first | exact .inl rfl | exact .inr rfl) rfl (by kernel_rfl) (by kernel_rfl) (by kernel_rfl) (fun _ _ _ h => h) (by assumption) ?_
          simp only [List.setIfInBounds_toArray, List.set_cons_zero, List.set_cons_succ]
          refine take_op (v := ?vu1x9) 9 (Op.indexAddr 22 (Operand.tmp 31) (Operand.tmp 32)) 0 rfl rfl rfl rfl rfl (by kernel_rfl) (by kernel_rfl) (by kernel_rfl) (fun _ _ _ h => h) ?yu1x9 (by assumption) ?ru1x9
          case yu1x9 => (intro w' hSw; (try dsimp only at hSw); go_simp; try (with_reducible rfl))
          simp only [List.setIfInBounds_toArray, List.set_cons_zero, List.set_cons_succ]
          refine take_op (v := ?vu1x10) 10 (Op.load 26 (Operand.tmp 33)) 26 rfl rfl rfl rfl rfl (by kernel_rfl) (by kernel_rfl) (by kernel_rfl) (fun _ _ _ h => h) ?yu1x10 (by assumption) ?ru1x10
          case yu1x10 => (intro w' hSw; (try dsimp only at hSw); go_simp; try (with_reducible rfl))
          simp only [List.setIfInBounds_toArray, List.set_cons_zero, List.set_cons_succ]
          refine wpAnyH_ready (rs := [5]) (by kernel_rfl) (by simp) (AllReadyH.cons rfl (fun K5 hK5 => ?ku1x5) AllReadyH.nil)
          refine take_calls 5 33 [Operand.tmp 24, Operand.tmp 28] #[67, 26] rfl rfl (by kernel_rfl) (fun args w => run_enter Try.func33 (by kernel_rfl) rfl args w) ?_
          refine (E1.out _).mono ?_
          rintro e w5 ⟨rfl, hb5⟩
          refine ⟨_, rfl, ?_⟩
          have z5 := hb5.size
          try simp only [World.size_drew] at z5
          replace HW := HW.trans (hb5.mono HW.size)
          have zHW5 := HW.size
          replace b2 := Blk.below b2 hb5 (by first | exact Nat.le_refl _ | (simp only [World.size_alloc, World.size_setCell, World.size_drew] at *; omega) | omega)
          refine hK5.out _ _ ?su1x5 (fun hHeld => ?ru1x5)
          case su1x5 => ((try dsimp only); exact ⟨blk7 b2, RC.out _ HW b o rfl⟩)
          try simp only [List.setIfInBounds_toArray, List.set_cons_zero, List.set_cons_succ]
          refine wpAnyH_ready (rs := [11]) (by kernel_rfl) (by simp) (AllReadyH.cons rfl (fun K11 hK11 => ?ku1x11) AllReadyH.nil)
          refine take_calls 11 34 [Operand.tmp 30, Operand.tmp 34] #[67, 26] rfl rfl (by kernel_rfl) (fun args w => run_enter Try.func34 (by kernel_rfl) rfl args w) ?_
          refine (E2.out _).mono ?_
          rintro e w11 ⟨rfl, hb11⟩
          refine ⟨_, rfl, ?_⟩
          have z11 := hb11.size
          try simp only [World.size_drew] at z11
          replace HW := HW.trans (hb11.mono HW.size)
          have zHW11 := HW.size
          replace b2 := Blk.below b2 hb11 (by first | exact Nat.le_refl _ | (simp only [World.size_alloc, World.size_setCell, World.size_drew] at *; omega) | omega)
          refine hK11.out _ _ ?su1x11 (fun hHeld => ?ru1x11)
          case su1x11 => ((try dsimp only); exact ⟨blk7 b2, RC.out _ HW b o rfl⟩)
          try simp only [List.setIfInBounds_toArray, List.set_cons_zero, List.set_cons_succ]
          refine take_op (v := ?vu1x12) 12 (Op.binOp BinOp.neq 4 (Operand.tmp 29) (Operand.tmp 35) 4) 4 rfl rfl rfl rfl rfl (by kernel_rfl) (by kernel_rfl) (by kernel_rfl) (fun _ _ _ h => h) ?yu1x12 (by assumption) ?ru1x12
          case yu1x12 => (intro w' hSw; (try dsimp only at hSw); go_simp; try (with_reducible rfl))
          simp only [List.setIfInBounds_toArray, List.set_cons_zero, List.set_cons_succ]
          refine wpAnyH_done (by kernel_rfl) ?_ _
          have hvv : (v != v) = false := by simp
          clear q0 q1 q2 q3 q4 q5 q6 d0 d1 d2 hHeld
          go_wp2_with fail
          go_roundw
          case rel => exact ⟨k + 1, by go_num, by omega, HW, b2⟩
          case measure => simp [intOf]; omega
        · have HW := hbw
          have rw1 := (h.below hbw).more hbw.size
          have hql := b2.lt
          go_upto_region 8 with fail
          go_cut [6, 7] from 8 to 80 (fun p6 p7 wx => ∃ (g1 g2 : Nat) (A1 : Option Addr) (m1 c1 : Nat) (A2 : Option Addr) (m2 c2 : Nat), p6 = .pointer (some ⟨g1, 0, none⟩) ∧ p7 = .pointer (some ⟨g2, 0, none⟩) ∧ Blk wx g1 70 #[.slice A1 m1 c1, .int .i64 px] ∧ Blk wx g2 70 #[.slice A2 m2 c2, .int .i64 px] ∧
            Rd wx wx.heap.size 3 A1 m1 (rcells p1) ∧ Rd wx wx.heap.size 3 A2 m2 (rcells p1) ∧ Below w.heap.size w wx ∧ Blk wx w.heap.size 67 (qc q))
          case first =>
            have bQ := b2
            refine wp_region_held_drew (S := (fun w' => (w'.cell? ⟨w.heap.size, 0, none⟩ = some (.int .i64 q.s1) ∧ w'.cell? ⟨w.heap.size, 1, none⟩ = some (.int .i64 q.s2) ∧ w'.cell? ⟨w.heap.size, 2, none⟩ = some (.int .i64 q.t1) ∧ w'.cell? ⟨w.heap.size, 3, none⟩ = some (.int .i64 q.t2) ∧ w'.cell? ⟨w.heap.size, 4, none⟩ = some (str q.find) ∧ w'.cell? ⟨w.heap.size, 5, none⟩ = some (.int .i64 q.limit) ∧ w'.cell? ⟨w.heap.size, 6, none⟩ = some (.int .i64 q.frm)))) (by kernel_rfl) ?_ (fun hHeld => ?_)
            · replace HW := Below.drew HW; replace bQ := Blk.drew bQ; (try dsimp only); exact blk7 bQ
            replace HW := Below.drew HW
            replace bQ := Blk.drew bQ
            have zHW := HW.size
            refine take_op (v := ?vu2x0) 0 (Op.load 67 (Operand.tmp 2)) 67 rfl rfl rfl rfl rfl (by kernel_rfl) (by kernel_rfl) (by kernel_rfl) (fun _ _ _ h => h) ?yu2x0 (by assumption) ?ru2x0
            case yu2x0 => (intro w' hSw; (try dsimp only at hSw); go_simp; try (with_reducible rfl))
            simp only [List.setIfInBounds_toArray, List.set_cons_zero, List.set_cons_succ]
            refine take_move 1 (Operand.tmp 1) rfl rfl (by first | exact .inl rfl | exact .inr rfl) rfl (by kernel_rfl) (by kernel_rfl) (by kernel_rfl) (fun _ _ _ h => h) (by assumption) ?_
            simp only [List.setIfInBounds_toArray, List.set_cons_zero, List.set_cons_succ]
            refine take_op (v := ?vu2x3) 3 (Op.load 67 (Operand.tmp 2)) 67 rfl rfl rfl rfl rfl (by kernel_rfl) (by kernel_rfl) (by kernel_rfl) (fun _ _ _ h => h) ?yu2x3 (by assumption) ?ru2x3
            case yu2x3 => (intro w' hSw; (try dsimp only at hSw); go_simp; try (with_reducible rfl))
            simp only [List.setIfInBounds_toArray, List.set_cons_zero, List.set_cons_succ]
            refine take_move 4 (Operand.tmp 1) rfl rfl (by first | exact .inl rfl | exact .inr rfl) rfl (by kernel_rfl) (by kernel_rfl) (by kernel_rfl) (fun _ _ _ h => h) (by assumption) ?_
            simp only [List.setIfInBounds_toArray, List.set_cons_zero, List.set_cons_succ]
            refine wpAnyH_ready (rs := [2, 6, 7]) (by kernel_rfl) (by simp) (AllReadyH.cons rfl (fun K2 hK2 => ?ku2x2) (AllReadyH.cons rfl (fun K6 hK6 => ?ku2x6) (AllReadyH.cons rfl (fun K7 hK7 => ?ku2x7) AllReadyH.nil)))
            case ku2x2 =>
              refine take_calls 2 35 [Operand.tmp 37, Operand.tmp 38] #[67, 22] rfl rfl (by kernel_rfl) (fun args w => run_enter Try.func35 (by kernel_rfl) rfl args w) ?_
              refine (C3.out _ ((h.below HW).more HW.size)).mono ?_
              rintro e w2 ⟨A2, m2, c2, rfl, r2, f2, hb2⟩
              refine ⟨_, rfl, ?_⟩
              have z2 := hb2.size
              try simp only [World.size_drew] at z2
              replace HW := HW.trans (hb2.mono HW.size)
              have zHW2 := HW.size
              replace bQ := Blk.below bQ hb2 (by first | exact Nat.le_refl _ | (simp only [World.size_alloc, World.size_setCell, World.size_drew] at *; omega) | omega)
              refine hK2.out _ _ ?su2xb1x2 (fun hHeld => ?ru2xb1x2)
              case su2xb1x2 => ((try dsimp only); exact blk7 bQ)
              try simp only [List.setIfInBounds_toArray, List.set_cons_zero, List.set_cons_succ]
              refine wpAnyH_ready (rs := [5, 6, 7]) (by kernel_rfl) (by simp) (AllReadyH.cons rfl (fun K5 hK5 => ?ku2xb1x5) (AllReadyH.cons rfl (fun K6 hK6 => ?ku2xb1x6) (AllReadyH.cons rfl (fun K7 hK7 => ?ku2xb1x7) AllReadyH.nil)))
              case ku2xb1x5 =>
                refine take_calls 5 36 [Operand.tmp 40, Operand.tmp 41] #[67, 22] rfl rfl (by kernel_rfl) (fun args w => run_enter Try.func36 (by kernel_rfl) rfl args w) ?_
                refine (C4.out _ ((h.below HW).more HW.size)).mono ?_
                rintro e w5 ⟨A5, m5, c5, rfl, r5, f5, hb5⟩
                refine ⟨_, rfl, ?_⟩
                have z5 := hb5.size
                try simp only [World.size_drew] at z5
                replace HW := HW.trans (hb5.mono HW.size)
                have zHW5 := HW.size
                replace bQ := Blk.below bQ hb5 (by first | exact Nat.le_refl _ | (simp only [World.size_alloc, World.size_setCell, World.size_drew] at *; omega) | omega)
                replace r2 := Rd.below r2 (hb5.mono (by first | exact Nat.le_refl _ | (simp only [World.size_alloc, World.size_setCell, World.size_drew] at *; omega) | omega))
                refine hK5.out _ _ ?su2xb1xb2x5 (fun hHeld => ?ru2xb1xb2x5)
                case su2xb1xb2x5 => ((try dsimp only); exact blk7 bQ)
                try simp only [List.setIfInBounds_toArray, List.set_cons_zero, List.set_cons_succ]
                refine wpAnyH_ready (rs := [6, 7]) (by kernel_rfl) (by simp) (AllReadyH.cons rfl (fun K6 hK6 => ?ku2xb1xb2x6) (AllReadyH.cons rfl (fun K7 hK7 => ?ku2xb1xb2x7) AllReadyH.nil))
                case ku2xb1xb2x6 =>
                  refine take_new (t := 70) (cs := #[.slice none 0 0, .int .i64 0]) 6 (Op.alloc 70) 0 rfl rfl rfl (by kernel_rfl) ?eu2xb1xb2xb3x6 ?_
                  case eu2xb1xb2xb3x6 => (go_simp; try (first | with_reducible rfl | rfl))
                  intro g6 w6 b6 gr6 l6 m6
                  have z6 := gr6.size
                  try simp only [World.size_drew] at z6
                  try simp only [World.size_drew] at l6
                  replace HW := below_grow HW gr6
                  have zHW6 := HW.size
                  replace bQ := Blk.grow0 bQ gr6
                  replace r2 := Rd.grow0 r2 gr6 (by first | exact Nat.le_refl _ | (simp only [World.size_alloc, World.size_setCell, World.size_drew] at *; omega) | omega)
                  replace r5 := Rd.grow0 r5 gr6 (by first | exact Nat.le_refl _ | (simp only [World.size_alloc, World.size_setCell, World.size_drew] at *; omega) | omega)
                  refine hK6.out _ _ ?su2xb1xb2xb3x6 (fun hHeld => ?ru2xb1xb2xb3x6)
                  case su2xb1xb2xb3x6 => ((try dsimp only); exact blk7 bQ)
                  try simp only [List.setIfInBounds_toArray, List.set_cons_zero, List.set_cons_succ]
                  refine wpAnyH_ready (rs := [7]) (by kernel_rfl) (by simp) (AllReadyH.cons rfl (fun K7 hK7 => ?ku2xb1xb2xb3x7) AllReadyH.nil)
                  refine take_new (t := 70) (cs := #[.slice none 0 0, .int .i64 0]) 7 (Op.alloc 70) 0 rfl rfl rfl (by kernel_rfl) ?eu2xb1xb2xb3x7 ?_
                  case eu2xb1xb2xb3x7 => (go_simp; try (first | with_reducible rfl | rfl))
                  intro g7 w7 b7 gr7 l7 m7
                  have z7 := gr7.size
                  try simp only [World.size_drew] at z7
                  try simp only [World.size_drew] at l7
                  replace HW := below_grow HW gr7
                  have zHW7 := HW.size
                  replace bQ := Blk.grow0 bQ gr7
                  replace r2 := Rd.grow0 r2 gr7 (by first | exact Nat.le_refl _ | (simp only [World.size_alloc, World.size_setCell, World.size_drew] at *; omega) | omega)
                  replace r5 := Rd.grow0 r5 gr7 (by first | exact Nat.le_refl _ | (simp only [World.size_alloc, World.size_setCell, World.size_drew] at *; omega) | omega)
                  replace b6 := Blk.grow0 b6 gr7
                  refine hK7.out _ _ ?su2xb1xb2xb3x7 (fun hHeld => ?ru2xb1xb2xb3x7)
                  case su2xb1xb2xb3x7 => ((try dsimp only); exact blk7 bQ)
                  try simp only [List.setIfInBounds_toArray, List.set_cons_zero, List.set_cons_succ]
                  refine wpAnyH_ready (rs := [8]) (by kernel_rfl) (by simp) (AllReadyH.cons rfl (fun K8 hK8 => ?ku2xb1xb2xb3x8) AllReadyH.nil)
                  refine take_store 8 (Op.store 70 (Operand.tmp 6) (Operand.tmp 39)) 0 rfl rfl rfl (by kernel_rfl) (w' := (w7.setCell ⟨g6, 0, none⟩ (.slice A2 m2 c2)).setCell ⟨g6, 1, none⟩ (.int .i64 px)) (by obtain ⟨k0, k1, f0, f1, _⟩ := blk2 b6; go_simp; try (with_reducible rfl)) ?_
                  refine hK8.out _ _ (blk7 ((bQ.far (p := ⟨g6, 0, none⟩) (by dsimp only; omega) _).far (p := ⟨g6, 1, none⟩) (by dsimp only; omega) _)) (fun hHeld => ?_)
                  replace b6 := (b6.set 0 (.slice A2 m2 c2)).set 1 (.int .i64 px)
                  replace b7 := (b7.far (p := ⟨g6, 0, none⟩) (by dsimp only; omega) (.slice A2 m2 c2)).far (p := ⟨g6, 1, none⟩) (by dsimp only; omega) (.int .i64 px)
                  replace bQ := (bQ.far (p := ⟨g6, 0, none⟩) (by dsimp only; omega) (.slice A2 m2 c2)).far (p := ⟨g6, 1, none⟩) (by dsimp only; omega) (.int .i64 px)
                  replace r2 := (r2.apart (p := ⟨g6, 0, none⟩) (fun k hk => by have := f2 k hk; dsimp only; omega) (.slice A2 m2 c2)).apart (p := ⟨g6, 1, none⟩) (fun k hk => by have := f2 k hk; dsimp only; omega) (.int .i64 px)
                  replace r5 := (r5.apart (p := ⟨g6, 0, none⟩) (fun k hk => by have := f5 k hk; dsimp only; omega) (.slice A2 m2 c2)).apart (p := ⟨g6, 1, none⟩) (fun k hk => by have := f5 k hk; dsimp only; omega) (.int .i64 px)
                  replace HW := (HW.setCell (p := ⟨g6, 0, none⟩) (by dsimp only; omega) (.slice A2 m2 c2)).setCell (p := ⟨g6, 1, none⟩) (by dsimp only; omega) (.int .i64 px)
                  refine wpAnyH_ready (rs := [9]) (by kernel_rfl) (by simp) (AllReadyH.cons rfl (fun K9 hK9 => ?ku2xb1xb2xb3x9) AllReadyH.nil)
                  refine take_store 9 (Op.store 70 (Operand.tmp 7) (Operand.tmp 42)) 0 rfl rfl rfl (by kernel_rfl) (w' := (((w7.setCell ⟨g6, 0, none⟩ (.slice A2 m2 c2)).setCell ⟨g6, 1, none⟩ (.int .i64 px)).setCell ⟨g7, 0, none⟩ (.slice A5 m5 c5)).setCell ⟨g7, 1, none⟩ (.int .i64 px)) (by obtain ⟨k0, k1, f0, f1, _⟩ := blk2 b7; go_simp; try (with_reducible rfl)) ?_
                  refine hK9.out _ _ (blk7 ((bQ.far (p := ⟨g7, 0, none⟩) (by dsimp only; omega) _).far (p := ⟨g7, 1, none⟩) (by dsimp only; omega) _)) (fun hHeld => ?_)
                  replace b7 := (b7.set 0 (.slice A5 m5 c5)).set 1 (.int .i64 px)
                  replace b6 := (b6.far (p := ⟨g7, 0, none⟩) (by dsimp only; omega) (.slice A5 m5 c5)).far (p := ⟨g7, 1, none⟩) (by dsimp only; omega) (.int .i64 px)
                  replace bQ := (bQ.far (p := ⟨g7, 0, none⟩) (by dsimp only; omega) (.slice A5 m5 c5)).far (p := ⟨g7, 1, none⟩) (by dsimp only; omega) (.int .i64 px)
                  replace r2 := (r2.apart (p := ⟨g7, 0, none⟩) (fun k hk => by have := f2 k hk; dsimp only; omega) (.slice A5 m5 c5)).apart (p := ⟨g7, 1, none⟩) (fun k hk => by have := f2 k hk; dsimp only; omega) (.int .i64 px)
                  replace r5 := (r5.apart (p := ⟨g7, 0, none⟩) (fun k hk => by have := f5 k hk; dsimp only; omega) (.slice A5 m5 c5)).apart (p := ⟨g7, 1, none⟩) (fun k hk => by have := f5 k hk; dsimp only; omega) (.int .i64 px)
                  replace HW := (HW.setCell (p := ⟨g7, 0, none⟩) (by dsimp only; omega) (.slice A5 m5 c5)).setCell (p := ⟨g7, 1, none⟩) (by dsimp only; omega) (.int .i64 px)
                  refine wpAnyH_done (by kernel_rfl) ?_ _
                  go_wp2_with fail
                  go_meet
                  case rel => exact ⟨g6, g7, A2, m2, c2, A5, m5, c5, rfl, rfl, blk_eq b6 (by simp), blk_eq b7 (by simp), r2.more (by simp only [World.size_setCell]; omega), r5.more (by simp only [World.size_setCell]; omega), HW, bQ⟩
                case ku2xb1xb2x7 =>
                  refine take_new (t := 70) (cs := #[.slice none 0 0, .int .i64 0]) 7 (Op.alloc 70) 0 rfl rfl rfl (by kernel_rfl) ?eu2xb1xb2xb7x7 ?_
                  case eu2xb1xb2xb7x7 => (go_simp; try (first | with_reducible rfl | rfl))
                  intro g7 w7 b7 gr7 l7 m7
                  have z7 := gr7.size
                  try simp only [World.size_drew] at z7
                  try simp only [World.size_drew] at l7
                  replace HW := below_grow HW gr7
                  have zHW7 := HW.size
                  replace bQ := Blk.grow0 bQ gr7
                  replace r2 := Rd.grow0 r2 gr7 (by first | exact Nat.le_refl _ | (simp only [World.size_alloc, World.size_setCell, World.size_drew] at *; omega) | omega)
                  replace r5 := Rd.grow0 r5 gr7 (by first | exact Nat.le_refl _ | (simp only [World.size_alloc, World.size_setCell, World.size_drew] at *; omega) | omega)
                  refine hK7.out _ _ ?su2xb1xb2xb7x7 (fun hHeld => ?ru2xb1xb2xb7x7)
                  case su2xb1xb2xb7x7 => ((try dsimp only); exact blk7 bQ)
                  try simp only [List.setIfInBounds_toArray, List.set_cons_zero, List.set_cons_succ]
                  refine wpAnyH_ready (rs := [6]) (by kernel_rfl) (by simp) (AllReadyH.cons rfl (fun K6 hK6 => ?ku2xb1xb2xb7x6) AllReadyH.nil)
                  refine take_new (t := 70) (cs := #[.slice none 0 0, .int .i64 0]) 6 (Op.alloc 70) 0 rfl rfl rfl (by kernel_rfl) ?eu2xb1xb2xb7x6 ?_
                  case eu2xb1xb2xb7x6 => (go_simp; try (first | with_reducible rfl | rfl))
                  intro g6 w6 b6 gr6 l6 m6
                  have z6 := gr6.size
                  try simp only [World.size_drew] at z6
                  try simp only [World.size_drew] at l6
                  replace HW := below_grow HW gr6
                  have zHW6 := HW.size
                  replace bQ := Blk.grow0 bQ gr6
                  replace r2 := Rd.grow0 r2 gr6 (by first | exact Nat.le_refl _ | (simp only [World.size_alloc, World.size_setCell, World.size_drew] at *; omega) | omega)
                  replace r5 := Rd.grow0 r5 gr6 (by first | exact Nat.le_refl _ | (simp only [World.size_alloc, World.size_setCell, World.size_drew] at *; omega) | omega)
                  replace b7 := Blk.grow0 b7 gr6
                  refine hK6.out _ _ ?su2xb1xb2xb7x6 (fun hHeld => ?ru2xb1xb2xb7x6)
                  case su2xb1xb2xb7x6 => ((try dsimp only); exact blk7 bQ)
                  try simp only [List.setIfInBounds_toArray, List.set_cons_zero, List.set_cons_succ]
                  refine wpAnyH_ready (rs := [8]) (by kernel_rfl) (by simp) (AllReadyH.cons rfl (fun K8 hK8 => ?ku2xb1xb2xb7x8) AllReadyH.nil)
                  refine take_store 8 (Op.store 70 (Operand.tmp 6) (Operand.tmp 39)) 0 rfl rfl rfl (by kernel_rfl) (w' := (w6.setCell ⟨g6, 0, none⟩ (.slice A2 m2 c2)).setCell ⟨g6, 1, none⟩ (.int .i64 px)) (by obtain ⟨k0, k1, f0, f1, _⟩ := blk2 b6; go_simp; try (with_reducible rfl)) ?_
                  refine hK8.out _ _ (blk7 ((bQ.far (p := ⟨g6, 0, none⟩) (by dsimp only; omega) _).far (p := ⟨g6, 1, none⟩) (by dsimp only; omega) _)) (fun hHeld => ?_)
                  replace b6 := (b6.set 0 (.slice A2 m2 c2)).set 1 (.int .i64 px)
                  replace b7 := (b7.far (p := ⟨g6, 0, none⟩) (by dsimp only; omega) (.slice A2 m2 c2)).far (p := ⟨g6, 1, none⟩) (by dsimp only; omega) (.int .i64 px)
                  replace bQ := (bQ.far (p := ⟨g6, 0, none⟩) (by dsimp only; omega) (.slice A2 m2 c2)).far (p := ⟨g6, 1, none⟩) (by dsimp only; omega) (.int .i64 px)
                  replace r2 := (r2.apart (p := ⟨g6, 0, none⟩) (fun k hk => by have := f2 k hk; dsimp only; omega) (.slice A2 m2 c2)).apart (p := ⟨g6, 1, none⟩) (fun k hk => by have := f2 k hk; dsimp only; omega) (.int .i64 px)
                  replace r5 := (r5.apart (p := ⟨g6, 0, none⟩) (fun k hk => by have := f5 k hk; dsimp only; omega) (.slice A2 m2 c2)).apart (p := ⟨g6, 1, none⟩) (fun k hk => by have := f5 k hk; dsimp only; omega) (.int .i64 px)
                  replace HW := (HW.setCell (p := ⟨g6, 0, none⟩) (by dsimp only; omega) (.slice A2 m2 c2)).setCell (p := ⟨g6, 1, none⟩) (by dsimp only; omega) (.int .i64 px)
                  refine wpAnyH_ready (rs := [9]) (by kernel_rfl) (by simp) (AllReadyH.cons rfl (fun K9 hK9 => ?ku2xb1xb2xb7x9) AllReadyH.nil)
                  refine take_store 9 (Op.store 70 (Operand.tmp 7) (Operand.tmp 42)) 0 rfl rfl rfl (by kernel_rfl) (w' := (((w6.setCell ⟨g6, 0, none⟩ (.slice A2 m2 c2)).setCell ⟨g6, 1, none⟩ (.int .i64 px)).setCell ⟨g7, 0, none⟩ (.slice A5 m5 c5)).setCell ⟨g7, 1, none⟩ (.int .i64 px)) (by obtain ⟨k0, k1, f0, f1, _⟩ := blk2 b7; go_simp; try (with_reducible rfl)) ?_
                  refine hK9.out _ _ (blk7 ((bQ.far (p := ⟨g7, 0, none⟩) (by dsimp only; omega) _).far (p := ⟨g7, 1, none⟩) (by dsimp only; omega) _)) (fun hHeld => ?_)
                  replace b7 := (b7.set 0 (.slice A5 m5 c5)).set 1 (.int .i64 px)
                  replace b6 := (b6.far (p := ⟨g7, 0, none⟩) (by dsimp only; omega) (.slice A5 m5 c5)).far (p := ⟨g7, 1, none⟩) (by dsimp only; omega) (.int .i64 px)
                  replace bQ := (bQ.far (p := ⟨g7, 0, none⟩) (by dsimp only; omega) (.slice A5 m5 c5)).far (p := ⟨g7, 1, none⟩) (by dsimp only; omega) (.int .i64 px)
                  replace r2 := (r2.apart (p := ⟨g7, 0, none⟩) (fun k hk => by have := f2 k hk; dsimp only; omega) (.slice A5 m5 c5)).apart (p := ⟨g7, 1, none⟩) (fun k hk => by have := f2 k hk; dsimp only; omega) (.int .i64 px)
                  replace r5 := (r5.apart (p := ⟨g7, 0, none⟩) (fun k hk => by have := f5 k hk; dsimp only; omega) (.slice A5 m5 c5)).apart (p := ⟨g7, 1, none⟩) (fun k hk => by have := f5 k hk; dsimp only; omega) (.int .i64 px)
                  replace HW := (HW.setCell (p := ⟨g7, 0, none⟩) (by dsimp only; omega) (.slice A5 m5 c5)).setCell (p := ⟨g7, 1, none⟩) (by dsimp only; omega) (.int .i64 px)
                  refine wpAnyH_done (by kernel_rfl) ?_ _
                  go_wp2_with fail
                  go_meet
                  case rel => exact ⟨g6, g7, A2, m2, c2, A5, m5, c5, rfl, rfl, blk_eq b6 (by simp), blk_eq b7 (by simp), r2.more (by simp only [World.size_setCell]; omega), r5.more (by simp only [World.size_setCell]; omega), HW, bQ⟩
              case ku2xb1x6 =>
                refine take_new (t := 70) (cs := #[.slice none 0 0, .int .i64 0]) 6 (Op.alloc 70) 0 rfl rfl rfl (by kernel_rfl) ?eu2xb1xb11x6 ?_
                case eu2xb1xb11x6 => (go_simp; try (first | with_reducible rfl | rfl))
                intro g6 w6 b6 gr6 l6 m6
                have z6 := gr6.size
                try simp only [World.size_drew] at z6
                try simp only [World.size_drew] at l6
                replace HW := below_grow HW gr6
                have zHW6 := HW.size
                replace bQ := Blk.grow0 bQ gr6
                replace r2 := Rd.grow0 r2 gr6 (by first | exact Nat.le_refl _ | (simp only [World.size_alloc, World.size_setCell, World.size_drew] at *; omega) | omega)
                refine hK6.out _ _ ?su2xb1xb11x6 (fun hHeld => ?ru2xb1xb11x6)
                case su2xb1xb11x6 => ((try dsimp only); exact blk7 bQ)
                try simp only [List.setIfInBounds_toArray, List.set_cons_zero, List.set_cons_succ]
                refine wpAnyH_ready (rs := [5, 7]) (by kernel_rfl) (by simp) (AllReadyH.cons rfl (fun K5 hK5 => ?ku2xb1xb11x5) (AllReadyH.cons rfl (fun K7 hK7 => ?ku2xb1xb11x7) AllReadyH.nil))
                case ku2xb1xb11x5 =>
                  refine take_calls 5 36 [Operand.tmp 40, Operand.tmp 41] #[67, 22] rfl rfl (by kernel_rfl) (fun args w => run_enter Try.func36 (by kernel_rfl) rfl args w) ?_
                  refine (C4.out _ ((h.below HW).more HW.size)).mono ?_
                  rintro e w5 ⟨A5, m5, c5, rfl, r5, f5, hb5⟩
                  refine ⟨_, rfl, ?_⟩
                  have z5 := hb5.size
                  try simp only [World.size_drew] at z5
                  replace HW := HW.trans (hb5.mono HW.size)
                  have zHW5 := HW.size
                  replace bQ := Blk.below bQ hb5 (by first | exact Nat.le_refl _ | (simp only [World.size_alloc, World.size_setCell, World.size_drew] at *; omega) | omega)
                  replace r2 := Rd.below r2 (hb5.mono (by first | exact Nat.le_refl _ | (simp only [World.size_alloc, World.size_setCell, World.size_drew] at *; omega) | omega))
                  replace b6 := Blk.below b6 hb5 (by first | exact Nat.le_refl _ | (simp only [World.size_alloc, World.size_setCell, World.size_drew] at *; omega) | omega)
                  refine hK5.out _ _ ?su2xb1xb11xb12x5 (fun hHeld => ?ru2xb1xb11xb12x5)
                  case su2xb1xb11xb12x5 => ((try dsimp only); exact blk7 bQ)
                  try simp only [List.setIfInBounds_toArray, List.set_cons_zero, List.set_cons_succ]
                  refine wpAnyH_ready (rs := [7]) (by kernel_rfl) (by simp) (AllReadyH.cons rfl (fun K7 hK7 => ?ku2xb1xb11xb12x7) AllReadyH.nil)
                  refine take_new (t := 70) (cs := #[.slice none 0 0, .int .i64 0]) 7 (Op.alloc 70) 0 rfl rfl rfl (by kernel_rfl) ?eu2xb1xb11xb12x7 ?_
                  case eu2xb1xb11xb12x7 => (go_simp; try (first | with_reducible rfl | rfl))
                  intro g7 w7 b7 gr7 l7 m7
                  have z7 := gr7.size
                  try simp only [World.size_drew] at z7
                  try simp only [World.size_drew] at l7
                  replace HW := below_grow HW gr7
                  have zHW7 := HW.size
                  replace bQ := Blk.grow0 bQ gr7
                  replace r2 := Rd.grow0 r2 gr7 (by first | exact Nat.le_refl _ | (simp only [World.size_alloc, World.size_setCell, World.size_drew] at *; omega) | omega)
                  replace b6 := Blk.grow0 b6 gr7
                  replace r5 := Rd.grow0 r5 gr7 (by first | exact Nat.le_refl _ | (simp only [World.size_alloc, World.size_setCell, World.size_drew] at *; omega) | omega)
                  refine hK7.out _ _ ?su2xb1xb11xb12x7 (fun hHeld => ?ru2xb1xb11xb12x7)
                  case su2xb1xb11xb12x7 => ((try dsimp only); exact blk7 bQ)
                  try simp only [List.setIfInBounds_toArray, List.set_cons_zero, List.set_cons_succ]
                  refine wpAnyH_ready (rs := [8]) (by kernel_rfl) (by simp) (AllReadyH.cons rfl (fun K8 hK8 => ?ku2xb1xb11xb12x8) AllReadyH.nil)
                  refine take_store 8 (Op.store 70 (Operand.tmp 6) (Operand.tmp 39)) 0 rfl rfl rfl (by kernel_rfl) (w' := (w7.setCell ⟨g6, 0, none⟩ (.slice A2 m2 c2)).setCell ⟨g6, 1, none⟩ (.int .i64 px)) (by obtain ⟨k0, k1, f0, f1, _⟩ := blk2 b6; go_simp; try (with_reducible rfl)) ?_
                  refine hK8.out _ _ (blk7 ((bQ.far (p := ⟨g6, 0, none⟩) (by dsimp only; omega) _).far (p := ⟨g6, 1, none⟩) (by dsimp only; omega) _)) (fun hHeld => ?_)
                  replace b6 := (b6.set 0 (.slice A2 m2 c2)).set 1 (.int .i64 px)
                  replace b7 := (b7.far (p := ⟨g6, 0, none⟩) (by dsimp only; omega) (.slice A2 m2 c2)).far (p := ⟨g6, 1, none⟩) (by dsimp only; omega) (.int .i64 px)
                  replace bQ := (bQ.far (p := ⟨g6, 0, none⟩) (by dsimp only; omega) (.slice A2 m2 c2)).far (p := ⟨g6, 1, none⟩) (by dsimp only; omega) (.int .i64 px)
                  replace r2 := (r2.apart (p := ⟨g6, 0, none⟩) (fun k hk => by have := f2 k hk; dsimp only; omega) (.slice A2 m2 c2)).apart (p := ⟨g6, 1, none⟩) (fun k hk => by have := f2 k hk; dsimp only; omega) (.int .i64 px)
                  replace r5 := (r5.apart (p := ⟨g6, 0, none⟩) (fun k hk => by have := f5 k hk; dsimp only; omega) (.slice A2 m2 c2)).apart (p := ⟨g6, 1, none⟩) (fun k hk => by have := f5 k hk; dsimp only; omega) (.int .i64 px)
                  replace HW := (HW.setCell (p := ⟨g6, 0, none⟩) (by dsimp only; omega) (.slice A2 m2 c2)).setCell (p := ⟨g6, 1, none⟩) (by dsimp only; omega) (.int .i64 px)
                  refine wpAnyH_ready (rs := [9]) (by kernel_rfl) (by simp) (AllReadyH.cons rfl (fun K9 hK9 => ?ku2xb1xb11xb12x9) AllReadyH.nil)
                  refine take_store 9 (Op.store 70 (Operand.tmp 7) (Operand.tmp 42)) 0 rfl rfl rfl (by kernel_rfl) (w' := (((w7.setCell ⟨g6, 0, none⟩ (.slice A2 m2 c2)).setCell ⟨g6, 1, none⟩ (.int .i64 px)).setCell ⟨g7, 0, none⟩ (.slice A5 m5 c5)).setCell ⟨g7, 1, none⟩ (.int .i64 px)) (by obtain ⟨k0, k1, f0, f1, _⟩ := blk2 b7; go_simp; try (with_reducible rfl)) ?_
                  refine hK9.out _ _ (blk7 ((bQ.far (p := ⟨g7, 0, none⟩) (by dsimp only; omega) _).far (p := ⟨g7, 1, none⟩) (by dsimp only; omega) _)) (fun hHeld => ?_)
                  replace b7 := (b7.set 0 (.slice A5 m5 c5)).set 1 (.int .i64 px)
                  replace b6 := (b6.far (p := ⟨g7, 0, none⟩) (by dsimp only; omega) (.slice A5 m5 c5)).far (p := ⟨g7, 1, none⟩) (by dsimp only; omega) (.int .i64 px)
                  replace bQ := (bQ.far (p := ⟨g7, 0, none⟩) (by dsimp only; omega) (.slice A5 m5 c5)).far (p := ⟨g7, 1, none⟩) (by dsimp only; omega) (.int .i64 px)
                  replace r2 := (r2.apart (p := ⟨g7, 0, none⟩) (fun k hk => by have := f2 k hk; dsimp only; omega) (.slice A5 m5 c5)).apart (p := ⟨g7, 1, none⟩) (fun k hk => by have := f2 k hk; dsimp only; omega) (.int .i64 px)
                  replace r5 := (r5.apart (p := ⟨g7, 0, none⟩) (fun k hk => by have := f5 k hk; dsimp only; omega) (.slice A5 m5 c5)).apart (p := ⟨g7, 1, none⟩) (fun k hk => by have := f5 k hk; dsimp only; omega) (.int .i64 px)
                  replace HW := (HW.setCell (p := ⟨g7, 0, none⟩) (by dsimp only; omega) (.slice A5 m5 c5)).setCell (p := ⟨g7, 1, none⟩) (by dsimp only; omega) (.int .i64 px)
                  refine wpAnyH_done (by kernel_rfl) ?_ _
                  go_wp2_with fail
                  go_meet
                  case rel => exact ⟨g6, g7, A2, m2, c2, A5, m5, c5, rfl, rfl, blk_eq b6 (by simp), blk_eq b7 (by simp), r2.more (by simp only [World.size_setCell]; omega), r5.more (by simp only [World.size_setCell]; omega), HW, bQ⟩
                case ku2xb1xb11x7 =>
                  refine take_new (t := 70) (cs := #[.slice none 0 0, .int .i64 0]) 7 (Op.alloc 70) 0 rfl rfl rfl (by kernel_rfl) ?eu2xb1xb11xb16x7 ?_
                  case eu2xb1xb11xb16x7 => (go_simp; try (first | with_reducible rfl | rfl))
                  intro g7 w7 b7 gr7 l7 m7
                  have z7 := gr7.size
                  try simp only [World.size_drew] at z7
                  try simp only [World.size_drew] at l7
                  replace HW := below_grow HW gr7
                  have zHW7 := HW.size
                  replace bQ := Blk.grow0 bQ gr7
                  replace r2 := Rd.grow0 r2 gr7 (by first | exact Nat.le_refl _ | (simp only [World.size_alloc, World.size_setCell, World.size_drew] at *; omega) | omega)
                  replace b6 := Blk.grow0 b6 gr7
                  refine hK7.out _ _ ?su2xb1xb11xb16x7 (fun hHeld => ?ru2xb1xb11xb16x7)
                  case su2xb1xb11xb16x7 => ((try dsimp only); exact blk7 bQ)
                  try simp only [List.setIfInBounds_toArray, List.set_cons_zero, List.set_cons_succ]
                  refine wpAnyH_ready (rs := [5]) (by kernel_rfl) (by simp) (AllReadyH.cons rfl (fun K5 hK5 => ?ku2xb1xb11xb16x5) AllReadyH.nil)
                  refine take_calls 5 36 [Operand.tmp 40, Operand.tmp 41] #[67, 22] rfl rfl (by kernel_rfl) (fun args w => run_enter Try.func36 (by kernel_rfl) rfl args w) ?_
                  refine (C4.out _ ((h.below HW).more HW.size)).mono ?_
                  rintro e w5 ⟨A5, m5, c5, rfl, r5, f5, hb5⟩
                  refine ⟨_, rfl, ?_⟩
                  have z5 := hb5.size
                  try simp only [World.size_drew] at z5
                  replace HW := HW.trans (hb5.mono HW.size)
                  have zHW5 := HW.size
                  replace bQ := Blk.below bQ hb5 (by first | exact Nat.le_refl _ | (simp only [World.size_alloc, World.size_setCell, World.size_drew] at *; omega) | omega)
                  replace r2 := Rd.below r2 (hb5.mono (by first | exact Nat.le_refl _ | (simp only [World.size_alloc, World.size_setCell, World.size_drew] at *; omega) | omega))
                  replace b6 := Blk.below b6 hb5 (by first | exact Nat.le_refl _ | (simp only [World.size_alloc, World.size_setCell, World.size_drew] at *; omega) | omega)
                  replace b7 := Blk.below b7 hb5 (by first | exact Nat.le_refl _ | (simp only [World.size_alloc, World.size_setCell, World.size_drew] at *; omega) | omega)
                  refine hK5.out _ _ ?su2xb1xb11xb16x5 (fun hHeld => ?ru2xb1xb11xb16x5)
                  case su2xb1xb11xb16x5 => ((try dsimp only); exact blk7 bQ)
                  try simp only [List.setIfInBounds_toArray, List.set_cons_zero, List.set_cons_succ]
                  refine wpAnyH_ready (rs := [8]) (by kernel_rfl) (by simp) (AllReadyH.cons rfl (fun K8 hK8 => ?ku2xb1xb11xb16x8) AllReadyH.nil)
                  refine take_store 8 (Op.store 70 (Operand.tmp 6) (Operand.tmp 39)) 0 rfl rfl rfl (by kernel_rfl) (w' := (w5.setCell ⟨g6, 0, none⟩ (.slice A2 m2 c2)).setCell ⟨g6, 1, none⟩ (.int .i64 px)) (by obtain ⟨k0, k1, f0, f1, _⟩ := blk2 b6; go_simp; try (with_reducible rfl)) ?_
                  refine hK8.out _ _ (blk7 ((bQ.far (p := ⟨g6, 0, none⟩) (by dsimp only; omega) _).far (p := ⟨g6, 1, none⟩) (by dsimp only; omega) _)) (fun hHeld => ?_)
                  replace b6 := (b6.set 0 (.slice A2 m2 c2)).set 1 (.int .i64 px)
                  replace b7 := (b7.far (p := ⟨g6, 0, none⟩) (by dsimp only; omega) (.slice A2 m2 c2)).far (p := ⟨g6, 1, none⟩) (by dsimp only; omega) (.int .i64 px)
                  replace bQ := (bQ.far (p := ⟨g6, 0, none⟩) (by dsimp only; omega) (.slice A2 m2 c2)).far (p := ⟨g6, 1, none⟩) (by dsimp only; omega) (.int .i64 px)
                  replace r2 := (r2.apart (p := ⟨g6, 0, none⟩) (fun k hk => by have := f2 k hk; dsimp only; omega) (.slice A2 m2 c2)).apart (p := ⟨g6, 1, none⟩) (fun k hk => by have := f2 k hk; dsimp only; omega) (.int .i64 px)
                  replace r5 := (r5.apart (p := ⟨g6, 0, none⟩) (fun k hk => by have := f5 k hk; dsimp only; omega) (.slice A2 m2 c2)).apart (p := ⟨g6, 1, none⟩) (fun k hk => by have := f5 k hk; dsimp only; omega) (.int .i64 px)
                  replace HW := (HW.setCell (p := ⟨g6, 0, none⟩) (by dsimp only; omega) (.slice A2 m2 c2)).setCell (p := ⟨g6, 1, none⟩) (by dsimp only; omega) (.int .i64 px)
                  refine wpAnyH_ready (rs := [9]) (by kernel_rfl) (by simp) (AllReadyH.cons rfl (fun K9 hK9 => ?ku2xb1xb11xb16x9) AllReadyH.nil)
                  refine take_store 9 (Op.store 70 (Operand.tmp 7) (Operand.tmp 42)) 0 rfl rfl rfl (by kernel_rfl) (w' := (((w5.setCell ⟨g6, 0, none⟩ (.slice A2 m2 c2)).setCell ⟨g6, 1, none⟩ (.int .i64 px)).setCell ⟨g7, 0, none⟩ (.slice A5 m5 c5)).setCell ⟨g7, 1, none⟩ (.int .i64 px)) (by obtain ⟨k0, k1, f0, f1, _⟩ := blk2 b7; go_simp; try (with_reducible rfl)) ?_
                  refine hK9.out _ _ (blk7 ((bQ.far (p := ⟨g7, 0, none⟩) (by dsimp only; omega) _).far (p := ⟨g7, 1, none⟩) (by dsimp only; omega) _)) (fun hHeld => ?_)
                  replace b7 := (b7.set 0 (.slice A5 m5 c5)).set 1 (.int .i64 px)
                  replace b6 := (b6.far (p := ⟨g7, 0, none⟩) (by dsimp only; omega) (.slice A5 m5 c5)).far (p := ⟨g7, 1, none⟩) (by dsimp only; omega) (.int .i64 px)
                  replace bQ := (bQ.far (p := ⟨g7, 0, none⟩) (by dsimp only; omega) (.slice A5 m5 c5)).far (p := ⟨g7, 1, none⟩) (by dsimp only; omega) (.int .i64 px)
                  replace r2 := (r2.apart (p := ⟨g7, 0, none⟩) (fun k hk => by have := f2 k hk; dsimp only; omega) (.slice A5 m5 c5)).apart (p := ⟨g7, 1, none⟩) (fun k hk => by have := f2 k hk; dsimp only; omega) (.int .i64 px)
                  replace r5 := (r5.apart (p := ⟨g7, 0, none⟩) (fun k hk => by have := f5 k hk; dsimp only; omega) (.slice A5 m5 c5)).apart (p := ⟨g7, 1, none⟩) (fun k hk => by have := f5 k hk; dsimp only; omega) (.int .i64 px)
                  replace HW := (HW.setCell (p := ⟨g7, 0, none⟩) (by dsimp only; omega) (.slice A5 m5 c5)).setCell (p := ⟨g7, 1, none⟩) (by dsimp only; omega) (.int .i64 px)
                  refine wpAnyH_done (by kernel_rfl) ?_ _
                  go_wp2_with fail
                  go_meet
                  case rel => exact ⟨g6, g7, A2, m2, c2, A5, m5, c5, rfl, rfl, blk_eq b6 (by simp), blk_eq b7 (by simp), r2.more (by simp only [World.size_setCell]; omega), r5.more (by simp only [World.size_setCell]; omega), HW, bQ⟩
              case ku2xb1x7 =>
                refine take_new (t := 70) (cs := #[.slice none 0 0, .int .i64 0]) 7 (Op.alloc 70) 0 rfl rfl rfl (by kernel_rfl) ?eu2xb1xb20x7 ?_
                case eu2xb1xb20x7 => (go_simp; try (first | with_reducible rfl | rfl))
                intro g7 w7 b7 gr7 l7 m7
                have z7 := gr7.size
                try simp only [World.size_drew] at z7
                try simp only [World.size_drew] at l7
                replace HW := below_grow HW gr7
                have zHW7 := HW.size
                replace bQ := Blk.grow0 bQ gr7
                replace r2 := Rd.grow0 r2 gr7 (by first | exact Nat.le_refl _ | (simp only [World.size_alloc, World.size_setCell, World.size_drew] at *; omega) | omega)
                refine hK7.out _ _ ?su2xb1xb20x7 (fun hHeld => ?ru2xb1xb20x7)
                case su2xb1xb20x7 => ((try dsimp only); exact blk7 bQ)
                try simp only [List.setIfInBounds_toArray, List.set_cons_zero, List.set_cons_succ]
                refine wpAnyH_ready (rs := [5, 6]) (by kernel_rfl) (by simp) (AllReadyH.cons rfl (fun K5 hK5 => ?ku2xb1xb20x5) (AllReadyH.cons rfl (fun K6 hK6 => ?ku2xb1xb20x6) AllReadyH.nil))
                case ku2xb1xb20x5 =>
                  refine take_calls 5 36 [Operand.tmp 40, Operand.tmp 41] #[67, 22] rfl rfl (by kernel_rfl) (fun args w => run_enter Try.func36 (by kernel_rfl) rfl args w) ?_
                  refine (C4.out _ ((h.below HW).more HW.size)).mono ?_
                  rintro e w5 ⟨A5, m5, c5, rfl, r5, f5, hb5⟩
                  refine ⟨_, rfl, ?_⟩
                  have z5 := hb5.size
                  try simp only [World.size_drew] at z5
                  replace HW := HW.trans (hb5.mono HW.size)
                  have zHW5 := HW.size
                  replace bQ := Blk.below bQ hb5 (by first | exact Nat.le_refl _ | (simp only [World.size_alloc, World.size_setCell, World.size_drew] at *; omega) | omega)
                  replace r2 := Rd.below r2 (hb5.mono (by first | exact Nat.le_refl _ | (simp only [World.size_alloc, World.size_setCell, World.size_drew] at *; omega) | omega))
                  replace b7 := Blk.below b7 hb5 (by first | exact Nat.le_refl _ | (simp only [World.size_alloc, World.size_setCell, World.size_drew] at *; omega) | omega)
                  refine hK5.out _ _ ?su2xb1xb20xb21x5 (fun hHeld => ?ru2xb1xb20xb21x5)
                  case su2xb1xb20xb21x5 => ((try dsimp only); exact blk7 bQ)
                  try simp only [List.setIfInBounds_toArray, List.set_cons_zero, List.set_cons_succ]
                  refine wpAnyH_ready (rs := [6]) (by kernel_rfl) (by simp) (AllReadyH.cons rfl (fun K6 hK6 => ?ku2xb1xb20xb21x6) AllReadyH.nil)
                  refine take_new (t := 70) (cs := #[.slice none 0 0, .int .i64 0]) 6 (Op.alloc 70) 0 rfl rfl rfl (by kernel_rfl) ?eu2xb1xb20xb21x6 ?_
                  case eu2xb1xb20xb21x6 => (go_simp; try (first | with_reducible rfl | rfl))
                  intro g6 w6 b6 gr6 l6 m6
                  have z6 := gr6.size
                  try simp only [World.size_drew] at z6
                  try simp only [World.size_drew] at l6
                  replace HW := below_grow HW gr6
                  have zHW6 := HW.size
                  replace bQ := Blk.grow0 bQ gr6
                  replace r2 := Rd.grow0 r2 gr6 (by first | exact Nat.le_refl _ | (simp only [World.size_alloc, World.size_setCell, World.size_drew] at *; omega) | omega)
                  replace b7 := Blk.grow0 b7 gr6
                  replace r5 := Rd.grow0 r5 gr6 (by first | exact Nat.le_refl _ | (simp only [World.size_alloc, World.size_setCell, World.size_drew] at *; omega) | omega)
                  refine hK6.out _ _ ?su2xb1xb20xb21x6 (fun hHeld => ?ru2xb1xb20xb21x6)
                  case su2xb1xb20xb21x6 => ((try dsimp only); exact blk7 bQ)
                  try simp only [List.setIfInBounds_toArray, List.set_cons_zero, List.set_cons_succ]
                  refine wpAnyH_ready (rs := [8]) (by kernel_rfl) (by simp) (AllReadyH.cons rfl (fun K8 hK8 => ?ku2xb1xb20xb21x8) AllReadyH.nil)
                  refine take_store 8 (Op.store 70 (Operand.tmp 6) (Operand.tmp 39)) 0 rfl rfl rfl (by kernel_rfl) (w' := (w6.setCell ⟨g6, 0, none⟩ (.slice A2 m2 c2)).setCell ⟨g6, 1, none⟩ (.int .i64 px)) (by obtain ⟨k0, k1, f0, f1, _⟩ := blk2 b6; go_simp; try (with_reducible rfl)) ?_
                  refine hK8.out _ _ (blk7 ((bQ.far (p := ⟨g6, 0, none⟩) (by dsimp only; omega) _).far (p := ⟨g6, 1, none⟩) (by dsimp only; omega) _)) (fun hHeld => ?_)
                  replace b6 := (b6.set 0 (.slice A2 m2 c2)).set 1 (.int .i64 px)
                  replace b7 := (b7.far (p := ⟨g6, 0, none⟩) (by dsimp only; omega) (.slice A2 m2 c2)).far (p := ⟨g6, 1, none⟩) (by dsimp only; omega) (.int .i64 px)
                  replace bQ := (bQ.far (p := ⟨g6, 0, none⟩) (by dsimp only; omega) (.slice A2 m2 c2)).far (p := ⟨g6, 1, none⟩) (by dsimp only; omega) (.int .i64 px)
                  replace r2 := (r2.apart (p := ⟨g6, 0, none⟩) (fun k hk => by have := f2 k hk; dsimp only; omega) (.slice A2 m2 c2)).apart (p := ⟨g6, 1, none⟩) (fun k hk => by have := f2 k hk; dsimp only; omega) (.int .i64 px)
                  replace r5 := (r5.apart (p := ⟨g6, 0, none⟩) (fun k hk => by have := f5 k hk; dsimp only; omega) (.slice A2 m2 c2)).apart (p := ⟨g6, 1, none⟩) (fun k hk => by have := f5 k hk; dsimp only; omega) (.int .i64 px)
                  replace HW := (HW.setCell (p := ⟨g6, 0, none⟩) (by dsimp only; omega) (.slice A2 m2 c2)).setCell (p := ⟨g6, 1, none⟩) (by dsimp only; omega) (.int .i64 px)
                  refine wpAnyH_ready (rs := [9]) (by kernel_rfl) (by simp) (AllReadyH.cons rfl (fun K9 hK9 => ?ku2xb1xb20xb21x9) AllReadyH.nil)
                  refine take_store 9 (Op.store 70 (Operand.tmp 7) (Operand.tmp 42)) 0 rfl rfl rfl (by kernel_rfl) (w' := (((w6.setCell ⟨g6, 0, none⟩ (.slice A2 m2 c2)).setCell ⟨g6, 1, none⟩ (.int .i64 px)).setCell ⟨g7, 0, none⟩ (.slice A5 m5 c5)).setCell ⟨g7, 1, none⟩ (.int .i64 px)) (by obtain ⟨k0, k1, f0, f1, _⟩ := blk2 b7; go_simp; try (with_reducible rfl)) ?_
                  refine hK9.out _ _ (blk7 ((bQ.far (p := ⟨g7, 0, none⟩) (by dsimp only; omega) _).far (p := ⟨g7, 1, none⟩) (by dsimp only; omega) _)) (fun hHeld => ?_)
                  replace b7 := (b7.set 0 (.slice A5 m5 c5)).set 1 (.int .i64 px)
                  replace b6 := (b6.far (p := ⟨g7, 0, none⟩) (by dsimp only; omega) (.slice A5 m5 c5)).far (p := ⟨g7, 1, none⟩) (by dsimp only; omega) (.int .i64 px)
                  replace bQ := (bQ.far (p := ⟨g7, 0, none⟩) (by dsimp only; omega) (.slice A5 m5 c5)).far (p := ⟨g7, 1, none⟩) (by dsimp only; omega) (.int .i64 px)
                  replace r2 := (r2.apart (p := ⟨g7, 0, none⟩) (fun k hk => by have := f2 k hk; dsimp only; omega) (.slice A5 m5 c5)).apart (p := ⟨g7, 1, none⟩) (fun k hk => by have := f2 k hk; dsimp only; omega) (.int .i64 px)
                  replace r5 := (r5.apart (p := ⟨g7, 0, none⟩) (fun k hk => by have := f5 k hk; dsimp only; omega) (.slice A5 m5 c5)).apart (p := ⟨g7, 1, none⟩) (fun k hk => by have := f5 k hk; dsimp only; omega) (.int .i64 px)
                  replace HW := (HW.setCell (p := ⟨g7, 0, none⟩) (by dsimp only; omega) (.slice A5 m5 c5)).setCell (p := ⟨g7, 1, none⟩) (by dsimp only; omega) (.int .i64 px)
                  refine wpAnyH_done (by kernel_rfl) ?_ _
                  go_wp2_with fail
                  go_meet
                  case rel => exact ⟨g6, g7, A2, m2, c2, A5, m5, c5, rfl, rfl, blk_eq b6 (by simp), blk_eq b7 (by simp), r2.more (by simp only [World.size_setCell]; omega), r5.more (by simp only [World.size_setCell]; omega), HW, bQ⟩
                case ku2xb1xb20x6 =>
                  refine take_new (t := 70) (cs := #[.slice none 0 0, .int .i64 0]) 6 (Op.alloc 70) 0 rfl rfl rfl (by kernel_rfl) ?eu2xb1xb20xb25x6 ?_
                  case eu2xb1xb20xb25x6 => (go_simp; try (first | with_reducible rfl | rfl))
                  intro g6 w6 b6 gr6 l6 m6
                  have z6 := gr6.size
                  try simp only [World.size_drew] at z6
                  try simp only [World.size_drew] at l6
                  replace HW := below_grow HW gr6
                  have zHW6 := HW.size
                  replace bQ := Blk.grow0 bQ gr6
                  replace r2 := Rd.grow0 r2 gr6 (by first | exact Nat.le_refl _ | (simp only [World.size_alloc, World.size_setCell, World.size_drew] at *; omega) | omega)
                  replace b7 := Blk.grow0 b7 gr6
                  refine hK6.out _ _ ?su2xb1xb20xb25x6 (fun hHeld => ?ru2xb1xb20xb25x6)
                  case su2xb1xb20xb25x6 => ((try dsimp only); exact blk7 bQ)
                  try simp only [List.setIfInBounds_toArray, List.set_cons_zero, List.set_cons_succ]
                  refine wpAnyH_ready (rs := [5]) (by kernel_rfl) (by simp) (AllReadyH.cons rfl (fun K5 hK5 => ?ku2xb1xb20xb25x5) AllReadyH.nil)
                  refine take_calls 5 36 [Operand.tmp 40, Operand.tmp 41] #[67, 22] rfl rfl (by kernel_rfl) (fun args w => run_enter Try.func36 (by kernel_rfl) rfl args w) ?_
                  refine (C4.out _ ((h.below HW).more HW.size)).mono ?_
                  rintro e w5 ⟨A5, m5, c5, rfl, r5, f5, hb5⟩
                  refine ⟨_, rfl, ?_⟩
                  have z5 := hb5.size
                  try simp only [World.size_drew] at z5
                  replace HW := HW.trans (hb5.mono HW.size)
                  have zHW5 := HW.size
                  replace bQ := Blk.below bQ hb5 (by first | exact Nat.le_refl _ | (simp only [World.size_alloc, World.size_setCell, World.size_drew] at *; omega) | omega)
                  replace r2 := Rd.below r2 (hb5.mono (by first | exact Nat.le_refl _ | (simp only [World.size_alloc, World.size_setCell, World.size_drew] at *; omega) | omega))
                  replace b7 := Blk.below b7 hb5 (by first | exact Nat.le_refl _ | (simp only [World.size_alloc, World.size_setCell, World.size_drew] at *; omega) | omega)
                  replace b6 := Blk.below b6 hb5 (by first | exact Nat.le_refl _ | (simp only [World.size_alloc, World.size_setCell, World.size_drew] at *; omega) | omega)
                  refine hK5.out _ _ ?su2xb1xb20xb25x5 (fun hHeld => ?ru2xb1xb20xb25x5)
                  case su2xb1xb20xb25x5 => ((try dsimp only); exact blk7 bQ)
                  try simp only [List.setIfInBounds_toArray, List.set_cons_zero, List.set_cons_succ]
                  refine wpAnyH_ready (rs := [8]) (by kernel_rfl) (by simp) (AllReadyH.cons rfl (fun K8 hK8 => ?ku2xb1xb20xb25x8) AllReadyH.nil)
                  refine take_store 8 (Op.store 70 (Operand.tmp 6) (Operand.tmp 39)) 0 rfl rfl rfl (by kernel_rfl) (w' := (w5.setCell ⟨g6, 0, none⟩ (.slice A2 m2 c2)).setCell ⟨g6, 1, none⟩ (.int .i64 px)) (by obtain ⟨k0, k1, f0, f1, _⟩ := blk2 b6; go_simp; try (with_reducible rfl)) ?_
                  refine hK8.out _ _ (blk7 ((bQ.far (p := ⟨g6, 0, none⟩) (by dsimp only; omega) _).far (p := ⟨g6, 1, none⟩) (by dsimp only; omega) _)) (fun hHeld => ?_)
                  replace b6 := (b6.set 0 (.slice A2 m2 c2)).set 1 (.int .i64 px)
                  replace b7 := (b7.far (p := ⟨g6, 0, none⟩) (by dsimp only; omega) (.slice A2 m2 c2)).far (p := ⟨g6, 1, none⟩) (by dsimp only; omega) (.int .i64 px)
                  replace bQ := (bQ.far (p := ⟨g6, 0, none⟩) (by dsimp only; omega) (.slice A2 m2 c2)).far (p := ⟨g6, 1, none⟩) (by dsimp only; omega) (.int .i64 px)
                  replace r2 := (r2.apart (p := ⟨g6, 0, none⟩) (fun k hk => by have := f2 k hk; dsimp only; omega) (.slice A2 m2 c2)).apart (p := ⟨g6, 1, none⟩) (fun k hk => by have := f2 k hk; dsimp only; omega) (.int .i64 px)
                  replace r5 := (r5.apart (p := ⟨g6, 0, none⟩) (fun k hk => by have := f5 k hk; dsimp only; omega) (.slice A2 m2 c2)).apart (p := ⟨g6, 1, none⟩) (fun k hk => by have := f5 k hk; dsimp only; omega) (.int .i64 px)
                  replace HW := (HW.setCell (p := ⟨g6, 0, none⟩) (by dsimp only; omega) (.slice A2 m2 c2)).setCell (p := ⟨g6, 1, none⟩) (by dsimp only; omega) (.int .i64 px)
                  refine wpAnyH_ready (rs := [9]) (by kernel_rfl) (by simp) (AllReadyH.cons rfl (fun K9 hK9 => ?ku2xb1xb20xb25x9) AllReadyH.nil)
                  refine take_store 9 (Op.store 70 (Operand.tmp 7) (Operand.tmp 42)) 0 rfl rfl rfl (by kernel_rfl) (w' := (((w5.setCell ⟨g6, 0, none⟩ (.slice A2 m2 c2)).setCell ⟨g6, 1, none⟩ (.int .i64 px)).setCell ⟨g7, 0, none⟩ (.slice A5 m5 c5)).setCell ⟨g7, 1, none⟩ (.int .i64 px)) (by obtain ⟨k0, k1, f0, f1, _⟩ := blk2 b7; go_simp; try (with_reducible rfl)) ?_
                  refine hK9.out _ _ (blk7 ((bQ.far (p := ⟨g7, 0, none⟩) (by dsimp only; omega) _).far (p := ⟨g7, 1, none⟩) (by dsimp only; omega) _)) (fun hHeld => ?_)
                  replace b7 := (b7.set 0 (.slice A5 m5 c5)).set 1 (.int .i64 px)
                  replace b6 := (b6.far (p := ⟨g7, 0, none⟩) (by dsimp only; omega) (.slice A5 m5 c5)).far (p := ⟨g7, 1, none⟩) (by dsimp only; omega) (.int .i64 px)
                  replace bQ := (bQ.far (p := ⟨g7, 0, none⟩) (by dsimp only; omega) (.slice A5 m5 c5)).far (p := ⟨g7, 1, none⟩) (by dsimp only; omega) (.int .i64 px)
                  replace r2 := (r2.apart (p := ⟨g7, 0, none⟩) (fun k hk => by have := f2 k hk; dsimp only; omega) (.slice A5 m5 c5)).apart (p := ⟨g7, 1, none⟩) (fun k hk => by have := f2 k hk; dsimp only; omega) (.int .i64 px)
                  replace r5 := (r5.apart (p := ⟨g7, 0, none⟩) (fun k hk => by have := f5 k hk; dsimp only; omega) (.slice A5 m5 c5)).apart (p := ⟨g7, 1, none⟩) (fun k hk => by have := f5 k hk; dsimp only; omega) (.int .i64 px)
                  replace HW := (HW.setCell (p := ⟨g7, 0, none⟩) (by dsimp only; omega) (.slice A5 m5 c5)).setCell (p := ⟨g7, 1, none⟩) (by dsimp only; omega) (.int .i64 px)
                  refine wpAnyH_done (by kernel_rfl) ?_ _
                  go_wp2_with fail
                  go_meet
                  case rel => exact ⟨g6, g7, A2, m2, c2, A5, m5, c5, rfl, rfl, blk_eq b6 (by simp), blk_eq b7 (by simp), r2.more (by simp only [World.size_setCell]; omega), r5.more (by simp only [World.size_setCell]; omega), HW, bQ⟩
            case ku2x6 =>
              refine take_new (t := 70) (cs := #[.slice none 0 0, .int .i64 0]) 6 (Op.alloc 70) 0 rfl rfl rfl (by kernel_rfl) ?eu2xb29x6 ?_
              case eu2xb29x6 => (go_simp; try (first | with_reducible rfl | rfl))
              intro g6 w6 b6 gr6 l6 m6
              have z6 := gr6.size
              try simp only [World.size_drew] at z6
              try simp only [World.size_drew] at l6
              replace HW := below_grow HW gr6
              have zHW6 := HW.size
              replace bQ := Blk.grow0 bQ gr6
              refine hK6.out _ _ ?su2xb29x6 (fun hHeld => ?ru2xb29x6)
              case su2xb29x6 => ((try dsimp only); exact blk7 bQ)
              try simp only [List.setIfInBounds_toArray, List.set_cons_zero, List.set_cons_succ]
              refine wpAnyH_ready (rs := [2, 7]) (by kernel_rfl) (by simp) (AllReadyH.cons rfl (fun K2 hK2 => ?ku2xb29x2) (AllReadyH.cons rfl (fun K7 hK7 => ?ku2xb29x7) AllReadyH.nil))
              case ku2xb29x2 =>
                refine take_calls 2 35 [Operand.tmp 37, Operand.tmp 38] #[67, 22] rfl rfl (by kernel_rfl) (fun args w => run_enter Try.func35 (by kernel_rfl) rfl args w) ?_
                refine (C3.out _ ((h.below HW).more HW.size)).mono ?_
                rintro e w2 ⟨A2, m2, c2, rfl, r2, f2, hb2⟩
                refine ⟨_, rfl, ?_⟩
                have z2 := hb2.size
                try simp only [World.size_drew] at z2
                replace HW := HW.trans (hb2.mono HW.size)
                have zHW2 := HW.size
                replace bQ := Blk.below bQ hb2 (by first | exact Nat.le_refl _ | (simp only [World.size_alloc, World.size_setCell, World.size_drew] at *; omega) | omega)
                replace b6 := Blk.below b6 hb2 (by first | exact Nat.le_refl _ | (simp only [World.size_alloc, World.size_setCell, World.size_drew] at *; omega) | omega)
                refine hK2.out _ _ ?su2xb29xb30x2 (fun hHeld => ?ru2xb29xb30x2)
                case su2xb29xb30x2 => ((try dsimp only); exact blk7 bQ)
                try simp only [List.setIfInBounds_toArray, List.set_cons_zero, List.set_cons_succ]
                refine wpAnyH_ready (rs := [5, 7]) (by kernel_rfl) (by simp) (AllReadyH.cons rfl (fun K5 hK5 => ?ku2xb29xb30x5) (AllReadyH.cons rfl (fun K7 hK7 => ?ku2xb29xb30x7) AllReadyH.nil))
                case ku2xb29xb30x5 =>
                  refine take_calls 5 36 [Operand.tmp 40, Operand.tmp 41] #[67, 22] rfl rfl (by kernel_rfl) (fun args w => run_enter Try.func36 (by kernel_rfl) rfl args w) ?_
                  refine (C4.out _ ((h.below HW).more HW.size)).mono ?_
                  rintro e w5 ⟨A5, m5, c5, rfl, r5, f5, hb5⟩
                  refine ⟨_, rfl, ?_⟩
                  have z5 := hb5.size
                  try simp only [World.size_drew] at z5
                  replace HW := HW.trans (hb5.mono HW.size)
                  have zHW5 := HW.size
                  replace bQ := Blk.below bQ hb5 (by first | exact Nat.le_refl _ | (simp only [World.size_alloc, World.size_setCell, World.size_drew] at *; omega) | omega)
                  replace b6 := Blk.below b6 hb5 (by first | exact Nat.le_refl _ | (simp only [World.size_alloc, World.size_setCell, World.size_drew] at *; omega) | omega)
                  replace r2 := Rd.below r2 (hb5.mono (by first | exact Nat.le_refl _ | (simp only [World.size_alloc, World.size_setCell, World.size_drew] at *; omega) | omega))
                  refine hK5.out _ _ ?su2xb29xb30xb31x5 (fun hHeld => ?ru2xb29xb30xb31x5)
                  case su2xb29xb30xb31x5 => ((try dsimp only); exact blk7 bQ)
                  try simp only [List.setIfInBounds_toArray, List.set_cons_zero, List.set_cons_succ]
                  refine wpAnyH_ready (rs := [7]) (by kernel_rfl) (by simp) (AllReadyH.cons rfl (fun K7 hK7 => ?ku2xb29xb30xb31x7) AllReadyH.nil)
                  refine take_new (t := 70) (cs := #[.slice none 0 0, .int .i64 0]) 7 (Op.alloc 70) 0 rfl rfl rfl (by kernel_rfl) ?eu2xb29xb30xb31x7 ?_
                  case eu2xb29xb30xb31x7 => (go_simp; try (first | with_reducible rfl | rfl))
                  intro g7 w7 b7 gr7 l7 m7
                  have z7 := gr7.size
                  try simp only [World.size_drew] at z7
                  try simp only [World.size_drew] at l7
                  replace HW := below_grow HW gr7
                  have zHW7 := HW.size
                  replace bQ := Blk.grow0 bQ gr7
                  replace b6 := Blk.grow0 b6 gr7
                  replace r2 := Rd.grow0 r2 gr7 (by first | exact Nat.le_refl _ | (simp only [World.size_alloc, World.size_setCell, World.size_drew] at *; omega) | omega)
                  replace r5 := Rd.grow0 r5 gr7 (by first | exact Nat.le_refl _ | (simp only [World.size_alloc, World.size_setCell, World.size_drew] at *; omega) | omega)
                  refine hK7.out _ _ ?su2xb29xb30xb31x7 (fun hHeld => ?ru2xb29xb30xb31x7)
                  case su2xb29xb30xb31x7 => ((try dsimp only); exact blk7 bQ)
                  try simp only [List.setIfInBounds_toArray, List.set_cons_zero, List.set_cons_succ]
                  refine wpAnyH_ready (rs := [8]) (by kernel_rfl) (by simp) (AllReadyH.cons rfl (fun K8 hK8 => ?ku2xb29xb30xb31x8) AllReadyH.nil)
                  refine take_store 8 (Op.store 70 (Operand.tmp 6) (Operand.tmp 39)) 0 rfl rfl rfl (by kernel_rfl) (w' := (w7.setCell ⟨g6, 0, none⟩ (.slice A2 m2 c2)).setCell ⟨g6, 1, none⟩ (.int .i64 px)) (by obtain ⟨k0, k1, f0, f1, _⟩ := blk2 b6; go_simp; try (with_reducible rfl)) ?_
                  refine hK8.out _ _ (blk7 ((bQ.far (p := ⟨g6, 0, none⟩) (by dsimp only; omega) _).far (p := ⟨g6, 1, none⟩) (by dsimp only; omega) _)) (fun hHeld => ?_)
                  replace b6 := (b6.set 0 (.slice A2 m2 c2)).set 1 (.int .i64 px)
                  replace b7 := (b7.far (p := ⟨g6, 0, none⟩) (by dsimp only; omega) (.slice A2 m2 c2)).far (p := ⟨g6, 1, none⟩) (by dsimp only; omega) (.int .i64 px)
                  replace bQ := (bQ.far (p := ⟨g6, 0, none⟩) (by dsimp only; omega) (.slice A2 m2 c2)).far (p := ⟨g6, 1, none⟩) (by dsimp only; omega) (.int .i64 px)
                  replace r2 := (r2.apart (p := ⟨g6, 0, none⟩) (fun k hk => by have := f2 k hk; dsimp only; omega) (.slice A2 m2 c2)).apart (p := ⟨g6, 1, none⟩) (fun k hk => by have := f2 k hk; dsimp only; omega) (.int .i64 px)
                  replace r5 := (r5.apart (p := ⟨g6, 0, none⟩) (fun k hk => by have := f5 k hk; dsimp only; omega) (.slice A2 m2 c2)).apart (p := ⟨g6, 1, none⟩) (fun k hk => by have := f5 k hk; dsimp only; omega) (.int .i64 px)
                  replace HW := (HW.setCell (p := ⟨g6, 0, none⟩) (by dsimp only; omega) (.slice A2 m2 c2)).setCell (p := ⟨g6, 1, none⟩) (by dsimp only; omega) (.int .i64 px)
                  refine wpAnyH_ready (rs := [9]) (by kernel_rfl) (by simp) (AllReadyH.cons rfl (fun K9 hK9 => ?ku2xb29xb30xb31x9) AllReadyH.nil)
                  refine take_store 9 (Op.store 70 (Operand.tmp 7) (Operand.tmp 42)) 0 rfl rfl rfl (by kernel_rfl) (w' := (((w7.setCell ⟨g6, 0, none⟩ (.slice A2 m2 c2)).setCell ⟨g6, 1, none⟩ (.int .i64 px)).setCell ⟨g7, 0, none⟩ (.slice A5 m5 c5)).setCell ⟨g7, 1, none⟩ (.int .i64 px)) (by obtain ⟨k0, k1, f0, f1, _⟩ := blk2 b7; go_simp; try (with_reducible rfl)) ?_
                  refine hK9.out _ _ (blk7 ((bQ.far (p := ⟨g7, 0, none⟩) (by dsimp only; omega) _).far (p := ⟨g7, 1, none⟩) (by dsimp only; omega) _)) (fun hHeld => ?_)
                  replace b7 := (b7.set 0 (.slice A5 m5 c5)).set 1 (.int .i64 px)
                  replace b6 := (b6.far (p := ⟨g7, 0, none⟩) (by dsimp only; omega) (.slice A5 m5 c5)).far (p := ⟨g7, 1, none⟩) (by dsimp only; omega) (.int .i64 px)
                  replace bQ := (bQ.far (p := ⟨g7, 0, none⟩) (by dsimp only; omega) (.slice A5 m5 c5)).far (p := ⟨g7, 1, none⟩) (by dsimp only; omega) (.int .i64 px)
                  replace r2 := (r2.apart (p := ⟨g7, 0, none⟩) (fun k hk => by have := f2 k hk; dsimp only; omega) (.slice A5 m5 c5)).apart (p := ⟨g7, 1, none⟩) (fun k hk => by have := f2 k hk; dsimp only; omega) (.int .i64 px)
                  replace r5 := (r5.apart (p := ⟨g7, 0, none⟩) (fun k hk => by have := f5 k hk; dsimp only; omega) (.slice A5 m5 c5)).apart (p := ⟨g7, 1, none⟩) (fun k hk => by have := f5 k hk; dsimp only; omega) (.int .i64 px)
                  replace HW := (HW.setCell (p := ⟨g7, 0, none⟩) (by dsimp only; omega) (.slice A5 m5 c5)).setCell (p := ⟨g7, 1, none⟩) (by dsimp only; omega) (.int .i64 px)
                  refine wpAnyH_done (by kernel_rfl) ?_ _
                  go_wp2_with fail
                  go_meet
                  case rel => exact ⟨g6, g7, A2, m2, c2, A5, m5, c5, rfl, rfl, blk_eq b6 (by simp), blk_eq b7 (by simp), r2.more (by simp only [World.size_setCell]; omega), r5.more (by simp only [World.size_setCell]; omega), HW, bQ⟩
                case ku2xb29xb30x7 =>
                  refine take_new (t := 70) (cs := #[.slice none 0 0, .int .i64 0]) 7 (Op.alloc 70) 0 rfl rfl rfl (by kernel_rfl) ?eu2xb29xb30xb35x7 ?_
                  case eu2xb29xb30xb35x7 => (go_simp; try (first | with_reducible rfl | rfl))
                  intro g7 w7 b7 gr7 l7 m7
                  have z7 := gr7.size
                  try simp only [World.size_drew] at z7
                  try simp only [World.size_drew] at l7
                  replace HW := below_grow HW gr7
                  have zHW7 := HW.size
                  replace bQ := Blk.grow0 bQ gr7
                  replace b6 := Blk.grow0 b6 gr7
                  replace r2 := Rd.grow0 r2 gr7 (by first | exact Nat.le_refl _ | (simp only [World.size_alloc, World.size_setCell, World.size_drew] at *; omega) | omega)
                  refine hK7.out _ _ ?su2xb29xb30xb35x7 (fun hHeld => ?ru2xb29xb30xb35x7)
                  case su2xb29xb30xb35x7 => ((try dsimp only); exact blk7 bQ)
                  try simp only [List.setIfInBounds_toArray, List.set_cons_zero, List.set_cons_succ]
                  refine wpAnyH_ready (rs := [5]) (by kernel_rfl) (by simp) (AllReadyH.cons rfl (fun K5 hK5 => ?ku2xb29xb30xb35x5) AllReadyH.nil)
                  refine take_calls 5 36 [Operand.tmp 40, Operand.tmp 41] #[67, 22] rfl rfl (by kernel_rfl) (fun args w => run_enter Try.func36 (by kernel_rfl) rfl args w) ?_
                  refine (C4.out _ ((h.below HW).more HW.size)).mono ?_
                  rintro e w5 ⟨A5, m5, c5, rfl, r5, f5, hb5⟩
                  refine ⟨_, rfl, ?_⟩
                  have z5 := hb5.size
                  try simp only [World.size_drew] at z5
                  replace HW := HW.trans (hb5.mono HW.size)
                  have zHW5 := HW.size
                  replace bQ := Blk.below bQ hb5 (by first | exact Nat.le_refl _ | (simp only [World.size_alloc, World.size_setCell, World.size_drew] at *; omega) | omega)
                  replace b6 := Blk.below b6 hb5 (by first | exact Nat.le_refl _ | (simp only [World.size_alloc, World.size_setCell, World.size_drew] at *; omega) | omega)
                  replace r2 := Rd.below r2 (hb5.mono (by first | exact Nat.le_refl _ | (simp only [World.size_alloc, World.size_setCell, World.size_drew] at *; omega) | omega))
                  replace b7 := Blk.below b7 hb5 (by first | exact Nat.le_refl _ | (simp only [World.size_alloc, World.size_setCell, World.size_drew] at *; omega) | omega)
                  refine hK5.out _ _ ?su2xb29xb30xb35x5 (fun hHeld => ?ru2xb29xb30xb35x5)
                  case su2xb29xb30xb35x5 => ((try dsimp only); exact blk7 bQ)
                  try simp only [List.setIfInBounds_toArray, List.set_cons_zero, List.set_cons_succ]
                  refine wpAnyH_ready (rs := [8]) (by kernel_rfl) (by simp) (AllReadyH.cons rfl (fun K8 hK8 => ?ku2xb29xb30xb35x8) AllReadyH.nil)
                  refine take_store 8 (Op.store 70 (Operand.tmp 6) (Operand.tmp 39)) 0 rfl rfl rfl (by kernel_rfl) (w' := (w5.setCell ⟨g6, 0, none⟩ (.slice A2 m2 c2)).setCell ⟨g6, 1, none⟩ (.int .i64 px)) (by obtain ⟨k0, k1, f0, f1, _⟩ := blk2 b6; go_simp; try (with_reducible rfl)) ?_
                  refine hK8.out _ _ (blk7 ((bQ.far (p := ⟨g6, 0, none⟩) (by dsimp only; omega) _).far (p := ⟨g6, 1, none⟩) (by dsimp only; omega) _)) (fun hHeld => ?_)
                  replace b6 := (b6.set 0 (.slice A2 m2 c2)).set 1 (.int .i64 px)
                  replace b7 := (b7.far (p := ⟨g6, 0, none⟩) (by dsimp only; omega) (.slice A2 m2 c2)).far (p := ⟨g6, 1, none⟩) (by dsimp only; omega) (.int .i64 px)
                  replace bQ := (bQ.far (p := ⟨g6, 0, none⟩) (by dsimp only; omega) (.slice A2 m2 c2)).far (p := ⟨g6, 1, none⟩) (by dsimp only; omega) (.int .i64 px)
                  replace r2 := (r2.apart (p := ⟨g6, 0, none⟩) (fun k hk => by have := f2 k hk; dsimp only; omega) (.slice A2 m2 c2)).apart (p := ⟨g6, 1, none⟩) (fun k hk => by have := f2 k hk; dsimp only; omega) (.int .i64 px)
                  replace r5 := (r5.apart (p := ⟨g6, 0, none⟩) (fun k hk => by have := f5 k hk; dsimp only; omega) (.slice A2 m2 c2)).apart (p := ⟨g6, 1, none⟩) (fun k hk => by have := f5 k hk; dsimp only; omega) (.int .i64 px)
                  replace HW := (HW.setCell (p := ⟨g6, 0, none⟩) (by dsimp only; omega) (.slice A2 m2 c2)).setCell (p := ⟨g6, 1, none⟩) (by dsimp only; omega) (.int .i64 px)
                  refine wpAnyH_ready (rs := [9]) (by kernel_rfl) (by simp) (AllReadyH.cons rfl (fun K9 hK9 => ?ku2xb29xb30xb35x9) AllReadyH.nil)
                  refine take_store 9 (Op.store 70 (Operand.tmp 7) (Operand.tmp 42)) 0 rfl rfl rfl (by kernel_rfl) (w' := (((w5.setCell ⟨g6, 0, none⟩ (.slice A2 m2 c2)).setCell ⟨g6, 1, none⟩ (.int .i64 px)).setCell ⟨g7, 0, none⟩ (.slice A5 m5 c5)).setCell ⟨g7, 1, none⟩ (.int .i64 px)) (by obtain ⟨k0, k1, f0, f1, _⟩ := blk2 b7; go_simp; try (with_reducible rfl)) ?_
                  refine hK9.out _ _ (blk7 ((bQ.far (p := ⟨g7, 0, none⟩) (by dsimp only; omega) _).far (p := ⟨g7, 1, none⟩) (by dsimp only; omega) _)) (fun hHeld => ?_)
                  replace b7 := (b7.set 0 (.slice A5 m5 c5)).set 1 (.int .i64 px)
                  replace b6 := (b6.far (p := ⟨g7, 0, none⟩) (by dsimp only; omega) (.slice A5 m5 c5)).far (p := ⟨g7, 1, none⟩) (by dsimp only; omega) (.int .i64 px)
                  replace bQ := (bQ.far (p := ⟨g7, 0, none⟩) (by dsimp only; omega) (.slice A5 m5 c5)).far (p := ⟨g7, 1, none⟩) (by dsimp only; omega) (.int .i64 px)
                  replace r2 := (r2.apart (p := ⟨g7, 0, none⟩) (fun k hk => by have := f2 k hk; dsimp only; omega) (.slice A5 m5 c5)).apart (p := ⟨g7, 1, none⟩) (fun k hk => by have := f2 k hk; dsimp only; omega) (.int .i64 px)
                  replace r5 := (r5.apart (p := ⟨g7, 0, none⟩) (fun k hk => by have := f5 k hk; dsimp only; omega) (.slice A5 m5 c5)).apart (p := ⟨g7, 1, none⟩) (fun k hk => by have := f5 k hk; dsimp only; omega) (.int .i64 px)
                  replace HW := (HW.setCell (p := ⟨g7, 0, none⟩) (by dsimp only; omega) (.slice A5 m5 c5)).setCell (p := ⟨g7, 1, none⟩) (by dsimp only; omega) (.int .i64 px)
                  refine wpAnyH_done (by kernel_rfl) ?_ _
                  go_wp2_with fail
                  go_meet
                  case rel => exact ⟨g6, g7, A2, m2, c2, A5, m5, c5, rfl, rfl, blk_eq b6 (by simp), blk_eq b7 (by simp), r2.more (by simp only [World.size_setCell]; omega), r5.more (by simp only [World.size_setCell]; omega), HW, bQ⟩
              case ku2xb29x7 =>
                refine take_new (t := 70) (cs := #[.slice none 0 0, .int .i64 0]) 7 (Op.alloc 70) 0 rfl rfl rfl (by kernel_rfl) ?eu2xb29xb39x7 ?_
                case eu2xb29xb39x7 => (go_simp; try (first | with_reducible rfl | rfl))
                intro g7 w7 b7 gr7 l7 m7
                have z7 := gr7.size
                try simp only [World.size_drew] at z7
                try simp only [World.size_drew] at l7
                replace HW := below_grow HW gr7
                have zHW7 := HW.size
                replace bQ := Blk.grow0 bQ gr7
                replace b6 := Blk.grow0 b6 gr7
                refine hK7.out _ _ ?su2xb29xb39x7 (fun hHeld => ?ru2xb29xb39x7)
                case su2xb29xb39x7 => ((try dsimp only); exact blk7 bQ)
                try simp only [List.setIfInBounds_toArray, List.set_cons_zero, List.set_cons_succ]
                refine wpAnyH_ready (rs := [2]) (by kernel_rfl) (by simp) (AllReadyH.cons rfl (fun K2 hK2 => ?ku2xb29xb39x2) AllReadyH.nil)
                refine take_calls 2 35 [Operand.tmp 37, Operand.tmp 38] #[67, 22] rfl rfl (by kernel_rfl) (fun args w => run_enter Try.func35 (by kernel_rfl) rfl args w) ?_
                refine (C3.out _ ((h.below HW).more HW.size)).mono ?_
                rintro e w2 ⟨A2, m2, c2, rfl, r2, f2, hb2⟩
                refine ⟨_, rfl, ?_⟩
                have z2 := hb2.size
                try simp only [World.size_drew] at z2
                replace HW := HW.trans (hb2.mono HW.size)
                have zHW2 := HW.size
                replace bQ := Blk.below bQ hb2 (by first | exact Nat.le_refl _ | (simp only [World.size_alloc, World.size_setCell, World.size_drew] at *; omega) | omega)
                replace b6 := Blk.below b6 hb2 (by first | exact Nat.le_refl _ | (simp only [World.size_alloc, World.size_setCell, World.size_drew] at *; omega) | omega)
                replace b7 := Blk.below b7 hb2 (by first | exact Nat.le_refl _ | (simp only [World.size_alloc, World.size_setCell, World.size_drew] at *; omega) | omega)
                refine hK2.out _ _ ?su2xb29xb39x2 (fun hHeld => ?ru2xb29xb39x2)
                case su2xb29xb39x2 => ((try dsimp only); exact blk7 bQ)
                try simp only [List.setIfInBounds_toArray, List.set_cons_zero, List.set_cons_succ]
                refine wpAnyH_ready (rs := [5]) (by kernel_rfl) (by simp) (AllReadyH.cons rfl (fun K5 hK5 => ?ku2xb29xb39x5) AllReadyH.nil)
                refine take_calls 5 36 [Operand.tmp 40, Operand.tmp 41] #[67, 22] rfl rfl (by kernel_rfl) (fun args w => run_enter Try.func36 (by kernel_rfl) rfl args w) ?_
                refine (C4.out _ ((h.below HW).more HW.size)).mono ?_
                rintro e w5 ⟨A5, m5, c5, rfl, r5, f5, hb5⟩
                refine ⟨_, rfl, ?_⟩
                have z5 := hb5.size
                try simp only [World.size_drew] at z5
                replace HW := HW.trans (hb5.mono HW.size)
                have zHW5 := HW.size
                replace bQ := Blk.below bQ hb5 (by first | exact Nat.le_refl _ | (simp only [World.size_alloc, World.size_setCell, World.size_drew] at *; omega) | omega)
                replace b6 := Blk.below b6 hb5 (by first | exact Nat.le_refl _ | (simp only [World.size_alloc, World.size_setCell, World.size_drew] at *; omega) | omega)
                replace b7 := Blk.below b7 hb5 (by first | exact Nat.le_refl _ | (simp only [World.size_alloc, World.size_setCell, World.size_drew] at *; omega) | omega)
                replace r2 := Rd.below r2 (hb5.mono (by first | exact Nat.le_refl _ | (simp only [World.size_alloc, World.size_setCell, World.size_drew] at *; omega) | omega))
                refine hK5.out _ _ ?su2xb29xb39x5 (fun hHeld => ?ru2xb29xb39x5)
                case su2xb29xb39x5 => ((try dsimp only); exact blk7 bQ)
                try simp only [List.setIfInBounds_toArray, List.set_cons_zero, List.set_cons_succ]
                refine wpAnyH_ready (rs := [8]) (by kernel_rfl) (by simp) (AllReadyH.cons rfl (fun K8 hK8 => ?ku2xb29xb39x8) AllReadyH.nil)
                refine take_store 8 (Op.store 70 (Operand.tmp 6) (Operand.tmp 39)) 0 rfl rfl rfl (by kernel_rfl) (w' := (w5.setCell ⟨g6, 0, none⟩ (.slice A2 m2 c2)).setCell ⟨g6, 1, none⟩ (.int .i64 px)) (by obtain ⟨k0, k1, f0, f1, _⟩ := blk2 b6; go_simp; try (with_reducible rfl)) ?_
                refine hK8.out _ _ (blk7 ((bQ.far (p := ⟨g6, 0, none⟩) (by dsimp only; omega) _).far (p := ⟨g6, 1, none⟩) (by dsimp only; omega) _)) (fun hHeld => ?_)
                replace b6 := (b6.set 0 (.slice A2 m2 c2)).set 1 (.int .i64 px)
                replace b7 := (b7.far (p := ⟨g6, 0, none⟩) (by dsimp only; omega) (.slice A2 m2 c2)).far (p := ⟨g6, 1, none⟩) (by dsimp only; omega) (.int .i64 px)
                replace bQ := (bQ.far (p := ⟨g6, 0, none⟩) (by dsimp only; omega) (.slice A2 m2 c2)).far (p := ⟨g6, 1, none⟩) (by dsimp only; omega) (.int .i64 px)
                replace r2 := (r2.apart (p := ⟨g6, 0, none⟩) (fun k hk => by have := f2 k hk; dsimp only; omega) (.slice A2 m2 c2)).apart (p := ⟨g6, 1, none⟩) (fun k hk => by have := f2 k hk; dsimp only; omega) (.int .i64 px)
                replace r5 := (r5.apart (p := ⟨g6, 0, none⟩) (fun k hk => by have := f5 k hk; dsimp only; omega) (.slice A2 m2 c2)).apart (p := ⟨g6, 1, none⟩) (fun k hk => by have := f5 k hk; dsimp only; omega) (.int .i64 px)
                replace HW := (HW.setCell (p := ⟨g6, 0, none⟩) (by dsimp only; omega) (.slice A2 m2 c2)).setCell (p := ⟨g6, 1, none⟩) (by dsimp only; omega) (.int .i64 px)
                refine wpAnyH_ready (rs := [9]) (by kernel_rfl) (by simp) (AllReadyH.cons rfl (fun K9 hK9 => ?ku2xb29xb39x9) AllReadyH.nil)
                refine take_store 9 (Op.store 70 (Operand.tmp 7) (Operand.tmp 42)) 0 rfl rfl rfl (by kernel_rfl) (w' := (((w5.setCell ⟨g6, 0, none⟩ (.slice A2 m2 c2)).setCell ⟨g6, 1, none⟩ (.int .i64 px)).setCell ⟨g7, 0, none⟩ (.slice A5 m5 c5)).setCell ⟨g7, 1, none⟩ (.int .i64 px)) (by obtain ⟨k0, k1, f0, f1, _⟩ := blk2 b7; go_simp; try (with_reducible rfl)) ?_
                refine hK9.out _ _ (blk7 ((bQ.far (p := ⟨g7, 0, none⟩) (by dsimp only; omega) _).far (p := ⟨g7, 1, none⟩) (by dsimp only; omega) _)) (fun hHeld => ?_)
                replace b7 := (b7.set 0 (.slice A5 m5 c5)).set 1 (.int .i64 px)
                replace b6 := (b6.far (p := ⟨g7, 0, none⟩) (by dsimp only; omega) (.slice A5 m5 c5)).far (p := ⟨g7, 1, none⟩) (by dsimp only; omega) (.int .i64 px)
                replace bQ := (bQ.far (p := ⟨g7, 0, none⟩) (by dsimp only; omega) (.slice A5 m5 c5)).far (p := ⟨g7, 1, none⟩) (by dsimp only; omega) (.int .i64 px)
                replace r2 := (r2.apart (p := ⟨g7, 0, none⟩) (fun k hk => by have := f2 k hk; dsimp only; omega) (.slice A5 m5 c5)).apart (p := ⟨g7, 1, none⟩) (fun k hk => by have := f2 k hk; dsimp only; omega) (.int .i64 px)
                replace r5 := (r5.apart (p := ⟨g7, 0, none⟩) (fun k hk => by have := f5 k hk; dsimp only; omega) (.slice A5 m5 c5)).apart (p := ⟨g7, 1, none⟩) (fun k hk => by have := f5 k hk; dsimp only; omega) (.int .i64 px)
                replace HW := (HW.setCell (p := ⟨g7, 0, none⟩) (by dsimp only; omega) (.slice A5 m5 c5)).setCell (p := ⟨g7, 1, none⟩) (by dsimp only; omega) (.int .i64 px)
                refine wpAnyH_done (by kernel_rfl) ?_ _
                go_wp2_with fail
                go_meet
                case rel => exact ⟨g6, g7, A2, m2, c2, A5, m5, c5, rfl, rfl, blk_eq b6 (by simp), blk_eq b7 (by simp), r2.more (by simp only [World.size_setCell]; omega), r5.more (by simp only [World.size_setCell]; omega), HW, bQ⟩
            case ku2x7 =>
              refine take_new (t := 70) (cs := #[.slice none 0 0, .int .i64 0]) 7 (Op.alloc 70) 0 rfl rfl rfl (by kernel_rfl) ?eu2xb44x7 ?_
              case eu2xb44x7 => (go_simp; try (first | with_reducible rfl | rfl))
              intro g7 w7 b7 gr7 l7 m7
              have z7 := gr7.size
              try simp only [World.size_drew] at z7
              try simp only [World.size_drew] at l7
              replace HW := below_grow HW gr7
              have zHW7 := HW.size
              replace bQ := Blk.grow0 bQ gr7
              refine hK7.out _ _ ?su2xb44x7 (fun hHeld => ?ru2xb44x7)
              case su2xb44x7 => ((try dsimp only); exact blk7 bQ)
              try simp only [List.setIfInBounds_toArray, List.set_cons_zero, List.set_cons_succ]
              refine wpAnyH_ready (rs := [2, 6]) (by kernel_rfl) (by simp) (AllReadyH.cons rfl (fun K2 hK2 => ?ku2xb44x2) (AllReadyH.cons rfl (fun K6 hK6 => ?ku2xb44x6) AllReadyH.nil))
              case ku2xb44x2 =>
                refine take_calls 2 35 [Operand.tmp 37, Operand.tmp 38] #[67, 22] rfl rfl (by kernel_rfl) (fun args w => run_enter Try.func35 (by kernel_rfl) rfl args w) ?_
                refine (C3.out _ ((h.below HW).more HW.size)).mono ?_
                rintro e w2 ⟨A2, m2, c2, rfl, r2, f2, hb2⟩
                refine ⟨_, rfl, ?_⟩
                have z2 := hb2.size
                try simp only [World.size_drew] at z2
                replace HW := HW.trans (hb2.mono HW.size)
                have zHW2 := HW.size
                replace bQ := Blk.below bQ hb2 (by first | exact Nat.le_refl _ | (simp only [World.size_alloc, World.size_setCell, World.size_drew] at *; omega) | omega)
                replace b7 := Blk.below b7 hb2 (by first | exact Nat.le_refl _ | (simp only [World.size_alloc, World.size_setCell, World.size_drew] at *; omega) | omega)
                refine hK2.out _ _ ?su2xb44xb45x2 (fun hHeld => ?ru2xb44xb45x2)
                case su2xb44xb45x2 => ((try dsimp only); exact blk7 bQ)
                try simp only [List.setIfInBounds_toArray, List.set_cons_zero, List.set_cons_succ]
                refine wpAnyH_ready (rs := [5, 6]) (by kernel_rfl) (by simp) (AllReadyH.cons rfl (fun K5 hK5 => ?ku2xb44xb45x5) (AllReadyH.cons rfl (fun K6 hK6 => ?ku2xb44xb45x6) AllReadyH.nil))
                case ku2xb44xb45x5 =>
                  refine take_calls 5 36 [Operand.tmp 40, Operand.tmp 41] #[67, 22] rfl rfl (by kernel_rfl) (fun args w => run_enter Try.func36 (by kernel_rfl) rfl args w) ?_
                  refine (C4.out _ ((h.below HW).more HW.size)).mono ?_
                  rintro e w5 ⟨A5, m5, c5, rfl, r5, f5, hb5⟩
                  refine ⟨_, rfl, ?_⟩
                  have z5 := hb5.size
                  try simp only [World.size_drew] at z5
                  replace HW := HW.trans (hb5.mono HW.size)
                  have zHW5 := HW.size
                  replace bQ := Blk.below bQ hb5 (by first | exact Nat.le_refl _ | (simp only [World.size_alloc, World.size_setCell, World.size_drew] at *; omega) | omega)
                  replace b7 := Blk.below b7 hb5 (by first | exact Nat.le_refl _ | (simp only [World.size_alloc, World.size_setCell, World.size_drew] at *; omega) | omega)
                  replace r2 := Rd.below r2 (hb5.mono (by first | exact Nat.le_refl _ | (simp only [World.size_alloc, World.size_setCell, World.size_drew] at *; omega) | omega))
                  refine hK5.out _ _ ?su2xb44xb45xb46x5 (fun hHeld => ?ru2xb44xb45xb46x5)
                  case su2xb44xb45xb46x5 => ((try dsimp only); exact blk7 bQ)
                  try simp only [List.setIfInBounds_toArray, List.set_cons_zero, List.set_cons_succ]
                  refine wpAnyH_ready (rs := [6]) (by kernel_rfl) (by simp) (AllReadyH.cons rfl (fun K6 hK6 => ?ku2xb44xb45xb46x6) AllReadyH.nil)
                  refine take_new (t := 70) (cs := #[.slice none 0 0, .int .i64 0]) 6 (Op.alloc 70) 0 rfl rfl rfl (by kernel_rfl) ?eu2xb44xb45xb46x6 ?_
                  case eu2xb44xb45xb46x6 => (go_simp; try (first | with_reducible rfl | rfl))
                  intro g6 w6 b6 gr6 l6 m6
                  have z6 := gr6.size
                  try simp only [World.size_drew] at z6
                  try simp only [World.size_drew] at l6
                  replace HW := below_grow HW gr6
                  have zHW6 := HW.size
                  replace bQ := Blk.grow0 bQ gr6
                  replace b7 := Blk.grow0 b7 gr6
                  replace r2 := Rd.grow0 r2 gr6 (by first | exact Nat.le_refl _ | (simp only [World.size_alloc, World.size_setCell, World.size_drew] at *; omega) | omega)
                  replace r5 := Rd.grow0 r5 gr6 (by first | exact Nat.le_refl _ | (simp only [World.size_alloc, World.size_setCell, World.size_drew] at *; omega) | omega)
                  refine hK6.out _ _ ?su2xb44xb45xb46x6 (fun hHeld => ?ru2xb44xb45xb46x6)
                  case su2xb44xb45xb46x6 => ((try dsimp only); exact blk7 bQ)
                  try simp only [List.setIfInBounds_toArray, List.set_cons_zero, List.set_cons_succ]
                  refine wpAnyH_ready (rs := [8]) (by kernel_rfl) (by simp) (AllReadyH.cons rfl (fun K8 hK8 => ?ku2xb44xb45xb46x8) AllReadyH.nil)
                  refine take_store 8 (Op.store 70 (Operand.tmp 6) (Operand.tmp 39)) 0 rfl rfl rfl (by kernel_rfl) (w' := (w6.setCell ⟨g6, 0, none⟩ (.slice A2 m2 c2)).setCell ⟨g6, 1, none⟩ (.int .i64 px)) (by obtain ⟨k0, k1, f0, f1, _⟩ := blk2 b6; go_simp; try (with_reducible rfl)) ?_
                  refine hK8.out _ _ (blk7 ((bQ.far (p := ⟨g6, 0, none⟩) (by dsimp only; omega) _).far (p := ⟨g6, 1, none⟩) (by dsimp only; omega) _)) (fun hHeld => ?_)
                  replace b6 := (b6.set 0 (.slice A2 m2 c2)).set 1 (.int .i64 px)
                  replace b7 := (b7.far (p := ⟨g6, 0, none⟩) (by dsimp only; omega) (.slice A2 m2 c2)).far (p := ⟨g6, 1, none⟩) (by dsimp only; omega) (.int .i64 px)
                  replace bQ := (bQ.far (p := ⟨g6, 0, none⟩) (by dsimp only; omega) (.slice A2 m2 c2)).far (p := ⟨g6, 1, none⟩) (by dsimp only; omega) (.int .i64 px)
                  replace r2 := (r2.apart (p := ⟨g6, 0, none⟩) (fun k hk => by have := f2 k hk; dsimp only; omega) (.slice A2 m2 c2)).apart (p := ⟨g6, 1, none⟩) (fun k hk => by have := f2 k hk; dsimp only; omega) (.int .i64 px)
                  replace r5 := (r5.apart (p := ⟨g6, 0, none⟩) (fun k hk => by have := f5 k hk; dsimp only; omega) (.slice A2 m2 c2)).apart (p := ⟨g6, 1, none⟩) (fun k hk => by have := f5 k hk; dsimp only; omega) (.int .i64 px)
                  replace HW := (HW.setCell (p := ⟨g6, 0, none⟩) (by dsimp only; omega) (.slice A2 m2 c2)).setCell (p := ⟨g6, 1, none⟩) (by dsimp only; omega) (.int .i64 px)
                  refine wpAnyH_ready (rs := [9]) (by kernel_rfl) (by simp) (AllReadyH.cons rfl (fun K9 hK9 => ?ku2xb44xb45xb46x9) AllReadyH.nil)
                  refine take_store 9 (Op.store 70 (Operand.tmp 7) (Operand.tmp 42)) 0 rfl rfl rfl (by kernel_rfl) (w' := (((w6.setCell ⟨g6, 0, none⟩ (.slice A2 m2 c2)).setCell ⟨g6, 1, none⟩ (.int .i64 px)).setCell ⟨g7, 0, none⟩ (.slice A5 m5 c5)).setCell ⟨g7, 1, none⟩ (.int .i64 px)) (by obtain ⟨k0, k1, f0, f1, _⟩ := blk2 b7; go_simp; try (with_reducible rfl)) ?_
                  refine hK9.out _ _ (blk7 ((bQ.far (p := ⟨g7, 0, none⟩) (by dsimp only; omega) _).far (p := ⟨g7, 1, none⟩) (by dsimp only; omega) _)) (fun hHeld => ?_)
                  replace b7 := (b7.set 0 (.slice A5 m5 c5)).set 1 (.int .i64 px)
                  replace b6 := (b6.far (p := ⟨g7, 0, none⟩) (by dsimp only; omega) (.slice A5 m5 c5)).far (p := ⟨g7, 1, none⟩) (by dsimp only; omega) (.int .i64 px)
                  replace bQ := (bQ.far (p := ⟨g7, 0, none⟩) (by dsimp only; omega) (.slice A5 m5 c5)).far (p := ⟨g7, 1, none⟩) (by dsimp only; omega) (.int .i64 px)
                  replace r2 := (r2.apart (p := ⟨g7, 0, none⟩) (fun k hk => by have := f2 k hk; dsimp only; omega) (.slice A5 m5 c5)).apart (p := ⟨g7, 1, none⟩) (fun k hk => by have := f2 k hk; dsimp only; omega) (.int .i64 px)
                  replace r5 := (r5.apart (p := ⟨g7, 0, none⟩) (fun k hk => by have := f5 k hk; dsimp only; omega) (.slice A5 m5 c5)).apart (p := ⟨g7, 1, none⟩) (fun k hk => by have := f5 k hk; dsimp only; omega) (.int .i64 px)
                  replace HW := (HW.setCell (p := ⟨g7, 0, none⟩) (by dsimp only; omega) (.slice A5 m5 c5)).setCell (p := ⟨g7, 1, none⟩) (by dsimp only; omega) (.int .i64 px)
                  refine wpAnyH_done (by kernel_rfl) ?_ _
                  go_wp2_with fail
                  go_meet
                  case rel => exact ⟨g6, g7, A2, m2, c2, A5, m5, c5, rfl, rfl, blk_eq b6 (by simp), blk_eq b7 (by simp), r2.more (by simp only [World.size_setCell]; omega), r5.more (by simp only [World.size_setCell]; omega), HW, bQ⟩
                case ku2xb44xb45x6 =>
                  refine take_new (t := 70) (cs := #[.slice none 0 0, .int .i64 0]) 6 (Op.alloc 70) 0 rfl rfl rfl (by kernel_rfl) ?eu2xb44xb45xb50x6 ?_
                  case eu2xb44xb45xb50x6 => (go_simp; try (first | with_reducible rfl | rfl))
                  intro g6 w6 b6 gr6 l6 m6
                  have z6 := gr6.size
                  try simp only [World.size_drew] at z6
                  try simp only [World.size_drew] at l6
                  replace HW := below_grow HW gr6
                  have zHW6 := HW.size
                  replace bQ := Blk.grow0 bQ gr6
                  replace b7 := Blk.grow0 b7 gr6
                  replace r2 := Rd.grow0 r2 gr6 (by first | exact Nat.le_refl _ | (simp only [World.size_alloc, World.size_setCell, World.size_drew] at *; omega) | omega)
                  refine hK6.out _ _ ?su2xb44xb45xb50x6 (fun hHeld => ?ru2xb44xb45xb50x6)
                  case su2xb44xb45xb50x6 => ((try dsimp only); exact blk7 bQ)
                  try simp only [List.setIfInBounds_toArray, List.set_cons_zero, List.set_cons_succ]
                  refine wpAnyH_ready (rs := [5]) (by kernel_rfl) (by simp) (AllReadyH.cons rfl (fun K5 hK5 => ?ku2xb44xb45xb50x5) AllReadyH.nil)
                  refine take_calls 5 36 [Operand.tmp 40, Operand.tmp 41] #[67, 22] rfl rfl (by kernel_rfl) (fun args w => run_enter Try.func36 (by kernel_rfl) rfl args w) ?_
                  refine (C4.out _ ((h.below HW).more HW.size)).mono ?_
                  rintro e w5 ⟨A5, m5, c5, rfl, r5, f5, hb5⟩
                  refine ⟨_, rfl, ?_⟩
                  have z5 := hb5.size
                  try simp only [World.size_drew] at z5
                  replace HW := HW.trans (hb5.mono HW.size)
                  have zHW5 := HW.size
                  replace bQ := Blk.below bQ hb5 (by first | exact Nat.le_refl _ | (simp only [World.size_alloc, World.size_setCell, World.size_drew] at *; omega) | omega)
                  replace b7 := Blk.below b7 hb5 (by first | exact Nat.le_refl _ | (simp only [World.size_alloc, World.size_setCell, World.size_drew] at *; omega) | omega)
                  replace r2 := Rd.below r2 (hb5.mono (by first | exact Nat.le_refl _ | (simp only [World.size_alloc, World.size_setCell, World.size_drew] at *; omega) | omega))
                  replace b6 := Blk.below b6 hb5 (by first | exact Nat.le_refl _ | (simp only [World.size_alloc, World.size_setCell, World.size_drew] at *; omega) | omega)
                  refine hK5.out _ _ ?su2xb44xb45xb50x5 (fun hHeld => ?ru2xb44xb45xb50x5)
                  case su2xb44xb45xb50x5 => ((try dsimp only); exact blk7 bQ)
                  try simp only [List.setIfInBounds_toArray, List.set_cons_zero, List.set_cons_succ]
                  refine wpAnyH_ready (rs := [8]) (by kernel_rfl) (by simp) (AllReadyH.cons rfl (fun K8 hK8 => ?ku2xb44xb45xb50x8) AllReadyH.nil)
                  refine take_store 8 (Op.store 70 (Operand.tmp 6) (Operand.tmp 39)) 0 rfl rfl rfl (by kernel_rfl) (w' := (w5.setCell ⟨g6, 0, none⟩ (.slice A2 m2 c2)).setCell ⟨g6, 1, none⟩ (.int .i64 px)) (by obtain ⟨k0, k1, f0, f1, _⟩ := blk2 b6; go_simp; try (with_reducible rfl)) ?_
                  refine hK8.out _ _ (blk7 ((bQ.far (p := ⟨g6, 0, none⟩) (by dsimp only; omega) _).far (p := ⟨g6, 1, none⟩) (by dsimp only; omega) _)) (fun hHeld => ?_)
                  replace b6 := (b6.set 0 (.slice A2 m2 c2)).set 1 (.int .i64 px)
                  replace b7 := (b7.far (p := ⟨g6, 0, none⟩) (by dsimp only; omega) (.slice A2 m2 c2)).far (p := ⟨g6, 1, none⟩) (by dsimp only; omega) (.int .i64 px)
                  replace bQ := (bQ.far (p := ⟨g6, 0, none⟩) (by dsimp only; omega) (.slice A2 m2 c2)).far (p := ⟨g6, 1, none⟩) (by dsimp only; omega) (.int .i64 px)
                  replace r2 := (r2.apart (p := ⟨g6, 0, none⟩) (fun k hk => by have := f2 k hk; dsimp only; omega) (.slice A2 m2 c2)).apart (p := ⟨g6, 1, none⟩) (fun k hk => by have := f2 k hk; dsimp only; omega) (.int .i64 px)
                  replace r5 := (r5.apart (p := ⟨g6, 0, none⟩) (fun k hk => by have := f5 k hk; dsimp only; omega) (.slice A2 m2 c2)).apart (p := ⟨g6, 1, none⟩) (fun k hk => by have := f5 k hk; dsimp only; omega) (.int .i64 px)
                  replace HW := (HW.setCell (p := ⟨g6, 0, none⟩) (by dsimp only; omega) (.slice A2 m2 c2)).setCell (p := ⟨g6, 1, none⟩) (by dsimp only; omega) (.int .i64 px)
                  refine wpAnyH_ready (rs := [9]) (by kernel_rfl) (by simp) (AllReadyH.cons rfl (fun K9 hK9 => ?ku2xb44xb45xb50x9) AllReadyH.nil)
                  refine take_store 9 (Op.store 70 (Operand.tmp 7) (Operand.tmp 42)) 0 rfl rfl rfl (by kernel_rfl) (w' := (((w5.setCell ⟨g6, 0, none⟩ (.slice A2 m2 c2)).setCell ⟨g6, 1, none⟩ (.int .i64 px)).setCell ⟨g7, 0, none⟩ (.slice A5 m5 c5)).setCell ⟨g7, 1, none⟩ (.int .i64 px)) (by obtain ⟨k0, k1, f0, f1, _⟩ := blk2 b7; go_simp; try (with_reducible rfl)) ?_
                  refine hK9.out _ _ (blk7 ((bQ.far (p := ⟨g7, 0, none⟩) (by dsimp only; omega) _).far (p := ⟨g7, 1, none⟩) (by dsimp only; omega) _)) (fun hHeld => ?_)
                  replace b7 := (b7.set 0 (.slice A5 m5 c5)).set 1 (.int .i64 px)
                  replace b6 := (b6.far (p := ⟨g7, 0, none⟩) (by dsimp only; omega) (.slice A5 m5 c5)).far (p := ⟨g7, 1, none⟩) (by dsimp only; omega) (.int .i64 px)
                  replace bQ := (bQ.far (p := ⟨g7, 0, none⟩) (by dsimp only; omega) (.slice A5 m5 c5)).far (p := ⟨g7, 1, none⟩) (by dsimp only; omega) (.int .i64 px)
                  replace r2 := (r2.apart (p := ⟨g7, 0, none⟩) (fun k hk => by have := f2 k hk; dsimp only; omega) (.slice A5 m5 c5)).apart (p := ⟨g7, 1, none⟩) (fun k hk => by have := f2 k hk; dsimp only; omega) (.int .i64 px)
                  replace r5 := (r5.apart (p := ⟨g7, 0, none⟩) (fun k hk => by have := f5 k hk; dsimp only; omega) (.slice A5 m5 c5)).apart (p := ⟨g7, 1, none⟩) (fun k hk => by have := f5 k hk; dsimp only; omega) (.int .i64 px)
                  replace HW := (HW.setCell (p := ⟨g7, 0, none⟩) (by dsimp only; omega) (.slice A5 m5 c5)).setCell (p := ⟨g7, 1, none⟩) (by dsimp only; omega) (.int .i64 px)
                  refine wpAnyH_done (by kernel_rfl) ?_ _
                  go_wp2_with fail
                  go_meet
                  case rel => exact ⟨g6, g7, A2, m2, c2, A5, m5, c5, rfl, rfl, blk_eq b6 (by simp), blk_eq b7 (by simp), r2.more (by simp only [World.size_setCell]; omega), r5.more (by simp only [World.size_setCell]; omega), HW, bQ⟩
              case ku2xb44x6 =>
                refine take_new (t := 70) (cs := #[.slice none 0 0, .int .i64 0]) 6 (Op.alloc 70) 0 rfl rfl rfl (by kernel_rfl) ?eu2xb44xb54x6 ?_
                case eu2xb44xb54x6 => (go_simp; try (first | with_reducible rfl | rfl))
                intro g6 w6 b6 gr6 l6 m6
                have z6 := gr6.size
                try simp only [World.size_drew] at z6
                try simp only [World.size_drew] at l6
                replace HW := below_grow HW gr6
                have zHW6 := HW.size
                replace bQ := Blk.grow0 bQ gr6
                replace b7 := Blk.grow0 b7 gr6
                refine hK6.out _ _ ?su2xb44xb54x6 (fun hHeld => ?ru2xb44xb54x6)
                case su2xb44xb54x6 => ((try dsimp only); exact blk7 bQ)
                try simp only [List.setIfInBounds_toArray, List.set_cons_zero, List.set_cons_succ]
                refine wpAnyH_ready (rs := [2]) (by kernel_rfl) (by simp) (AllReadyH.cons rfl (fun K2 hK2 => ?ku2xb44xb54x2) AllReadyH.nil)
                refine take_calls 2 35 [Operand.tmp 37, Operand.tmp 38] #[67, 22] rfl rfl (by kernel_rfl) (fun args w => run_enter Try.func35 (by kernel_rfl) rfl args w) ?_
                refine (C3.out _ ((h.below HW).more HW.size)).mono ?_
                rintro e w2 ⟨A2, m2, c2, rfl, r2, f2, hb2⟩
                refine ⟨_, rfl, ?_⟩
                have z2 := hb2.size
                try simp only [World.size_drew] at z2
                replace HW := HW.trans (hb2.mono HW.size)
                have zHW2 := HW.size
                replace bQ := Blk.below bQ hb2 (by first | exact Nat.le_refl _ | (simp only [World.size_alloc, World.size_setCell, World.size_drew] at *; omega) | omega)
                replace b7 := Blk.below b7 hb2 (by first | exact Nat.le_refl _ | (simp only [World.size_alloc, World.size_setCell, World.size_drew] at *; omega) | omega)
                replace b6 := Blk.below b6 hb2 (by first | exact Nat.le_refl _ | (simp only [World.size_alloc, World.size_setCell, World.size_drew] at *; omega) | omega)
                refine hK2.out _ _ ?su2xb44xb54x2 (fun hHeld => ?ru2xb44xb54x2)
                case su2xb44xb54x2 => ((try dsimp only); exact blk7 bQ)
                try simp only [List.setIfInBounds_toArray, List.set_cons_zero, List.set_cons_succ]
                refine wpAnyH_ready (rs := [5]) (by kernel_rfl) (by simp) (AllReadyH.cons rfl (fun K5 hK5 => ?ku2xb44xb54x5) AllReadyH.nil)
                refine take_calls 5 36 [Operand.tmp 40, Operand.tmp 41] #[67, 22] rfl rfl (by kernel_rfl) (fun args w => run_enter Try.func36 (by kernel_rfl) rfl args w) ?_
                refine (C4.out _ ((h.below HW).more HW.size)).mono ?_
                rintro e w5 ⟨A5, m5, c5, rfl, r5, f5, hb5⟩
                refine ⟨_, rfl, ?_⟩
                have z5 := hb5.size
                try simp only [World.size_drew] at z5
                replace HW := HW.trans (hb5.mono HW.size)
                have zHW5 := HW.size
                replace bQ := Blk.below bQ hb5 (by first | exact Nat.le_refl _ | (simp only [World.size_alloc, World.size_setCell, World.size_drew] at *; omega) | omega)
                replace b7 := Blk.below b7 hb5 (by first | exact Nat.le_refl _ | (simp only [World.size_alloc, World.size_setCell, World.size_drew] at *; omega) | omega)
                replace b6 := Blk.below b6 hb5 (by first | exact Nat.le_refl _ | (simp only [World.size_alloc, World.size_setCell, World.size_drew] at *; omega) | omega)
                replace r2 := Rd.below r2 (hb5.mono (by first | exact Nat.le_refl _ | (simp only [World.size_alloc, World.size_setCell, World.size_drew] at *; omega) | omega))
                refine hK5.out _ _ ?su2xb44xb54x5 (fun hHeld => ?ru2xb44xb54x5)
                case su2xb44xb54x5 => ((try dsimp only); exact blk7 bQ)
                try simp only [List.setIfInBounds_toArray, List.set_cons_zero, List.set_cons_succ]
                refine wpAnyH_ready (rs := [8]) (by kernel_rfl) (by simp) (AllReadyH.cons rfl (fun K8 hK8 => ?ku2xb44xb54x8) AllReadyH.nil)
                refine take_store 8 (Op.store 70 (Operand.tmp 6) (Operand.tmp 39)) 0 rfl rfl rfl (by kernel_rfl) (w' := (w5.setCell ⟨g6, 0, none⟩ (.slice A2 m2 c2)).setCell ⟨g6, 1, none⟩ (.int .i64 px)) (by obtain ⟨k0, k1, f0, f1, _⟩ := blk2 b6; go_simp; try (with_reducible rfl)) ?_
                refine hK8.out _ _ (blk7 ((bQ.far (p := ⟨g6, 0, none⟩) (by dsimp only; omega) _).far (p := ⟨g6, 1, none⟩) (by dsimp only; omega) _)) (fun hHeld => ?_)
                replace b6 := (b6.set 0 (.slice A2 m2 c2)).set 1 (.int .i64 px)
                replace b7 := (b7.far (p := ⟨g6, 0, none⟩) (by dsimp only; omega) (.slice A2 m2 c2)).far (p := ⟨g6, 1, none⟩) (by dsimp only; omega) (.int .i64 px)
                replace bQ := (bQ.far (p := ⟨g6, 0, none⟩) (by dsimp only; omega) (.slice A2 m2 c2)).far (p := ⟨g6, 1, none⟩) (by dsimp only; omega) (.int .i64 px)
                replace r2 := (r2.apart (p := ⟨g6, 0, none⟩) (fun k hk => by have := f2 k hk; dsimp only; omega) (.slice A2 m2 c2)).apart (p := ⟨g6, 1, none⟩) (fun k hk => by have := f2 k hk; dsimp only; omega) (.int .i64 px)
                replace r5 := (r5.apart (p := ⟨g6, 0, none⟩) (fun k hk => by have := f5 k hk; dsimp only; omega) (.slice A2 m2 c2)).apart (p := ⟨g6, 1, none⟩) (fun k hk => by have := f5 k hk; dsimp only; omega) (.int .i64 px)
                replace HW := (HW.setCell (p := ⟨g6, 0, none⟩) (by dsimp only; omega) (.slice A2 m2 c2)).setCell (p := ⟨g6, 1, none⟩) (by dsimp only; omega) (.int .i64 px)
                refine wpAnyH_ready (rs := [9]) (by kernel_rfl) (by simp) (AllReadyH.cons rfl (fun K9 hK9 => ?ku2xb44xb54x9) AllReadyH.nil)
                refine take_store 9 (Op.store 70 (Operand.tmp 7) (Operand.tmp 42)) 0 rfl rfl rfl (by kernel_rfl) (w' := (((w5.setCell ⟨g6, 0, none⟩ (.slice A2 m2 c2)).setCell ⟨g6, 1, none⟩ (.int .i64 px)).setCell ⟨g7, 0, none⟩ (.slice A5 m5 c5)).setCell ⟨g7, 1, none⟩ (.int .i64 px)) (by obtain ⟨k0, k1, f0, f1, _⟩ := blk2 b7; go_simp; try (with_reducible rfl)) ?_
                refine hK9.out _ _ (blk7 ((bQ.far (p := ⟨g7, 0, none⟩) (by dsimp only; omega) _).far (p := ⟨g7, 1, none⟩) (by dsimp only; omega) _)) (fun hHeld => ?_)
                replace b7 := (b7.set 0 (.slice A5 m5 c5)).set 1 (.int .i64 px)
                replace b6 := (b6.far (p := ⟨g7, 0, none⟩) (by dsimp only; omega) (.slice A5 m5 c5)).far (p := ⟨g7, 1, none⟩) (by dsimp only; omega) (.int .i64 px)
                replace bQ := (bQ.far (p := ⟨g7, 0, none⟩) (by dsimp only; omega) (.slice A5 m5 c5)).far (p := ⟨g7, 1, none⟩) (by dsimp only; omega) (.int .i64 px)
                replace r2 := (r2.apart (p := ⟨g7, 0, none⟩) (fun k hk => by have := f2 k hk; dsimp only; omega) (.slice A5 m5 c5)).apart (p := ⟨g7, 1, none⟩) (fun k hk => by have := f2 k hk; dsimp only; omega) (.int .i64 px)
                replace r5 := (r5.apart (p := ⟨g7, 0, none⟩) (fun k hk => by have := f5 k hk; dsimp only; omega) (.slice A5 m5 c5)).apart (p := ⟨g7, 1, none⟩) (fun k hk => by have := f5 k hk; dsimp only; omega) (.int .i64 px)
                replace HW := (HW.setCell (p := ⟨g7, 0, none⟩) (by dsimp only; omega) (.slice A5 m5 c5)).setCell (p := ⟨g7, 1, none⟩) (by dsimp only; omega) (.int .i64 px)
                refine wpAnyH_done (by kernel_rfl) ?_ _
                go_wp2_with fail
                go_meet
                case rel => exact ⟨g6, g7, A2, m2, c2, A5, m5, c5, rfl, rfl, blk_eq b6 (by simp), blk_eq b7 (by simp), r2.more (by simp only [World.size_setCell]; omega), r5.more (by simp only [World.size_setCell]; omega), HW, bQ⟩
          case rest =>
            obtain ⟨g1, g2, A1, m1, c1, A2, m2, c2, rfl, rfl, bA, bB, r1, r2, HX, bQ⟩ := hcut
            clear HW b2 rw1
            have hgl := bQ.lt
            have hgl1 := bA.lt
            have hgl2 := bB.lt
            have hck : (ck == ck) = true := by simp
            go_wp2_with fail
            refine wp_region_held_drew (S := (fun w' => (w'.cell? ⟨w.heap.size, 0, none⟩ = some (.int .i64 q.s1) ∧ w'.cell? ⟨w.heap.size, 1, none⟩ = some (.int .i64 q.s2) ∧ w'.cell? ⟨w.heap.size, 2, none⟩ = some (.int .i64 q.t1) ∧ w'.cell? ⟨w.heap.size, 3, none⟩ = some (.int .i64 q.t2) ∧ w'.cell? ⟨w.heap.size, 4, none⟩ = some (str q.find) ∧ w'.cell? ⟨w.heap.size, 5, none⟩ = some (.int .i64 q.limit) ∧ w'.cell? ⟨w.heap.size, 6, none⟩ = some (.int .i64 q.frm)) ∧ (w'.cell? ⟨g1, 0, none⟩ = some (.slice A1 m1 c1) ∧ w'.cell? ⟨g1, 1, none⟩ = some (.int .i64 px)) ∧ (w'.cell? ⟨g2, 0, none⟩ = some (.slice A2 m2 c2) ∧ w'.cell? ⟨g2, 1, none⟩ = some (.int .i64 px)))) (by kernel_rfl) ?_ (fun hHeld => ?_)
            · replace HX := Below.drew HX; replace bQ := Blk.drew bQ; replace bA := Blk.drew bA; replace bB := Blk.drew bB; replace r1 := Rd.drew r1; replace r2 := Rd.drew r2; (try dsimp only); exact ⟨blk7 bQ, ⟨bA.cell_ 0 rfl, bA.cell_ 1 rfl⟩, ⟨bB.cell_ 0 rfl, bB.cell_ 1 rfl⟩⟩
            replace HX := Below.drew HX
            replace bQ := Blk.drew bQ
            replace bA := Blk.drew bA
            replace bB := Blk.drew bB
            replace r1 := Rd.drew r1
            replace r2 := Rd.drew r2
            have zHX := HX.size
            refine take_op (v := ?vu3x0) 0 (Op.load 67 (Operand.tmp 2)) 67 rfl rfl rfl rfl rfl (by kernel_rfl) (by kernel_rfl) (by kernel_rfl) (fun _ _ _ h => h) ?yu3x0 (by assumption) ?ru3x0
            case yu3x0 => (intro w' hSw; (try dsimp only at hSw); go_simp; try (with_reducible rfl))
            simp only [List.setIfInBounds_toArray, List.set_cons_zero, List.set_cons_succ]
            refine take_op (v := ?vu3x2) 2 (Op.load 67 (Operand.tmp 2)) 67 rfl rfl rfl rfl rfl (by kernel_rfl) (by kernel_rfl) (by kernel_rfl) (fun _ _ _ h => h) ?yu3x2 (by assumption) ?ru3x2
            case yu3x2 => (intro w' hSw; (try dsimp only at hSw); go_simp; try (with_reducible rfl))
            simp only [List.setIfInBounds_toArray, List.set_cons_zero, List.set_cons_succ]
            refine wpAnyH_ready (rs := [1]) (by kernel_rfl) (by simp) (AllReadyH.cons rfl (fun K1 hK1 => ?ku3x1) AllReadyH.nil)
            refine take_calls 1 37 [Operand.tmp 43] #[67] rfl rfl (by kernel_rfl) (fun args w => run_enter Try.func37 (by kernel_rfl) rfl args w) ?_
            refine (C7.out _).mono ?_
            rintro e w1 ⟨rfl, hb1⟩
            refine ⟨_, rfl, ?_⟩
            have z1 := hb1.size
            try simp only [World.size_drew] at z1
            replace HX := HX.trans (hb1.mono HX.size)
            have zHX1 := HX.size
            replace bQ := Blk.below bQ hb1 (by first | exact Nat.le_refl _ | (simp only [World.size_alloc, World.size_setCell, World.size_drew] at *; omega) | omega)
            replace bA := Blk.below bA hb1 (by first | exact Nat.le_refl _ | (simp only [World.size_alloc, World.size_setCell, World.size_drew] at *; omega) | omega)
            replace bB := Blk.below bB hb1 (by first | exact Nat.le_refl _ | (simp only [World.size_alloc, World.size_setCell, World.size_drew] at *; omega) | omega)
            replace r1 := Rd.below r1 (hb1.mono (by first | exact Nat.le_refl _ | (simp only [World.size_alloc, World.size_setCell, World.size_drew] at *; omega) | omega))
            replace r2 := Rd.below r2 (hb1.mono (by first | exact Nat.le_refl _ | (simp only [World.size_alloc, World.size_setCell, World.size_drew] at *; omega) | omega))
            refine hK1.out _ _ ?su3x1 (fun hHeld => ?ru3x1)
            case su3x1 => ((try dsimp only); exact ⟨blk7 bQ, ⟨bA.cell_ 0 rfl, bA.cell_ 1 rfl⟩, ⟨bB.cell_ 0 rfl, bB.cell_ 1 rfl⟩⟩)
            try simp only [List.setIfInBounds_toArray, List.set_cons_zero, List.set_cons_succ]
            refine wpAnyH_ready (rs := [3]) (by kernel_rfl) (by simp) (AllReadyH.cons rfl (fun K3 hK3 => ?ku3x3) AllReadyH.nil)
            refine take_calls 3 38 [Operand.tmp 45] #[67] rfl rfl (by kernel_rfl) (fun args w => run_enter Try.func38 (by kernel_rfl) rfl args w) ?_
            refine (C8.out _).mono ?_
            rintro e w3 ⟨rfl, hb3⟩
            refine ⟨_, rfl, ?_⟩
            have z3 := hb3.size
            try simp only [World.size_drew] at z3
            replace HX := HX.trans (hb3.mono HX.size)
            have zHX3 := HX.size
            replace bQ := Blk.below bQ hb3 (by first | exact Nat.le_refl _ | (simp only [World.size_alloc, World.size_setCell, World.size_drew] at *; omega) | omega)
            replace bA := Blk.below bA hb3 (by first | exact Nat.le_refl _ | (simp only [World.size_alloc, World.size_setCell, World.size_drew] at *; omega) | omega)
            replace bB := Blk.below bB hb3 (by first | exact Nat.le_refl _ | (simp only [World.size_alloc, World.size_setCell, World.size_drew] at *; omega) | omega)
            replace r1 := Rd.below r1 (hb3.mono (by first | exact Nat.le_refl _ | (simp only [World.size_alloc, World.size_setCell, World.size_drew] at *; omega) | omega))
            replace r2 := Rd.below r2 (hb3.mono (by first | exact Nat.le_refl _ | (simp only [World.size_alloc, World.size_setCell, World.size_drew] at *; omega) | omega))
            refine hK3.out _ _ ?su3x3 (fun hHeld => ?ru3x3)
            case su3x3 => ((try dsimp only); exact ⟨blk7 bQ, ⟨bA.cell_ 0 rfl, bA.cell_ 1 rfl⟩, ⟨bB.cell_ 0 rfl, bB.cell_ 1 rfl⟩⟩)
            try simp only [List.setIfInBounds_toArray, List.set_cons_zero, List.set_cons_succ]
            refine take_op (v := ?vu3x4) 4 (Op.binOp BinOp.eql 3 (Operand.tmp 44) (Operand.tmp 46) 3) 4 rfl rfl rfl rfl rfl (by kernel_rfl) (by kernel_rfl) (by kernel_rfl) (fun _ _ _ h => h) ?yu3x4 (by assumption) ?ru3x4
            case yu3x4 => (intro w' hSw; (try dsimp only at hSw); go_simp; try (with_reducible rfl))
            simp only [List.setIfInBounds_toArray, List.set_cons_zero, List.set_cons_succ]
            refine take_move 5 (Operand.tmp 47) rfl rfl (by first | exact .inl rfl | exact .inr rfl) rfl (by kernel_rfl) (by kernel_rfl) (by kernel_rfl) (fun _ _ _ h => h) (by assumption) ?_
            simp only [List.setIfInBounds_toArray, List.set_cons_zero, List.set_cons_succ]
            refine take_op (v := ?vu3x6) 6 (Op.load 67 (Operand.tmp 2)) 67 rfl rfl rfl rfl rfl (by kernel_rfl) (by kernel_rfl) (by kernel_rfl) (fun _ _ _ h => h) ?yu3x6 (by assumption) ?ru3x6
            case yu3x6 => (intro w' hSw; (try dsimp only at hSw); go_simp; try (with_reducible rfl))
            simp only [List.setIfInBounds_toArray, List.set_cons_zero, List.set_cons_succ]
            refine take_op (v := ?vu3x8) 8 (Op.load 67 (Operand.tmp 2)) 67 rfl rfl rfl rfl rfl (by kernel_rfl) (by kernel_rfl) (by kernel_rfl) (fun _ _ _ h => h) ?yu3x8 (by assumption) ?ru3x8
            case yu3x8 => (intro w' hSw; (try dsimp only at hSw); go_simp; try (with_reducible rfl))
            simp only [List.setIfInBounds_toArray, List.set_cons_zero, List.set_cons_succ]
            refine wpAnyH_ready (rs := [7]) (by kernel_rfl) (by simp) (AllReadyH.cons rfl (fun K7 hK7 => ?ku3x7) AllReadyH.nil)
            refine take_calls 7 39 [Operand.tmp 49] #[67] rfl rfl (by kernel_rfl) (fun args w => run_enter Try.func39 (by kernel_rfl) rfl args w) ?_
            refine (C9.out _).mono ?_
            rintro e w7 ⟨rfl, hb7⟩
            refine ⟨_, rfl, ?_⟩
            have z7 := hb7.size
            try simp only [World.size_drew] at z7
            replace HX := HX.trans (hb7.mono HX.size)
            have zHX7 := HX.size
            replace bQ := Blk.below bQ hb7 (by first | exact Nat.le_refl _ | (simp only [World.size_alloc, World.size_setCell, World.size_drew] at *; omega) | omega)
            replace bA := Blk.below bA hb7 (by first | exact Nat.le_refl _ | (simp only [World.size_alloc, World.size_setCell, World.size_drew] at *; omega) | omega)
            replace bB := Blk.below bB hb7 (by first | exact Nat.le_refl _ | (simp only [World.size_alloc, World.size_setCell, World.size_drew] at *; omega) | omega)
            replace r1 := Rd.below r1 (hb7.mono (by first | exact Nat.le_refl _ | (simp only [World.size_alloc, World.size_setCell, World.size_drew] at *; omega) | omega))
            replace r2 := Rd.below r2 (hb7.mono (by first | exact Nat.le_refl _ | (simp only [World.size_alloc, World.size_setCell, World.size_drew] at *; omega) | omega))
            refine hK7.out _ _ ?su3x7 (fun hHeld => ?ru3x7)
            case su3x7 => ((try dsimp only); exact ⟨blk7 bQ, ⟨bA.cell_ 0 rfl, bA.cell_ 1 rfl⟩, ⟨bB.cell_ 0 rfl, bB.cell_ 1 rfl⟩⟩)
            try simp only [List.setIfInBounds_toArray, List.set_cons_zero, List.set_cons_succ]
            refine wpAnyH_ready (rs := [9]) (by kernel_rfl) (by simp) (AllReadyH.cons rfl (fun K9 hK9 => ?ku3x9) AllReadyH.nil)
            refine take_calls 9 40 [Operand.tmp 51] #[67] rfl rfl (by kernel_rfl) (fun args w => run_enter Try.func40 (by kernel_rfl) rfl args w) ?_
            refine (C10.out _).mono ?_
            rintro e w9 ⟨rfl, hb9⟩
            refine ⟨_, rfl, ?_⟩
            have z9 := hb9.size
            try simp only [World.size_drew] at z9
            replace HX := HX.trans (hb9.mono HX.size)
            have zHX9 := HX.size
            replace bQ := Blk.below bQ hb9 (by first | exact Nat.le_refl _ | (simp only [World.size_alloc, World.size_setCell, World.size_drew] at *; omega) | omega)
            replace bA := Blk.below bA hb9 (by first | exact Nat.le_refl _ | (simp only [World.size_alloc, World.size_setCell, World.size_drew] at *; omega) | omega)
            replace bB := Blk.below bB hb9 (by first | exact Nat.le_refl _ | (simp only [World.size_alloc, World.size_setCell, World.size_drew] at *; omega) | omega)
            replace r1 := Rd.below r1 (hb9.mono (by first | exact Nat.le_refl _ | (simp only [World.size_alloc, World.size_setCell, World.size_drew] at *; omega) | omega))
            replace r2 := Rd.below r2 (hb9.mono (by first | exact Nat.le_refl _ | (simp only [World.size_alloc, World.size_setCell, World.size_drew] at *; omega) | omega))
            refine hK9.out _ _ ?su3x9 (fun hHeld => ?ru3x9)
            case su3x9 => ((try dsimp only); exact ⟨blk7 bQ, ⟨bA.cell_ 0 rfl, bA.cell_ 1 rfl⟩, ⟨bB.cell_ 0 rfl, bB.cell_ 1 rfl⟩⟩)
            try simp only [List.setIfInBounds_toArray, List.set_cons_zero, List.set_cons_succ]
            refine take_op (v := ?vu3x10) 10 (Op.binOp BinOp.eql 65 (Operand.tmp 50) (Operand.tmp 52) 65) 4 rfl rfl rfl rfl rfl (by kernel_rfl) (by kernel_rfl) (by kernel_rfl) (fun _ _ _ h => h) ?yu3x10 (by assumption) ?ru3x10
            case yu3x10 => (intro w' hSw; (try dsimp only at hSw); go_simp; try (with_reducible rfl))
            simp only [List.setIfInBounds_toArray, List.set_cons_zero, List.set_cons_succ]
            refine take_op (v := ?vu3x11) 11 (Op.pick (Operand.tmp 48) (Operand.tmp 53) (Operand.const (Value.bool false))) 4 rfl rfl rfl rfl rfl (by kernel_rfl) (by kernel_rfl) (by kernel_rfl) (fun _ _ _ h => h) ?yu3x11 (by assumption) ?ru3x11
            case yu3x11 => (intro w' hSw; (try dsimp only at hSw); go_simp; try (with_reducible rfl))
            simp only [List.setIfInBounds_toArray, List.set_cons_zero, List.set_cons_succ]
            refine take_move 12 (Operand.tmp 54) rfl rfl (by first | exact .inl rfl | exact .inr rfl) rfl (by kernel_rfl) (by kernel_rfl) (by kernel_rfl) (fun _ _ _ h => h) (by assumption) ?_
            simp only [List.setIfInBounds_toArray, List.set_cons_zero, List.set_cons_succ]
            refine take_op (v := ?vu3x13) 13 (Op.load 67 (Operand.tmp 2)) 67 rfl rfl rfl rfl rfl (by kernel_rfl) (by kernel_rfl) (by kernel_rfl) (fun _ _ _ h => h) ?yu3x13 (by assumption) ?ru3x13
            case yu3x13 => (intro w' hSw; (try dsimp only at hSw); go_simp; try (with_reducible rfl))
            simp only [List.setIfInBounds_toArray, List.set_cons_zero, List.set_cons_succ]
            refine take_move 14 (Operand.tmp 1) rfl rfl (by first | exact .inl rfl | exact .inr rfl) rfl (by kernel_rfl) (by kernel_rfl) (by kernel_rfl) (fun _ _ _ h => h) (by assumption) ?_
            simp only [List.setIfInBounds_toArray, List.set_cons_zero, List.set_cons_succ]
            refine take_op (v := ?vu3x16) 16 (Op.load 67 (Operand.tmp 2)) 67 rfl rfl rfl rfl rfl (by kernel_rfl) (by kernel_rfl) (by kernel_rfl) (fun _ _ _ h => h) ?yu3x16 (by assumption) ?ru3x16
            case yu3x16 => (intro w' hSw; (try dsimp only at hSw); go_simp; try (with_reducible rfl))
            simp only [List.setIfInBounds_toArray, List.set_cons_zero, List.set_cons_succ]
            refine take_move 17 (Operand.tmp 1) rfl rfl (by first | exact .inl rfl | exact .inr rfl) rfl (by kernel_rfl) (by kernel_rfl) (by kernel_rfl) (fun _ _ _ h => h) (by assumption) ?_
            simp only [List.setIfInBounds_toArray, List.set_cons_zero, List.set_cons_succ]
            refine wpAnyH_ready (rs := [15]) (by kernel_rfl) (by simp) (AllReadyH.cons rfl (fun K15 hK15 => ?ku3x15) AllReadyH.nil)
            refine take_calls 15 42 [Operand.tmp 56, Operand.tmp 57] #[67, 22] rfl rfl (by kernel_rfl) (fun args w => run_enter Try.func42 (by kernel_rfl) rfl args w) ?_
            refine (C5.out _ ((h.below HX).more HX.size)).mono ?_
            rintro e w15 ⟨A15, m15, c15, rfl, o15, hb15⟩
            refine ⟨_, rfl, ?_⟩
            have z15 := hb15.size
            try simp only [World.size_drew] at z15
            replace HX := HX.trans (hb15.mono HX.size)
            have zHX15 := HX.size
            replace bQ := Blk.below bQ hb15 (by first | exact Nat.le_refl _ | (simp only [World.size_alloc, World.size_setCell, World.size_drew] at *; omega) | omega)
            replace bA := Blk.below bA hb15 (by first | exact Nat.le_refl _ | (simp only [World.size_alloc, World.size_setCell, World.size_drew] at *; omega) | omega)
            replace bB := Blk.below bB hb15 (by first | exact Nat.le_refl _ | (simp only [World.size_alloc, World.size_setCell, World.size_drew] at *; omega) | omega)
            replace r1 := Rd.below r1 (hb15.mono (by first | exact Nat.le_refl _ | (simp only [World.size_alloc, World.size_setCell, World.size_drew] at *; omega) | omega))
            replace r2 := Rd.below r2 (hb15.mono (by first | exact Nat.le_refl _ | (simp only [World.size_alloc, World.size_setCell, World.size_drew] at *; omega) | omega))
            refine hK15.out _ _ ?su3x15 (fun hHeld => ?ru3x15)
            case su3x15 => ((try dsimp only); exact ⟨blk7 bQ, ⟨bA.cell_ 0 rfl, bA.cell_ 1 rfl⟩, ⟨bB.cell_ 0 rfl, bB.cell_ 1 rfl⟩⟩)
            try simp only [List.setIfInBounds_toArray, List.set_cons_zero, List.set_cons_succ]
            refine wpAnyH_ready (rs := [18]) (by kernel_rfl) (by simp) (AllReadyH.cons rfl (fun K18 hK18 => ?ku3x18) AllReadyH.nil)
            refine take_calls 18 43 [Operand.tmp 59, Operand.tmp 60] #[67, 22] rfl rfl (by kernel_rfl) (fun args w => run_enter Try.func43 (by kernel_rfl) rfl args w) ?_
            refine (C6.out _ ((h.below HX).more HX.size)).mono ?_
            rintro e w18 ⟨A18, m18, c18, rfl, o18, hb18⟩
            refine ⟨_, rfl, ?_⟩
            have z18 := hb18.size
            try simp only [World.size_drew] at z18
            replace HX := HX.trans (hb18.mono HX.size)
            have zHX18 := HX.size
            replace bQ := Blk.below bQ hb18 (by first | exact Nat.le_refl _ | (simp only [World.size_alloc, World.size_setCell, World.size_drew] at *; omega) | omega)
            replace bA := Blk.below bA hb18 (by first | exact Nat.le_refl _ | (simp only [World.size_alloc, World.size_setCell, World.size_drew] at *; omega) | omega)
            replace bB := Blk.below bB hb18 (by first | exact Nat.le_refl _ | (simp only [World.size_alloc, World.size_setCell, World.size_drew] at *; omega) | omega)
            replace r1 := Rd.below r1 (hb18.mono (by first | exact Nat.le_refl _ | (simp only [World.size_alloc, World.size_setCell, World.size_drew] at *; omega) | omega))
            replace r2 := Rd.below r2 (hb18.mono (by first | exact Nat.le_refl _ | (simp only [World.size_alloc, World.size_setCell, World.size_drew] at *; omega) | omega))
            replace o15 := Own.below o15 hb18
            refine hK18.out _ _ ?su3x18 (fun hHeld => ?ru3x18)
            case su3x18 => ((try dsimp only); exact ⟨blk7 bQ, ⟨bA.cell_ 0 rfl, bA.cell_ 1 rfl⟩, ⟨bB.cell_ 0 rfl, bB.cell_ 1 rfl⟩⟩)
            try simp only [List.setIfInBounds_toArray, List.set_cons_zero, List.set_cons_succ]
            refine wpAnyH_ready (rs := [19]) (by kernel_rfl) (by simp) (AllReadyH.cons rfl (fun K19 hK19 => ?ku3x19) AllReadyH.nil)
            refine take_calls 19 41 [Operand.tmp 58, Operand.tmp 61] #[22, 22] rfl rfl (by kernel_rfl) (fun args w => run_enter Try.func41 (by kernel_rfl) rfl args w) ?_
            refine (same_self A15 A18 m15 c15 m18 c18 hits _ o15.rd o18.rd (by omega)).mono ?_
            rintro e w19 ⟨rfl, hb19⟩
            refine ⟨_, rfl, ?_⟩
            have z19 := hb19.size
            try simp only [World.size_drew] at z19
            replace HX := HX.trans (hb19.mono HX.size)
            have zHX19 := HX.size
            replace bQ := Blk.below bQ hb19 (by first | exact Nat.le_refl _ | (simp only [World.size_alloc, World.size_setCell, World.size_drew] at *; omega) | omega)
            replace bA := Blk.below bA hb19 (by first | exact Nat.le_refl _ | (simp only [World.size_alloc, World.size_setCell, World.size_drew] at *; omega) | omega)
            replace bB := Blk.below bB hb19 (by first | exact Nat.le_refl _ | (simp only [World.size_alloc, World.size_setCell, World.size_drew] at *; omega) | omega)
            replace r1 := Rd.below r1 (hb19.mono (by first | exact Nat.le_refl _ | (simp only [World.size_alloc, World.size_setCell, World.size_drew] at *; omega) | omega))
            replace r2 := Rd.below r2 (hb19.mono (by first | exact Nat.le_refl _ | (simp only [World.size_alloc, World.size_setCell, World.size_drew] at *; omega) | omega))
            replace o15 := Own.below o15 hb19
            replace o18 := Own.below o18 hb19
            refine hK19.out _ _ ?su3x19 (fun hHeld => ?ru3x19)
            case su3x19 => ((try dsimp only); exact ⟨blk7 bQ, ⟨bA.cell_ 0 rfl, bA.cell_ 1 rfl⟩, ⟨bB.cell_ 0 rfl, bB.cell_ 1 rfl⟩⟩)
            try simp only [List.setIfInBounds_toArray, List.set_cons_zero, List.set_cons_succ]
            refine take_op (v := ?vu3x20) 20 (Op.pick (Operand.tmp 55) (Operand.tmp 62) (Operand.const (Value.bool false))) 4 rfl rfl rfl rfl rfl (by kernel_rfl) (by kernel_rfl) (by kernel_rfl) (fun _ _ _ h => h) ?yu3x20 (by assumption) ?ru3x20
            case yu3x20 => (intro w' hSw; (try dsimp only at hSw); go_simp; try (with_reducible rfl))
            simp only [List.setIfInBounds_toArray, List.set_cons_zero, List.set_cons_succ]
            refine take_move 21 (Operand.tmp 63) rfl rfl (by first | exact .inl rfl | exact .inr rfl) rfl (by kernel_rfl) (by kernel_rfl) (by kernel_rfl) (fun _ _ _ h => h) (by assumption) ?_
            simp only [List.setIfInBounds_toArray, List.set_cons_zero, List.set_cons_succ]
            refine take_op (v := ?vu3x22) 22 (Op.fieldAddr 70 (Operand.tmp 6) 0) 0 rfl rfl rfl rfl rfl (by kernel_rfl) (by kernel_rfl) (by kernel_rfl) (fun _ _ _ h => h) ?yu3x22 (by assumption) ?ru3x22
            case yu3x22 => (intro w' hSw; (try dsimp only at hSw); go_simp; try (with_reducible rfl))
            simp only [List.setIfInBounds_toArray, List.set_cons_zero, List.set_cons_succ]
            refine take_op (v := ?vu3x23) 23 (Op.load 22 (Operand.tmp 65)) 22 rfl rfl rfl rfl rfl (by kernel_rfl) (by kernel_rfl) (by kernel_rfl) (fun _ _ _ h => h) ?yu3x23 (by assumption) ?ru3x23
            case yu3x23 => (intro w' hSw; (try dsimp only at hSw); go_simp; try (with_reducible rfl))
            simp only [List.setIfInBounds_toArray, List.set_cons_zero, List.set_cons_succ]
            refine take_op (v := ?vu3x24) 24 (Op.fieldAddr 70 (Operand.tmp 7) 0) 0 rfl rfl rfl rfl rfl (by kernel_rfl) (by kernel_rfl) (by kernel_rfl) (fun _ _ _ h => h) ?yu3x24 (by assumption) ?ru3x24
            case yu3x24 => (intro w' hSw; (try dsimp only at hSw); go_simp; try (with_reducible rfl))
            simp only [List.setIfInBounds_toArray, List.set_cons_zero, List.set_cons_succ]
            refine take_op (v := ?vu3x25) 25 (Op.load 22 (Operand.tmp 67)) 22 rfl rfl rfl rfl rfl (by kernel_rfl) (by kernel_rfl) (by kernel_rfl) (fun _ _ _ h => h) ?yu3x25 (by assumption) ?ru3x25
            case yu3x25 => (intro w' hSw; (try dsimp only at hSw); go_simp; try (with_reducible rfl))
            simp only [List.setIfInBounds_toArray, List.set_cons_zero, List.set_cons_succ]
            refine wpAnyH_ready (rs := [26]) (by kernel_rfl) (by simp) (AllReadyH.cons rfl (fun K26 hK26 => ?ku3x26) AllReadyH.nil)
            refine take_calls 26 41 [Operand.tmp 66, Operand.tmp 68] #[22, 22] rfl rfl (by kernel_rfl) (fun args w => run_enter Try.func41 (by kernel_rfl) rfl args w) ?_
            refine (same_self A1 A2 m1 c1 m2 c2 p1 _ (r1.more (by omega)) (r2.more (by omega)) (by omega)).mono ?_
            rintro e w26 ⟨rfl, hb26⟩
            refine ⟨_, rfl, ?_⟩
            have z26 := hb26.size
            try simp only [World.size_drew] at z26
            replace HX := HX.trans (hb26.mono HX.size)
            have zHX26 := HX.size
            replace bQ := Blk.below bQ hb26 (by first | exact Nat.le_refl _ | (simp only [World.size_alloc, World.size_setCell, World.size_drew] at *; omega) | omega)
            replace bA := Blk.below bA hb26 (by first | exact Nat.le_refl _ | (simp only [World.size_alloc, World.size_setCell, World.size_drew] at *; omega) | omega)
            replace bB := Blk.below bB hb26 (by first | exact Nat.le_refl _ | (simp only [World.size_alloc, World.size_setCell, World.size_drew] at *; omega) | omega)
            replace r1 := Rd.below r1 (hb26.mono (by first | exact Nat.le_refl _ | (simp only [World.size_alloc, World.size_setCell, World.size_drew] at *; omega) | omega))
            replace r2 := Rd.below r2 (hb26.mono (by first | exact Nat.le_refl _ | (simp only [World.size_alloc, World.size_setCell, World.size_drew] at *; omega) | omega))
            replace o15 := Own.below o15 hb26
            replace o18 := Own.below o18 hb26
            refine hK26.out _ _ ?su3x26 (fun hHeld => ?ru3x26)
            case su3x26 => ((try dsimp only); exact ⟨blk7 bQ, ⟨bA.cell_ 0 rfl, bA.cell_ 1 rfl⟩, ⟨bB.cell_ 0 rfl, bB.cell_ 1 rfl⟩⟩)
            try simp only [List.setIfInBounds_toArray, List.set_cons_zero, List.set_cons_succ]
            refine take_op (v := ?vu3x27) 27 (Op.pick (Operand.tmp 64) (Operand.tmp 69) (Operand.const (Value.bool false))) 4 rfl rfl rfl rfl rfl (by kernel_rfl) (by kernel_rfl) (by kernel_rfl) (fun _ _ _ h => h) ?yu3x27 (by assumption) ?ru3x27
            case yu3x27 => (intro w' hSw; (try dsimp only at hSw); go_simp; try (with_reducible rfl))
            simp only [List.setIfInBounds_toArray, List.set_cons_zero, List.set_cons_succ]
            refine take_move 28 (Operand.tmp 70) rfl rfl (by first | exact .inl rfl | exact .inr rfl) rfl (by kernel_rfl) (by kernel_rfl) (by kernel_rfl) (fun _ _ _ h => h) (by assumption) ?_
            simp only [List.setIfInBounds_toArray, List.set_cons_zero, List.set_cons_succ]
            refine take_op (v := ?vu3x29) 29 (Op.fieldAddr 70 (Operand.tmp 6) 1) 0 rfl rfl rfl rfl rfl (by kernel_rfl) (by kernel_rfl) (by kernel_rfl) (fun _ _ _ h => h) ?yu3x29 (by assumption) ?ru3x29
            case yu3x29 => (intro w' hSw; (try dsimp only at hSw); go_simp; try (with_reducible rfl))
            simp only [List.setIfInBounds_toArray, List.set_cons_zero, List.set_cons_succ]
            refine take_op (v := ?vu3x30) 30 (Op.load 3 (Operand.tmp 72)) 3 rfl rfl rfl rfl rfl (by kernel_rfl) (by kernel_rfl) (by kernel_rfl) (fun _ _ _ h => h) ?yu3x30 (by assumption) ?ru3x30
            case yu3x30 => (intro w' hSw; (try dsimp only at hSw); go_simp; try (with_reducible rfl))
            simp only [List.setIfInBounds_toArray, List.set_cons_zero, List.set_cons_succ]
            refine take_op (v := ?vu3x31) 31 (Op.fieldAddr 70 (Operand.tmp 7) 1) 0 rfl rfl rfl rfl rfl (by kernel_rfl) (by kernel_rfl) (by kernel_rfl) (fun _ _ _ h => h) ?yu3x31 (by assumption) ?ru3x31
            case yu3x31 => (intro w' hSw; (try dsimp only at hSw); go_simp; try (with_reducible rfl))
            simp only [List.setIfInBounds_toArray, List.set_cons_zero, List.set_cons_succ]
            refine take_op (v := ?vu3x32) 32 (Op.load 3 (Operand.tmp 74)) 3 rfl rfl rfl rfl rfl (by kernel_rfl) (by kernel_rfl) (by kernel_rfl) (fun _ _ _ h => h) ?yu3x32 (by assumption) ?ru3x32
            case yu3x32 => (intro w' hSw; (try dsimp only at hSw); go_simp; try (with_reducible rfl))
            simp only [List.setIfInBounds_toArray, List.set_cons_zero, List.set_cons_succ]
            refine take_op (v := ?vu3x33) 33 (Op.binOp BinOp.eql 3 (Operand.tmp 73) (Operand.tmp 75) 3) 4 rfl rfl rfl rfl rfl (by kernel_rfl) (by kernel_rfl) (by kernel_rfl) (fun _ _ _ h => h) ?yu3x33 (by assumption) ?ru3x33
            case yu3x33 => (intro w' hSw; (try dsimp only at hSw); go_simp; try (with_reducible rfl))
            simp only [List.setIfInBounds_toArray, List.set_cons_zero, List.set_cons_succ]
            refine take_op (v := ?vu3x34) 34 (Op.pick (Operand.tmp 71) (Operand.tmp 76) (Operand.const (Value.bool false))) 4 rfl rfl rfl rfl rfl (by kernel_rfl) (by kernel_rfl) (by kernel_rfl) (fun _ _ _ h => h) ?yu3x34 (by assumption) ?ru3x34
            case yu3x34 => (intro w' hSw; (try dsimp only at hSw); go_simp; try (with_reducible rfl))
            simp only [List.setIfInBounds_toArray, List.set_cons_zero, List.set_cons_succ]
            refine take_move 35 (Operand.tmp 77) rfl rfl (by first | exact .inl rfl | exact .inr rfl) rfl (by kernel_rfl) (by kernel_rfl) (by kernel_rfl) (fun _ _ _ h => h) (by assumption) ?_
            simp only [List.setIfInBounds_toArray, List.set_cons_zero, List.set_cons_succ]
            refine wpAnyH_ready (rs := [36]) (by kernel_rfl) (by simp) (AllReadyH.cons rfl (fun K36 hK36 => ?ku3x36) AllReadyH.nil)
            refine take_calls 36 32 [] #[] rfl rfl (by kernel_rfl) (fun args w => run_enter Try.func32 (by kernel_rfl) rfl args w) ?_
            refine (awake_any _).mono ?_
            rintro e w36 ⟨rfl, hb36⟩
            refine ⟨_, rfl, ?_⟩
            have z36 := hb36.size
            try simp only [World.size_drew] at z36
            replace HX := HX.trans (hb36.mono HX.size)
            have zHX36 := HX.size
            replace bQ := Blk.below bQ hb36 (by first | exact Nat.le_refl _ | (simp only [World.size_alloc, World.size_setCell, World.size_drew] at *; omega) | omega)
            replace bA := Blk.below bA hb36 (by first | exact Nat.le_refl _ | (simp only [World.size_alloc, World.size_setCell, World.size_drew] at *; omega) | omega)
            replace bB := Blk.below bB hb36 (by first | exact Nat.le_refl _ | (simp only [World.size_alloc, World.size_setCell, World.size_drew] at *; omega) | omega)
            replace r1 := Rd.below r1 (hb36.mono (by first | exact Nat.le_refl _ | (simp only [World.size_alloc, World.size_setCell, World.size_drew] at *; omega) | omega))
            replace r2 := Rd.below r2 (hb36.mono (by first | exact Nat.le_refl _ | (simp only [World.size_alloc, World.size_setCell, World.size_drew] at *; omega) | omega))
            replace o15 := Own.below o15 hb36
            replace o18 := Own.below o18 hb36
            refine hK36.out _ _ ?su3x36 (fun hHeld => ?ru3x36)
            case su3x36 => ((try dsimp only); exact ⟨blk7 bQ, ⟨bA.cell_ 0 rfl, bA.cell_ 1 rfl⟩, ⟨bB.cell_ 0 rfl, bB.cell_ 1 rfl⟩⟩)
            try simp only [List.setIfInBounds_toArray, List.set_cons_zero, List.set_cons_succ]
            refine take_op (v := ?vu3x37) 37 (Op.pick (Operand.tmp 78) (Operand.tmp 79) (Operand.const (Value.bool false))) 4 rfl rfl rfl rfl rfl (by kernel_rfl) (by kernel_rfl) (by kernel_rfl) (fun _ _ _ h => h) ?yu3x37 (by assumption) ?ru3x37
            case yu3x37 => (intro w' hSw; (try dsimp only at hSw); go_simp; try (with_reducible rfl))
            simp only [List.setIfInBounds_toArray, List.set_cons_zero, List.set_cons_succ]
            refine take_op (v := ?vu3x38) 38 (Op.assign (Operand.tmp 80)) 4 rfl rfl rfl rfl rfl (by kernel_rfl) (by kernel_rfl) (by kernel_rfl) (fun _ _ _ h => h) ?yu3x38 (by assumption) ?ru3x38
            case yu3x38 => (intro w' hSw; (try dsimp only at hSw); go_simp; try (with_reducible rfl))
            simp only [List.setIfInBounds_toArray, List.set_cons_zero, List.set_cons_succ]
            refine wpAnyH_done (by kernel_rfl) ?_ _
            go_wp2_with fail
            go_ret
            exact ⟨rfl, HX⟩
  · have CC := HF.out false (by simpa using hf)
    clear hf hl HF
    go_enter Try.func8, Try.ntmps8
    go_wp2_with fail
    refine (CC _ ((h.below HB).more HB.size)).mono ?_
    rintro e w1 ⟨rfl, hb1⟩
    replace HB := HB.trans (hb1.mono HB.size)
    go_wp2_with fail
    refine (awake_any _).mono ?_
    rintro e w2 ⟨rfl, hb2⟩
    go_wp2_with fail
    go_ret
    exact ⟨rfl, HB.trans (hb2.mono HB.size)⟩
end SkpW
end Go.Proofs.Ytnghmcadhjneeaa
