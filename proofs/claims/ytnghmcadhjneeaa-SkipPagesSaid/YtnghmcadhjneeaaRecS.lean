/- Walks over rows of records: are they a row, how many bytes have they, are two the same, are they few. -/
import Derived.Test.YtnghmcadhjneeaaRecW
namespace Go.Proofs.Ytnghmcadhjneeaa
set_option linter.unusedVariables false
set_option linter.unusedSimpArgs false
set_option linter.unnecessarySimpa false
open Go.RowKit
namespace RecW

/-- What a row's look still tells from place k on. -/
def rowAt (l : List Rc) (k : Nat) : Int := rowFrom (if k = 0 then none else l[k - 1]?) (l.drop k)
theorem rowAt_zero (l : List Rc) : rowAt l 0 = rowN l := rfl
theorem rowAt_end (l : List Rc) (k : Nat) (h : l.length ≤ k) : rowAt l k = 0 := by
  unfold rowAt
  rw [List.drop_of_length_le h]
  split <;> simp [rowFrom]
theorem rowAt_bad (l : List Rc) (k : Nat) (h : k < l.length) (hb : okR l[k] = false) : rowAt l k = 150 := by
  unfold rowAt
  rw [List.drop_eq_getElem_cons h]
  split <;> simp [rowFrom, hb]
theorem rowAt_first (l : List Rc) (h : 0 < l.length) (hb : okR l[0] = true) : rowAt l 0 = rowAt l 1 := by
  unfold rowAt
  rw [List.drop_eq_getElem_cons h]
  simp [rowFrom, hb, List.getElem?_eq_getElem h]
theorem rowAt_next (l : List Rc) (j : Nat) (h : j + 1 < l.length) (hb : okR l[j + 1] = true) (hn : nextB (l[j]'(by omega)) l[j + 1] = true) : rowAt l (j + 1) = rowAt l (j + 2) := by
  unfold rowAt
  rw [List.drop_eq_getElem_cons h, if_neg (by omega), if_neg (by omega)]
  simp only [Nat.add_sub_cancel, List.getElem?_eq_getElem (show j < l.length by omega), List.getElem?_eq_getElem h, show j + 2 - 1 = j + 1 from rfl]
  rw [rowFrom, hb]
  simp [hn]
theorem rowAt_order (l : List Rc) (j : Nat) (h : j + 1 < l.length) (hb : okR l[j + 1] = true) (hn : nextB (l[j]'(by omega)) l[j + 1] = false) : rowAt l (j + 1) = 151 := by
  unfold rowAt
  rw [List.drop_eq_getElem_cons h, if_neg (by omega)]
  simp only [Nat.add_sub_cancel, List.getElem?_eq_getElem (show j < l.length by omega)]
  rw [rowFrom, hb]
  simp [hn]

theorem ok_one {l : List Rc} {k : Nat} {hk : k < l.length} (h : okR l[k] = true) : ∀ j (hj : j < l.length), j + 1 = k + 1 → okR l[j] = true := by
  intro j hj e
  obtain rfl : j = k := by omega
  exact h

set_option maxHeartbeats 2000000 in
theorem row_any (A : Option Addr) (n c : Nat) (l : List Rc) (w : World) (h : Rd w w.heap.size 3 A n (rcells l)) (hn : n ≤ 9223372036854775807) :
    Calls Try.prog 14 #[.slice A n c] w fun e w' => e = .returned (.int .i64 (rowN l)) ∧ Below w.heap.size w w' := by
  have hl := rd_rlen h
  have hl1 : l.length ≤ n := by omega
  have hl2 : n ≤ l.length := by omega
  clear hl
  go_enter Try.func14, Try.ntmps14
  go_wp2_with fail
  go_loopw [8] (fun i wr => ∃ k : Nat, k ≤ n ∧ i = .int .i64 k ∧ rowN l = rowAt l k ∧ (∀ j (hj : j < l.length), j + 1 = k → okR l[j] = true) ∧ Below w.heap.size w wr) (fun i _ => n - (intOf i).toNat)
  case atStart => exact ⟨0, by omega, rfl, rfl, fun j _ h => by omega, (by first | exact Below.refl _ _ | (repeat (first | exact Below.refl _ _ | assumption | refine Below.drew ?_ | refine Below.drewN_ ?_ _ | refine Below.alloc ?_ (by first | exact Nat.le_refl _ | (simp; done) | (simp; omega) | omega) _ | refine Below.setCell ?_ (by first | exact Nat.le_refl _ | (simp; done) | (simp; omega) | omega) _ | (refine Below.trans ?_ (Below.mono (by assumption) (by first | exact Nat.le_refl _ | (simp; done) | (simp; omega) | omega))))))⟩
  case round =>
    obtain ⟨k, hk, rfl, hrow, hprev, hbw⟩ := hrel
    have HR := Lib.hid hrow
    have HP := Lib.hid hprev
    have hsz := hbw.size
    clear hrow hprev
    by_cases hlt : k < n
    · have hkl : k < l.length := by omega
      obtain ⟨b, o, rfl, hb, hc⟩ := rd_recs (h.below hbw) (by omega)
      obtain ⟨c0, c1, c2⟩ := hc k hkl
      have HC := Lib.hid hc
      clear hc
      by_cases hok : okR l[k] = true
      · have HCH := Lib.hid (chkR_yes hok)
        have HOK := Lib.hid hok
        clear hok
        go_wp2_with fail
        refine (check_any l[k] 0 HCH.out _).mono ?_
        rintro e w1 ⟨rfl, hb1⟩
        have HB1 : Below w.heap.size w w1 := (Below.trans (by first | exact Below.refl _ _ | (repeat (first | exact Below.refl _ _ | assumption | refine Below.drew ?_ | refine Below.drewN_ ?_ _ | refine Below.alloc ?_ (by first | exact Nat.le_refl _ | (simp; done) | (simp; omega) | omega) _ | refine Below.setCell ?_ (by first | exact Nat.le_refl _ | (simp; done) | (simp; omega) | omega) _ | (refine Below.trans ?_ (Below.mono (by assumption) (by first | exact Nat.le_refl _ | (simp; done) | (simp; omega) | omega)))))) (Below.mono hb1 (by first | exact Nat.le_refl _ | (simp only [World.size_alloc, World.size_setCell, World.size_drew]; omega) | (simp; done) | (simp; omega) | omega)))
        have g1 : Blk w1 wr.heap.size 26 #[.int .i64 l[k].1, .int .i64 l[k].2.1, str l[k].2.2] := Blk.below (by repeat (first | with_reducible assumption | exact Blk.new _ _ _ | (simpa using Blk.new _ _ _) | with_reducible apply Blk.drewN | with_reducible apply Blk.drew | with_reducible apply Blk.alloc)) hb1 (by first | exact Nat.le_refl _ | (simp only [World.size_alloc, World.size_setCell, World.size_drew]; omega) | (simp; done) | (simp; omega) | omega)
        obtain ⟨d0, d1, d2, f0, f1, f2, z0⟩ := blk3 g1
        clear c0 c1 c2 hb1
        rcases Nat.eq_zero_or_pos k with rfl | hk0
        · go_wp2_with fail
          go_quiet (fail)
          go_wp2
          go_roundw
          case rel => exact ⟨1, by omega, by first | rfl | go_num, by rw [HR.out, rowAt_first l hkl HOK.out], ok_one HOK.out, HB1.drewN_ _⟩
          case measure => first | (simp [intOf]; done) | (simp [intOf]; omega)
        · obtain ⟨j, rfl⟩ : ∃ j, k = j + 1 := ⟨k - 1, by omega⟩
          have hjl : j < l.length := by omega
          have hokj := HP.out j hjl rfl
          obtain ⟨e1, e2, _⟩ := (okR_iff _).1 hokj
          obtain ⟨b', o', hA, _, hc⟩ := rd_recs (h.below HB1) (by omega)
          simp only [Option.some.injEq, Addr.mk.injEq, and_true] at hA
          obtain ⟨rfl, rfl⟩ := hA
          obtain ⟨c0, c1, _⟩ := hc j hjl
          clear hc hokj
          have hw1 : IntKind.i64.wrap (((j + 1 : Nat) : Int) - 1) = (j : Int) := by rw [show ((j + 1 : Nat) : Int) - 1 = (j : Int) by omega]; exact IntWalk.i64_in _ (by omega)
          have hw2 : IntKind.i64.wrap (l[j].1 + 1) = l[j].1 + 1 := IntWalk.i64_in _ (by omega)
          have hkp : (0 : Int) < ((j + 1 : Nat) : Int) := by omega
          have hj0 : (0 : Int) ≤ (j : Int) := by omega
          have hjn : (j : Int) < (n : Int) := by omega
          by_cases hs : l[j + 1].1 = l[j].1 + 1
          · have hsI : (l[j + 1].1 != l[j].1 + 1) = false := by simp [hs]
            have HS := Lib.hid hs
            clear hs
            go_wp2_with fail
            go_quiet (fail)
            by_cases hd : l[j + 1].2.1 < l[j].2.1
            · have HD := Lib.hid hd
              go_wp2
              go_ret
              exact ⟨ret_int (by rw [HR.out, rowAt_order l j hkl HOK.out]; simp [nextB]; have := HD.out; omega), HB1.drewN_ _⟩
            · have HD := Lib.hid hd
              go_wp2
              go_roundw
              case rel => exact ⟨j + 2, by omega, by go_num, by rw [HR.out, rowAt_next l j hkl HOK.out]; have := HD.out; have := HS.out; simp [nextB]; omega, ok_one HOK.out, HB1.drewN_ _⟩
              case measure => simp [intOf]; omega
          · have hsI : (l[j + 1].1 != l[j].1 + 1) = true := by simp [hs]
            have HS := Lib.hid hs
            clear hs
            go_wp2_with fail
            go_quiet (fail)
            go_wp2
            go_ret
            exact ⟨ret_int (by rw [HR.out, rowAt_order l j hkl HOK.out]; have := HS.out; simp [nextB]; omega), HB1.drewN_ _⟩
      · have hok' : okR l[k] = false := by simpa using hok
        have HCH := Lib.hid (chkR_no hok')
        have HOK := Lib.hid hok'
        clear hok hok'
        go_wp2_with fail
        refine (check_any l[k] 150 HCH.out _).mono ?_
        rintro e w1 ⟨rfl, hb1⟩
        have HB1 : Below w.heap.size w w1 := (Below.trans (by first | exact Below.refl _ _ | (repeat (first | exact Below.refl _ _ | assumption | refine Below.drew ?_ | refine Below.drewN_ ?_ _ | refine Below.alloc ?_ (by first | exact Nat.le_refl _ | (simp; done) | (simp; omega) | omega) _ | refine Below.setCell ?_ (by first | exact Nat.le_refl _ | (simp; done) | (simp; omega) | omega) _ | (refine Below.trans ?_ (Below.mono (by assumption) (by first | exact Nat.le_refl _ | (simp; done) | (simp; omega) | omega)))))) (Below.mono hb1 (by first | exact Nat.le_refl _ | (simp only [World.size_alloc, World.size_setCell, World.size_drew]; omega) | (simp; done) | (simp; omega) | omega)))
        go_wp2_with fail
        go_ret
        exact ⟨ret_int (by rw [HR.out, rowAt_bad l k hkl HOK.out]), HB1⟩
    · have hz : l.length ≤ k := by omega
      go_wp2_with fail
      go_ret
      exact ⟨ret_int (by rw [HR.out, rowAt_end l k hz]), hbw⟩
def fewB (l : List Rc) : Bool := decide (l.length ≤ 200) && l.all fun r => decide (r.2.2.length ≤ 3000)

set_option maxHeartbeats 1000000 in
theorem few_any (A : Option Addr) (n c : Nat) (l : List Rc) (v : Bool) (hv : fewB l = v) (w : World) (h : Rd w w.heap.size 3 A n (rcells l)) (hn : n ≤ 9223372036854775807) (hd : ∀ r ∈ l, r.2.2.length ≤ 9223372036854775807) :
    Calls Try.prog 12 #[.slice A n c] w fun e w' => e = .returned (.bool v) ∧ Below w.heap.size w w' := by
  subst hv
  have hl := rd_rlen h
  have hl1 : l.length ≤ n := by omega
  have hl2 : n ≤ l.length := by omega
  clear hl
  have HD := Lib.hid hd
  clear hd
  by_cases hbig : 200 < n
  · have HV := Lib.hid (show fewB l = false by simp [fewB]; omega)
    go_enter Try.func12, Try.ntmps12
    go_wp2_with fail
    go_ret
    exact ⟨ret_bool HV.out.symm, (by first | exact Below.refl _ _ | (repeat (first | exact Below.refl _ _ | assumption | refine Below.drew ?_ | refine Below.drewN_ ?_ _ | refine Below.alloc ?_ (by first | exact Nat.le_refl _ | (simp; done) | (simp; omega) | omega) _ | refine Below.setCell ?_ (by first | exact Nat.le_refl _ | (simp; done) | (simp; omega) | omega) _ | (refine Below.trans ?_ (Below.mono (by assumption) (by first | exact Nat.le_refl _ | (simp; done) | (simp; omega) | omega))))))⟩
  · go_enter Try.func12, Try.ntmps12
    go_wp2_with fail
    go_loop [3] (fun i => ∃ k : Nat, k ≤ n ∧ i = .int .i64 k ∧ ∀ r ∈ l.take k, r.2.2.length ≤ 3000) (fun i => n - (intOf i).toNat)
    case atStart => exact ⟨0, by omega, rfl, by simp⟩
    case round =>
      obtain ⟨k, hk, rfl, hall⟩ := hrel
      have HA := Lib.hid hall
      clear hall
      by_cases hlt : k < n
      · have hkl : k < l.length := by omega
        obtain ⟨b, o, rfl, hb, hc⟩ := rd_recs h (by omega)
        obtain ⟨c0, c1, c2⟩ := hc k hkl
        have hd := HD.out l[k] (List.getElem_mem hkl)
        clear hc
        by_cases hb : 3000 < l[k].2.2.length
        · have HV := Lib.hid (show fewB l = false by
            simp only [fewB, Bool.and_eq_false_iff, List.all_eq_false]
            exact .inr ⟨l[k], List.getElem_mem hkl, by simpa using hb⟩)
          go_wp2_with fail
          go_ret
          exact ⟨ret_bool HV.out.symm, (by first | exact Below.refl _ _ | (repeat (first | exact Below.refl _ _ | assumption | refine Below.drew ?_ | refine Below.drewN_ ?_ _ | refine Below.alloc ?_ (by first | exact Nat.le_refl _ | (simp; done) | (simp; omega) | omega) _ | refine Below.setCell ?_ (by first | exact Nat.le_refl _ | (simp; done) | (simp; omega) | omega) _ | (refine Below.trans ?_ (Below.mono (by assumption) (by first | exact Nat.le_refl _ | (simp; done) | (simp; omega) | omega))))))⟩
        · go_wp2_with fail
          go_round
          case rel =>
            refine ⟨k + 1, by omega, by go_num, ?_⟩
            intro r hr
            rw [List.take_succ_eq_append_getElem hkl, List.mem_append] at hr
            rcases hr with hr | hr
            · exact HA.out r hr
            · simp only [List.mem_singleton] at hr
              subst hr
              omega
          case measure => simp [intOf]; omega
      · have HV := Lib.hid (show fewB l = true by
          simp only [fewB, Bool.and_eq_true, List.all_eq_true, decide_eq_true_eq]
          refine ⟨by omega, fun r hr => HA.out r ?_⟩
          rwa [List.take_of_length_le (by omega)])
        go_wp2_with fail
        go_ret
        exact ⟨ret_bool HV.out.symm, (by first | exact Below.refl _ _ | (repeat (first | exact Below.refl _ _ | assumption | refine Below.drew ?_ | refine Below.drewN_ ?_ _ | refine Below.alloc ?_ (by first | exact Nat.le_refl _ | (simp; done) | (simp; omega) | omega) _ | refine Below.setCell ?_ (by first | exact Nat.le_refl _ | (simp; done) | (simp; omega) | omega) _ | (refine Below.trans ?_ (Below.mono (by assumption) (by first | exact Nat.le_refl _ | (simp; done) | (simp; omega) | omega))))))⟩

set_option maxHeartbeats 2000000 in
theorem sameQ_any (A1 A2 : Option Addr) (n1 c1 n2 c2 : Nat) (l m : List Rc) (w : World) (h1 : Rd w w.heap.size 3 A1 n1 (rcells l)) (h2 : Rd w w.heap.size 3 A2 n2 (rcells m)) (hn : n1 ≤ 9223372036854775807) (hn2 : n2 ≤ 9223372036854775807) :
    Calls Try.prog 41 #[.slice A1 n1 c1, .slice A2 n2 c2] w fun e w' => e = .returned (.bool (decide (l = m))) ∧ ∃ nq, w' = w.drewN nq := by
  have hl := rd_rlen h1
  have hm := rd_rlen h2
  by_cases hne : n1 = n2
  · subst hne
    have e1 : ((n1 : Int) != (n1 : Int)) = false := by simp
    have hl1 : l.length ≤ n1 := by omega
    have hl2 : n1 ≤ l.length := by omega
    have hm1 : m.length ≤ n1 := by omega
    have hm2 : n1 ≤ m.length := by omega
    clear hl hm
    go_enter Try.func41, Try.ntmps41
    go_wp2_with fail
    go_loopw [5] (fun i wr => ∃ (k nq : Nat), k ≤ n1 ∧ i = .int .i64 k ∧ l.take k = m.take k ∧ wr = w.drewN nq) (fun i _ => n1 - (intOf i).toNat)
    case atStart => exact ⟨0, 0, by omega, rfl, rfl, rfl⟩
    case round =>
      obtain ⟨k, nq, hk, rfl, hsame, rfl⟩ := hrel
      have HS := Lib.hid hsame
      clear hsame
      by_cases hlt : k < n1
      · obtain ⟨b1, o1, rfl, hb1, hc1⟩ := rd_recs h1 (by omega)
        obtain ⟨b2, o2, rfl, hb2, hc2⟩ := rd_recs h2 (by omega)
        have hkl : k < l.length := by omega
        have hkm : k < m.length := by omega
        obtain ⟨d0, d1, d2⟩ := hc1 k hkl
        obtain ⟨f0, f1, f2⟩ := hc2 k hkm
        have hki : (k : Int) < (n1 : Int) := by omega
        have hk0 : (0 : Int) ≤ (k : Int) := by omega
        clear hc1 hc2 h1 h2
        by_cases he : l[k] = m[k]
        · have HE := Lib.hid he
          have q0 : (l[k].1 != m[k].1) = false := by simp [he]
          have q1 : (l[k].2.1 != m[k].2.1) = false := by simp [he]
          have q2 : l[k].2.2 = m[k].2.2 := by simp [he]
          rw [← q2] at f2
          clear he q2
          go_wp2_with fail
          go_quiet (fail)
          go_wp2
          go_roundw
          case rel => exact ⟨k + 1, _, by omega, by go_num, take_same l m k hkl hkm HS.out HE.out, rfl⟩
          case measure => simp [intOf]; omega
        · have HN : Hid (¬ l = m) := by
            intro e
            apply he
            subst e
            rfl
          by_cases h0 : l[k].1 = m[k].1
          · have q0 : (l[k].1 != m[k].1) = false := by simp [h0]
            by_cases h1 : l[k].2.1 = m[k].2.1
            · have q1 : (l[k].2.1 != m[k].2.1) = false := by simp [h1]
              have q2 : (l[k].2.2 == m[k].2.2) = false := by
                rw [beq_eq_false_iff_ne]
                exact fun e => he (Prod.ext h0 (Prod.ext h1 e))
              clear he h0 h1
              go_wp2_with fail
              go_quiet (fail)
              go_wp2
              go_ret
              exact ⟨ret_bool (by simpa using HN.out), _, by first | rfl | exact World.drewN_drewN _ _ _⟩
            · have q1 : (l[k].2.1 != m[k].2.1) = true := by simp [h1]
              clear he h0 h1
              go_wp2_with fail
              go_quiet (fail)
              go_wp2
              go_ret
              exact ⟨ret_bool (by simpa using HN.out), _, by first | rfl | exact World.drewN_drewN _ _ _⟩
          · have q0 : (l[k].1 != m[k].1) = true := by simp [h0]
            clear he h0
            go_wp2_with fail
            go_quiet (fail)
            go_wp2
            go_ret
            exact ⟨ret_bool (by simpa using HN.out), _, by first | rfl | exact World.drewN_drewN _ _ _⟩
      · have hfin : Hid (l = m) := by
          have := HS.out
          rwa [List.take_of_length_le (by omega), List.take_of_length_le (by omega)] at this
        go_wp2
        go_ret
        exact ⟨ret_bool (by simpa using hfin.out), _, rfl⟩
  · have e1 : ((n1 : Int) != (n2 : Int)) = true := by simp; omega
    have hd : Hid (¬ l = m) := by intro e; apply hne; rw [← hl, ← hm, e]
    clear hl hm
    go_enter Try.func41, Try.ntmps41
    go_wp2
    go_ret
    exact ⟨ret_bool (by simpa using hd.out), 0, rfl⟩
theorem sameR_any (A1 A2 : Option Addr) (n1 c1 n2 c2 : Nat) (l m : List Rc) (w : World) (h1 : Rd w w.heap.size 3 A1 n1 (rcells l)) (h2 : Rd w w.heap.size 3 A2 n2 (rcells m)) (hn : n1 ≤ 9223372036854775807) (hn2 : n2 ≤ 9223372036854775807) :
    Calls Try.prog 41 #[.slice A1 n1 c1, .slice A2 n2 c2] w fun e w' => e = .returned (.bool (decide (l = m))) ∧ Below w.heap.size w w' :=
  (sameQ_any A1 A2 n1 c1 n2 c2 l m w h1 h2 hn hn2).mono fun _ _ ⟨he, nq, hw⟩ => ⟨he, by rw [hw]; exact (Below.refl _ _).drewN_ nq⟩
end RecW
end Go.Proofs.Ytnghmcadhjneeaa
