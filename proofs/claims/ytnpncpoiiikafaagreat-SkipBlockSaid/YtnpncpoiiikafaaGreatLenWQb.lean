/- The walks of package lens and its reference: may lengths be? The walks of package lens and its reference: a code's lengths. The reference's walks on lengths. -/
import Derived.Test.YtnpncpoiiikafaaGreatLenBQb
import Derived.Test.YtnpncpoiiikafaaGreatAppQb
import Derived.Test.YtnpncpoiiikafaaGreatZruPQb
import Derived.Lib.SliceRun
namespace Go.Proofs.YtnpncpoiiikafaaGreat
set_option linter.unusedVariables false
set_option linter.unusedSimpArgs false
set_option linter.unnecessarySimpa false
open Go.RowKit
namespace LenW

set_option maxRecDepth 100000 in
set_option maxHeartbeats 2000000 in
theorem used_any (A : Option Addr) (n c : Nat) (l : List Int) (w : World) (h : Rd w w.heap.size 1 A n (ints l)) (hn : n ≤ 1000000) (v : Nat) (hv : usedL l = v) :
    Calls Tryz.prog 173 #[.slice A n c] w fun e w' => e = .returned (.int .i64 v) ∧ w' = w := by
  have hl : l.length = n := rd_len h
  have hl1 : l.length ≤ n := by omega
  have hl2 : n ≤ l.length := by omega
  have HV := Lib.hid hv
  clear hl hv
  go_enter Tryz.func173, Tryz.ntmps173
  go_wp2_with fail
  go_loopw [3, 8] (fun u i wr => ∃ k : Nat, i = .int .i64 k ∧ k ≤ n ∧ u = .int .i64 (usedL (l.take k)) ∧ wr = w) (fun _ i _ => n - (intOf i).toNat)
  case atStart => exact ⟨0, rfl, by omega, by simp [usedL], rfl⟩
  case round =>
    obtain ⟨k, rfl, hk, rfl, rfl⟩ := hrel
    have hki0 : (0 : Int) ≤ (k : Int) := by omega
    by_cases hlt : k < n
    · have hkl : k < l.length := by omega
      obtain ⟨b, o, rfl, hb, hc⟩ := rd_ints h (by omega)
      have d0 : wr.cell? ⟨b, o + k, none⟩ = some (.int .i64 l[k]) := hc k hkl
      have hs := usedL_snoc l k hkl
      have hle := usedL_le (l.take k)
      rw [List.length_take] at hle
      have hle : usedL (l.take k) ≤ 1000000 := by omega
      have HS := Lib.hid hs
      generalize usedL (l.take k) = u at *
      generalize hx : l[k] = x at *
      have hki : (k : Int) < (n : Int) := by omega
      have hw1 : wrap64 ((k : Int) + 1) = (k : Int) + 1 := (w64 (by omega) (by omega)).trans (by omega)
      have hw2 : wrap64 ((u : Int) + 1) = (u : Int) + 1 := (w64 (by omega) (by omega)).trans (by omega)
      clear hc hs hx
      by_cases hp : 0 < x
      · go_wp2_with fail
        go_roundw
        case rel => exact ⟨k + 1, by go_num, by omega, by rw [HS.out, if_pos hp]; go_num, trivial⟩
        case measure => simp [intOf]; omega
      · go_wp2_with fail
        go_roundw
        case rel => exact ⟨k + 1, by go_num, by omega, by rw [HS.out, if_neg hp]; rfl, trivial⟩
        case measure => simp [intOf]; omega
    · have hz := Lib.hid (show l.take k = l from List.take_of_length_le (by omega))
      rw [hz.out, HV.out]
      go_wp2_with fail
      go_ret
      exact ⟨rfl, rfl⟩
end LenW
end Go.Proofs.YtnpncpoiiikafaaGreat

namespace Go.Proofs.YtnpncpoiiikafaaGreat
set_option linter.unusedVariables false
set_option linter.unusedSimpArgs false
set_option linter.unnecessarySimpa false
open Go.RowKit
namespace LenW

set_option maxRecDepth 100000 in
set_option maxHeartbeats 4000000 in
theorem check_any (A : Option Addr) (n c : Nat) (l : List Int) (w : World) (h : Rd w w.heap.size 1 A n (ints l)) (hn : n ≤ 1000000) (v : Int) (hv : chkL l = v) :
    Calls Tryz.prog 135 #[.slice A n c] w fun e w' => e = .returned (.int .i64 v) ∧ w' = w := by
  have hl : l.length = n := rd_len h
  have hl1 : l.length ≤ n := by omega
  have hl2 : n ≤ l.length := by omega
  by_cases hbig : 257 < n
  · have : v = 3 := by rw [← hv]; unfold chkL; rw [if_pos (by omega)]
    subst this
    have hbI : (257 : Int) < (n : Int) := by omega
    go_enter Tryz.func135, Tryz.ntmps135
    go_wp2_with fail
    go_ret
    exact ⟨rfl, rfl⟩
  · have hbI : ¬ (257 : Int) < (n : Int) := by omega
    have hno : ¬ 257 < l.length := by omega
    have HBAD := Lib.hid (fun (hb : okL l = false) => show (80 : Int) = v from by
      have e : chkL l = 80 := by unfold chkL; rw [if_neg hno, if_pos hb]
      exact e.symm.trans hv)
    have HV := Lib.hid (fun (hb : okL l = true) => show (if sumL l = 0 ∨ sumL l = 32768 ∨ (usedL l = 1 ∧ sumL l = 16384) then (0 : Int) else 80) = v from by
      have e : chkL l = (if sumL l = 0 ∨ sumL l = 32768 ∨ (usedL l = 1 ∧ sumL l = 16384) then (0 : Int) else 80) := by unfold chkL; rw [if_neg hno, if_neg (by simp [hb])]
      exact e.symm.trans hv)
    clear hno
    have CU := used_any A n c l w h hn _ rfl
    have hsl := sumL_le l
    generalize usedL l = us at *
    clear hl hv
    go_enter Tryz.func135, Tryz.ntmps135
    go_wp2_with fail
    go_loopw [3, 12] (fun u i wr => ∃ k : Nat, i = .int .i64 k ∧ k ≤ n ∧ u = .int .i64 (sumL (l.take k)) ∧ okL (l.take k) = true ∧ wr = w) (fun _ i _ => n - (intOf i).toNat)
    case atStart => exact ⟨0, rfl, by omega, by simp [sumL], rfl, rfl⟩
    case round =>
      obtain ⟨k, rfl, hk, rfl, hok, rfl⟩ := hrel
      have hki0 : (0 : Int) ≤ (k : Int) := by omega
      by_cases hlt : k < n
      · have hkl : k < l.length := by omega
        obtain ⟨b, o, rfl, hb, hc⟩ := rd_ints h (by omega)
        have d0 : wr.cell? ⟨b, o + k, none⟩ = some (.int .i64 l[k]) := hc k hkl
        have hs := sumL_snoc l k hkl
        have ho := okL_snoc l k hkl
        have hle := sumL_le (l.take k)
        rw [List.length_take] at hle
        have hle : sumL (l.take k) ≤ 32768 * 257 := by omega
        have HNO := Lib.hid (okL_no l k hkl)
        have HS := Lib.hid hs
        rw [hok] at ho
        have HO := Lib.hid ho
        generalize sumL (l.take k) = u at *
        generalize hx : l[k] = x at *
        have hki : (k : Int) < (n : Int) := by omega
        have hw1 : wrap64 ((k : Int) + 1) = (k : Int) + 1 := (w64 (by omega) (by omega)).trans (by omega)
        clear hc hs ho hx CU
        by_cases h0 : x < 0
        · have hbad := HBAD.out (HNO.out (by omega))
          subst hbad
          go_wp2_with fail
          go_ret
          exact ⟨rfl, rfl⟩
        · by_cases h15 : 15 < x
          · have hbad := HBAD.out (HNO.out (by omega))
            subst hbad
            go_wp2_with fail
            go_ret
            exact ⟨rfl, rfl⟩
          · have hok2 := Lib.hid (show okL (l.take (k + 1)) = true by rw [HO.out]; simp; omega)
            by_cases hp : 0 < x
            · obtain ⟨y, rfl⟩ := Int.eq_ofNat_of_zero_le (show 0 ≤ x by omega)
              have hy : y ≤ 15 := by omega
              have hy0 : 0 < y := by omega
              have hpl := partL_le (y : Int)
              have hpe : partL (y : Int) = 2 ^ (15 - y) := by unfold partL; rw [if_pos hp]; simp
              have hw3 : wrap64 (15 - (y : Int)) = ((15 - y : Nat) : Int) := (w64 (by omega) (by omega)).trans (by omega)
              have hp2 : 2 ^ (15 - y) ≤ 32768 := by rw [← hpe]; exact hpl
              have hpw : (2 : Int) ^ (15 - y) = ((2 ^ (15 - y) : Nat) : Int) := by push_cast; rfl
              have hsh : wrap64 ((u : Int) + wrap64 (2 ^ (15 - y))) = ((u + 2 ^ (15 - y) : Nat) : Int) := by
                rw [hpw]
                generalize 2 ^ (15 - y) = z at hp2
                rw [w64 (x := (z : Int)) (by omega) (by omega), w64 (by omega) (by omega)]
                omega
              have HSH := Lib.hid hsh
              have HPE := Lib.hid hpe
              clear hsh hpw hp2 hpe hpl
              go_wp2_with fail
              go_roundw
              case rel => exact ⟨k + 1, by go_num, by omega, by rw [HSH.out, HS.out, HPE.out], hok2.out, trivial⟩
              case measure => simp [intOf]; omega
            · have hpe : partL x = 0 := by unfold partL; rw [if_neg hp]
              have HPE := Lib.hid hpe
              go_wp2_with fail
              go_roundw
              case rel => exact ⟨k + 1, by go_num, by omega, by rw [HS.out, HPE.out]; rfl, hok2.out, trivial⟩
              case measure => simp [intOf]; omega
      · have hz := show l.take k = l from List.take_of_length_le (by omega)
        rw [hz] at hok
        have hv := HV.out hok
        rw [hz]
        generalize sumL l = sm at *
        have HVV := Lib.hid hv
        clear hz hok HV HBAD hv
        go_wp2_with fail
        refine CU.mono ?_
        rintro e w1 ⟨rfl, rfl⟩
        have HVV2 := HVV.out
        by_cases h1 : us = 1
        · subst h1
          by_cases h2 : sm = 16384
          · subst h2
            rw [if_pos (by omega)] at HVV2
            subst HVV2
            go_wp2_with fail
            go_ret
            exact ⟨rfl, rfl⟩
          · have q2 : ((sm : Int) == 16384) = false := by simp; omega
            have q2d : decide ((sm : Int) = 16384) = false := by simp; omega
            by_cases h3 : sm = 0
            · subst h3
              rw [if_pos (by omega)] at HVV2
              subst HVV2
              go_wp2_with fail
              go_ret
              exact ⟨rfl, rfl⟩
            · have q3 : ((sm : Int) != 0) = true := by simp; omega
              by_cases h4 : sm = 32768
              · subst h4
                rw [if_pos (by omega)] at HVV2
                subst HVV2
                go_wp2_with fail
                go_ret
                exact ⟨rfl, rfl⟩
              · have q4 : ((sm : Int) != 32768) = true := by simp; omega
                rw [if_neg (by omega)] at HVV2
                subst HVV2
                go_wp2_with fail
                go_ret
                exact ⟨rfl, rfl⟩
        · have q1 : ((us : Int) == 1) = false := by simp; omega
          have q1d : decide ((us : Int) = 1) = false := by simp; omega
          by_cases h3 : sm = 0
          · subst h3
            rw [if_pos (by omega)] at HVV2
            subst HVV2
            go_wp2_with fail
            go_ret
            exact ⟨rfl, rfl⟩
          · have q3 : ((sm : Int) != 0) = true := by simp; omega
            by_cases h4 : sm = 32768
            · subst h4
              rw [if_pos (by omega)] at HVV2
              subst HVV2
              go_wp2_with fail
              go_ret
              exact ⟨rfl, rfl⟩
            · have q4 : ((sm : Int) != 32768) = true := by simp; omega
              rw [if_neg (by omega)] at HVV2
              subst HVV2
              go_wp2_with fail
              go_ret
              exact ⟨rfl, rfl⟩
end LenW
end Go.Proofs.YtnpncpoiiikafaaGreat

namespace Go.Proofs.YtnpncpoiiikafaaGreat
set_option linter.unusedVariables false
set_option linter.unusedSimpArgs false
set_option linter.unnecessarySimpa false
open Go.RowKit
namespace LenW

end LenW
end Go.Proofs.YtnpncpoiiikafaaGreat

namespace Go.Proofs.YtnpncpoiiikafaaGreat
set_option linter.unusedVariables false
open Go.RowKit
section
variable {P : Program} {ops : Array Oper} {Q : Exit → Act → World → Prop} {md : Region.Mode} {S : World → Prop} {fuel : Nat} {listed : Array Bool} {tmps : Array Value} {defers : List Deferred} {w : World}

/-- A call that is told by its run (a method of an interface's value), in a region. -/
theorem take_calli (i : Nat) (f : FuncId) (args : Array Value) (op : Op) (ty : TypeId) {oi : Oper} {d : Nat} (hd : oi.dst = some d) (hop : oi.op = op) (hty : oi.type = ty)
    (hg : Region.wanted oi (yielded ops tmps) = true)
    (he : (execOp (Act.mk tmps defers).eval { dst := some d, op := op, type := ty, pos := "", after := #[], guard := none }).run P w = .ok (.enter f args) w) {K' : Act → World → Prop}
    (h : Calls P f args w fun e w' => ∃ v, e = .returned v ∧ K' ⟨tmps.setIfInBounds d v, defers⟩ w') {E : Prop} :
    if Region.wanted oi (yielded ops tmps) = true then Oper.wp P oi ⟨tmps, defers⟩ w K' Q else E := by
  rw [if_pos hg]
  unfold Oper.wp
  rw [execOp_same _ oi { dst := some d, op := op, type := ty, pos := "", after := #[], guard := none } hop hty, he]
  refine h.mono ?_
  rintro e w' ⟨v, rfl, hn⟩
  show K' (Act.put _ oi.dst v) w'
  rw [hd]
  exact hn
/-- A store, in a region. -/
theorem take_store (i : Nat) (op : Op) (ty : TypeId) {oi : Oper} (hd : oi.dst = none) (hop : oi.op = op) (hty : oi.type = ty)
    (hg : Region.wanted oi (yielded ops tmps) = true) {w' : World}
    (he : (execOp (Act.mk tmps defers).eval { dst := none, op := op, type := ty, pos := "", after := #[], guard := none }).run P w = .ok .skip w')
    {K' : Act → World → Prop} (h : K' ⟨tmps, defers⟩ w') {E : Prop} :
    if Region.wanted oi (yielded ops tmps) = true then Oper.wp P oi ⟨tmps, defers⟩ w K' Q else E := by
  rw [if_pos hg]
  unfold Oper.wp
  rw [execOp_same _ oi { dst := none, op := op, type := ty, pos := "", after := #[], guard := none } hop hty, he]
  show K' (Act.put _ oi.dst undef) w'
  rw [hd]
  exact h
end
end Go.Proofs.YtnpncpoiiikafaaGreat

namespace Go.Proofs.YtnpncpoiiikafaaGreat
set_option linter.unusedVariables false
set_option linter.unusedSimpArgs false
set_option linter.unnecessarySimpa false
open Go.RowKit

theorem Own.set {w : World} {base e size g n c k : Nat} {xs : List Value} (h : Own w base e size (some ⟨g, 0, none⟩) n c xs) (u : Value) : Own (w.setCell ⟨g, k, none⟩ u) base e size (some ⟨g, 0, none⟩) n c (xs.set k u) := by
  refine ⟨by rw [List.length_set]; exact h.1, ?_⟩
  rcases h.2 with ⟨hv, _⟩ | ⟨g', cap, cur, hv, hb, hg, hnc, hcm, hcs, htake⟩
  · simp at hv
  · simp only [Value.slice.injEq, Option.some.injEq, Addr.mk.injEq, and_true] at hv
    obtain ⟨rfl, _, rfl⟩ := hv
    refine .inr ⟨g, c, cur.setIfInBounds k u, rfl, hb, Blk.set (t := e) hg k u, hnc, hcm, by simpa using hcs, ?_⟩
    subst htake
    simp [List.take_set]
theorem Own.beyond {w : World} {base e size g n c k : Nat} {xs : List Value} (h : Own w base e size (some ⟨g, 0, none⟩) n c xs) (hk : n * size ≤ k) (u : Value) : Own (w.setCell ⟨g, k, none⟩ u) base e size (some ⟨g, 0, none⟩) n c xs := by
  have := h.set (k := k) u
  rwa [List.set_eq_of_length_le (by rw [h.len]; exact hk)] at this
theorem Own.beyonds {base e size g n c : Nat} {xs : List Value} : ∀ (vs : List Value) (o : Nat) (w : World), Own w base e size (some ⟨g, 0, none⟩) n c xs → n * size ≤ o → Own (w.setCells g o vs) base e size (some ⟨g, 0, none⟩) n c xs
  | [], _, _, h, _ => h
  | v :: r, o, w, h, ho => Own.beyonds r (o + 1) _ (h.beyond ho v) (by omega)
theorem Own.short {w : World} {base e size n c i : Nat} {A : Option Addr} {xs : List Value} (h : Own w base e size A n c xs) (hi : i ≤ n) : Own w base e size A i c (xs.take (i * size)) := by
  have hm := Nat.mul_le_mul_right size hi
  refine ⟨by rw [List.length_take, h.1]; omega, ?_⟩
  rcases h.2 with ⟨hv, hn⟩ | ⟨g', cap, cur, hv, hb, hg, hnc, hcm, hcs, htake⟩
  · simp only [Value.slice.injEq] at hv
    obtain ⟨rfl, _, rfl⟩ := hv
    obtain rfl : i = 0 := by omega
    exact .inl ⟨rfl, rfl⟩
  · simp only [Value.slice.injEq] at hv
    obtain ⟨rfl, _, rfl⟩ := hv
    refine .inr ⟨g', c, cur, rfl, hb, hg, by omega, hcm, hcs, ?_⟩
    rw [← htake, List.take_take, Nat.min_eq_left hm]
theorem own_thaw {w : World} {base e size g n c : Nat} {xs : List Value} (h : Own w base e size (some ⟨g, 0, none⟩) n c xs) : ∀ k, w.frozen? ⟨g, k, none⟩ = false := by
  intro k
  rcases h.2 with ⟨hv, _⟩ | ⟨g', cap, cur, hv, hb, hg, _⟩
  · simp at hv
  · simp only [Value.slice.injEq, Option.some.injEq, Addr.mk.injEq, and_true] at hv
    obtain ⟨rfl, _, _⟩ := hv
    exact Blk.frozen (t := e) hg k
theorem grown_set {w w' : World} {g k : Nat} (h : w.grownBy w' (some g)) (u : Value) : w.grownBy (w'.setCell ⟨g, k, none⟩ u) (some g) :=
  ⟨h.os, h.tape, h.output, by simpa [World.setCell] using h.size, fun j hj hne => (Below.heap_setCell w' ⟨g, k, none⟩ u j (fun e => hne (by rw [e]))).trans (h.block j hj hne)⟩
theorem grown_sets {w : World} {g : Nat} : ∀ (vs : List Value) (o : Nat) (w' : World), w.grownBy w' (some g) → w.grownBy (w'.setCells g o vs) (some g)
  | [], _, _, h => h
  | v :: r, o, w', h => grown_sets r (o + 1) _ (grown_set h v)
theorem grown_below {w a b : World} {row : Option Nat} (h : w.grownBy a row) (hb : Below a.heap.size a b) : w.grownBy b row :=
  ⟨hb.os.trans h.os, hb.tape.trans h.tape, hb.output.trans h.output, Nat.le_trans h.size hb.size, fun k hk hne => (hb.block k (Nat.lt_of_lt_of_le hk h.size)).trans (h.block k hk hne)⟩

/-- 'clear' of a row of records. -/
theorem run_clear_recs {P : Program} (w : World) (t e ty : TypeId) (z : Value) (ht : P.underlying t = some (.slice e)) (hv : ∀ w, (zeroValue e).run P w = .ok z w) (hz : z.cells = #[.int .i64 0, .int .i64 0, str []]) (b o n c : Nat) (hn : 0 < n)
    (hc : ∀ j, j < n * 3 → (w.cell? ⟨b, o + j, none⟩).isSome = true) (hf : ∀ j, j < n * 3 → w.frozen? ⟨b, o + j, none⟩ = false) :
    ∃ vs, (Builtin.clear_ #[t] ty #[.slice (some ⟨b, o, none⟩) n c]).run P w = .ok (.tuple #[]) (w.setCells b o vs) := by
  refine ⟨(Builtin.zeroCells z.cells n).toList, ?_⟩
  have hl : (Builtin.zeroCells z.cells n).toList.length = n * 3 := by rw [hz]; simp [Builtin.zeroCells]
  have h1 : ∀ v ∈ (Builtin.zeroCells z.cells n).toList, v.oneCell' = true := by
    intro v hv'
    rw [hz] at hv'
    simp only [Builtin.zeroCells, Array.toList_map, List.mem_map] at hv'
    obtain ⟨i, _, rfl⟩ := hv'
    have h3 : i % 3 < 3 := Nat.mod_lt _ (by omega)
    generalize i % (#[Value.int IntKind.i64 0, Value.int IntKind.i64 0, str []] : Array Value).size = k at *
    match k with
    | 0 => rfl
    | 1 => rfl
    | 2 => rfl
    | k + 3 => rfl
  have hst := run_storeCells_cells (P := P) b o (Builtin.zeroCells z.cells n).toList 0 w (by rw [hl]; simpa using hc) (by rw [hl]; simpa using hf) h1
  simp only [Nat.add_zero] at hst
  obtain ⟨m, rfl⟩ : ∃ m, n = m + 1 := ⟨n - 1, by omega⟩
  simp [Builtin.clear_, run_underlying ht, hv, hst]

theorem rcells_set (l : List Rc) (k : Nat) (hk : k < l.length) (r : Rc) : rcells (l.set k r) = (((rcells l).set (k * 3) (.int .i64 r.1)).set (k * 3 + 1) (.int .i64 r.2.1)).set (k * 3 + 2) (str r.2.2) := by
  induction l generalizing k with
  | nil => simp at hk
  | cons p l ih =>
    cases k with
    | zero => rfl
    | succ k =>
      have := ih k (by simpa using hk)
      rw [List.set_cons_succ, rcells_cons, rcells_cons, this]
      have e1 : (k + 1) * 3 = k * 3 + 3 := by omega
      rw [e1]
      simp [List.set_cons_succ]
theorem rcells_take (l : List Rc) (k : Nat) : (rcells l).take (k * 3) = rcells (l.take k) := by
  induction l generalizing k with
  | nil => simp [rcells]
  | cons p l ih =>
    cases k with
    | zero => simp [rcells]
    | succ k =>
      rw [show (k + 1) * 3 = k * 3 + 3 from by omega, show (p :: l).take (k + 1) = p :: l.take k from rfl, rcells_cons, rcells_cons, ← ih k]
      simp [List.take_succ_cons]

/-- What is left over when hits are kept: the row behind j of them is looked at. -/
theorem keepf_start {α : Type} (p : α → Bool) (l : List α) (k : Nat) (hk : k < l.length) (hp : ∀ i (h : i < k), p (l[i]'(by omega)) = true) (hn : p l[k] = false) :
    (l.take (k + 1)).filter p = l.take k := by
  rw [List.take_succ_eq_append_getElem hk, List.filter_append]
  have h1 : (l.take k).filter p = l.take k := by
    rw [List.filter_eq_self]
    intro a ha
    obtain ⟨i, hi, rfl⟩ := List.mem_iff_getElem.1 ha
    rw [List.getElem_take]
    exact hp i (by rw [List.length_take] at hi; omega)
  rw [h1]
  simp [hn]
theorem keepf_all {α : Type} (p : α → Bool) (l : List α) (hp : ∀ i (h : i < l.length), p l[i] = true) : l.filter p = l := by
  rw [List.filter_eq_self]
  intro a ha
  obtain ⟨i, hi, rfl⟩ := List.mem_iff_getElem.1 ha
  exact hp i hi
theorem keepf_step {α : Type} (p : α → Bool) (l cur : List α) (i j : Nat) (hl : cur.length = l.length) (hj : j < l.length) (hij : i < j) (h1 : cur.take i = (l.take j).filter p) (h2 : cur.drop j = l.drop j) :
    (∃ h : j < cur.length, cur[j] = l[j]) ∧ (p l[j] = true → (cur.set i l[j]).take (i + 1) = (l.take (j + 1)).filter p ∧ (cur.set i l[j]).drop (j + 1) = l.drop (j + 1)) ∧
    (p l[j] = false → cur.take i = (l.take (j + 1)).filter p ∧ cur.drop (j + 1) = l.drop (j + 1)) := by
  have h3 : cur.drop (j + 1) = l.drop (j + 1) := by
    have := congrArg (List.drop 1) h2
    simpa [List.drop_drop] using this
  refine ⟨⟨by omega, ?_⟩, fun hp => ⟨?_, ?_⟩, fun hp => ⟨?_, h3⟩⟩
  · have e1 := List.drop_eq_getElem_cons (l := cur) (i := j) (by omega)
    have e2 := List.drop_eq_getElem_cons (l := l) (i := j) hj
    rw [e1, e2] at h2
    exact (List.cons.inj h2).1
  · rw [List.take_succ_eq_append_getElem (by rw [List.length_set]; omega), List.take_succ_eq_append_getElem hj, List.filter_append, ← h1]
    simp only [hp, List.take_set, List.getElem_set_self, List.filter_cons_of_pos, List.filter_nil]
    rw [List.set_eq_of_length_le (by rw [List.length_take]; omega)]
  · rw [List.drop_set]
    rw [if_pos (by omega)]
    exact h3
  · rw [List.take_succ_eq_append_getElem hj, List.filter_append, ← h1]
    simp [hp]
/-- What a row that lies apart reads as behind a write. -/
theorem Rd.apart {w : World} {B size n : Nat} {A : Option Addr} {xs : List Value} (h : Rd w B size A n xs) {p : Addr} (hp : ∀ k, blkOf A = some k → k ≠ p.block) (u : Value) : Rd (w.setCell p u) B size A n xs := by
  refine ⟨h.len, fun hn => ?_⟩
  obtain ⟨b, o, rfl, hb, hc⟩ := h.at_ hn
  refine ⟨b, o, rfl, hb, fun j hj => ?_⟩
  rw [World.cell?_setCell_other _ _ _ _ (fun e => hp b rfl (by rw [e]))]
  exact hc j hj
theorem Rd.apart0 {w : World} {B size n : Nat} {A : Option Addr} {xs : List Value} (h : Rd w B size A n xs) {p : Addr} (hp : 0 < n → ∀ k, blkOf A = some k → k ≠ p.block) (u : Value) : Rd (w.setCell p u) B size A n xs := by
  rcases Nat.eq_zero_or_pos n with rfl | hn
  · exact ⟨h.len, fun h0 => absurd h0 (by omega)⟩
  · exact h.apart (hp hn) u
end Go.Proofs.YtnpncpoiiikafaaGreat
