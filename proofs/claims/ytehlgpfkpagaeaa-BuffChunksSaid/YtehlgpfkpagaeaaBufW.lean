/- Walks over package buff and its reference: the times, the next number, a record more. -/
import Derived.Test.YtehlgpfkpagaeaaRecR
import Derived.Test.YtehlgpfkpagaeaaApp
namespace Go.Proofs.Ytehlgpfkpagaeaa
set_option linter.unusedVariables false
set_option linter.unusedSimpArgs false
set_option linter.unnecessarySimpa false
open Go.RowKit
namespace RecW

def tLo (l : List Rc) : Int := match l.head? with | none => 1 | some r => r.2.1
def tHi (l : List Rc) : Int := match l.getLast? with | none => 0 | some r => r.2.1
def nextN (l : List Rc) (first : Int) : Int := match l.getLast? with | none => first | some r => if r.1 = 9223372036854775807 then first else r.1 + 1
theorem tLo_cons {l : List Rc} (h : 0 < l.length) : tLo l = (l[0]).2.1 := by
  cases l with
  | nil => simp at h
  | cons r l => rfl
theorem last_at {l : List Rc} {j : Nat} (h : l.length = j + 1) : l.getLast? = some (l[j]'(by omega)) := by
  rw [List.getLast?_eq_getElem?, List.getElem?_eq_getElem (by omega)]
  congr 2
  omega
theorem tHi_last {l : List Rc} {j : Nat} (h : l.length = j + 1) : tHi l = (l[j]'(by omega)).2.1 := by unfold tHi; rw [last_at h]
theorem nextN_last {l : List Rc} {j : Nat} (h : l.length = j + 1) (first : Int) : nextN l first = if (l[j]'(by omega)).1 = 9223372036854775807 then first else (l[j]'(by omega)).1 + 1 := by unfold nextN; rw [last_at h]

set_option maxHeartbeats 1000000 in
theorem times_any (A : Option Addr) (n c : Nat) (l : List Rc) (w : World) (h : Rd w w.heap.size 3 A n (rcells l)) (hn : n ≤ 9223372036854775807) :
    Calls Try.prog 50 #[.slice A n c] w fun e w' => e = .returned (.agg #[.int .i64 (tLo l), .int .i64 (tHi l)]) ∧ Below w.heap.size w w' := by
  have hl := rd_rlen h
  rcases Nat.eq_zero_or_pos n with rfl | hp
  · obtain rfl : l = [] := List.eq_nil_of_length_eq_zero hl
    clear hl
    go_enter Try.func50, Try.ntmps50
    go_wp2_with fail
    refine bodyPost_ret (v := .agg #[.int .i64 (tLo []), .int .i64 (tHi [])]) ?_ rfl ⟨rfl, (by first | exact Below.refl _ _ | (repeat (first | exact Below.refl _ _ | assumption | refine Below.drew ?_ | refine Below.drewN_ ?_ _ | refine Below.alloc ?_ (by first | exact Nat.le_refl _ | (simp; done) | (simp; omega) | omega) _ | refine Below.setCell ?_ (by first | exact Nat.le_refl _ | (simp; done) | (simp; omega) | omega) _ | (refine Below.trans ?_ (Below.mono (by assumption) (by first | exact Nat.le_refl _ | (simp; done) | (simp; omega) | omega))))))⟩
    simp [results, Try.results50, go_sem, tLo, tHi]
  · obtain ⟨j, rfl⟩ : ∃ j, n = j + 1 := ⟨n - 1, by omega⟩
    obtain ⟨b, o, rfl, hb, hc⟩ := rd_recs h (by omega)
    have hl0 : 0 < l.length := by omega
    have hlj : j < l.length := by omega
    have H1 : Hid (tLo l = (l[0]'hl0).2.1) := Lib.hid (tLo_cons hl0)
    have H2 : Hid (tHi l = (l[j]'hlj).2.1) := Lib.hid (tHi_last hl)
    obtain ⟨_, d1, _⟩ := hc 0 hl0
    obtain ⟨_, e1, _⟩ := hc j hlj
    simp only [Nat.zero_mul, Nat.add_zero] at d1
    have hw1 : IntKind.i64.wrap (((j + 1 : Nat) : Int) - 1) = (j : Int) := by rw [show ((j + 1 : Nat) : Int) - 1 = (j : Int) by omega]; exact IntWalk.i64_in _ (by omega)
    have hj0 : (0 : Int) ≤ (j : Int) := by omega
    clear hc hl h
    go_enter Try.func50, Try.ntmps50
    go_wp2_with fail
    go_region
    go_wp2
    refine bodyPost_ret (v := .agg #[.int .i64 (tLo l), .int .i64 (tHi l)]) ?_ rfl ⟨rfl, (by first | exact Below.refl _ _ | (repeat (first | exact Below.refl _ _ | assumption | refine Below.drew ?_ | refine Below.drewN_ ?_ _ | refine Below.alloc ?_ (by first | exact Nat.le_refl _ | (simp; done) | (simp; omega) | omega) _ | refine Below.setCell ?_ (by first | exact Nat.le_refl _ | (simp; done) | (simp; omega) | omega) _ | (refine Below.trans ?_ (Below.mono (by assumption) (by first | exact Nat.le_refl _ | (simp; done) | (simp; omega) | omega))))))⟩
    rw [H1.out, H2.out]
    simp [results, Try.results50, go_sem]
set_option maxHeartbeats 1000000 in
theorem refTimes_any (A : Option Addr) (n c : Nat) (l : List Rc) (w : World) (h : Rd w w.heap.size 3 A n (rcells l)) (hn : n ≤ 9223372036854775807) :
    Calls Try.prog 51 #[.slice A n c] w fun e w' => e = .returned (.agg #[.int .i64 (tLo l), .int .i64 (tHi l)]) ∧ Below w.heap.size w w' := by
  have hl := rd_rlen h
  rcases Nat.eq_zero_or_pos n with rfl | hp
  · obtain rfl : l = [] := List.eq_nil_of_length_eq_zero hl
    clear hl
    go_enter Try.func51, Try.ntmps51
    go_wp2_with fail
    refine bodyPost_ret (v := .agg #[.int .i64 (tLo []), .int .i64 (tHi [])]) ?_ rfl ⟨rfl, (by first | exact Below.refl _ _ | (repeat (first | exact Below.refl _ _ | assumption | refine Below.drew ?_ | refine Below.drewN_ ?_ _ | refine Below.alloc ?_ (by first | exact Nat.le_refl _ | (simp; done) | (simp; omega) | omega) _ | refine Below.setCell ?_ (by first | exact Nat.le_refl _ | (simp; done) | (simp; omega) | omega) _ | (refine Below.trans ?_ (Below.mono (by assumption) (by first | exact Nat.le_refl _ | (simp; done) | (simp; omega) | omega))))))⟩
    simp [results, Try.results51, go_sem, tLo, tHi]
  · obtain ⟨j, rfl⟩ : ∃ j, n = j + 1 := ⟨n - 1, by omega⟩
    obtain ⟨b, o, rfl, hb, hc⟩ := rd_recs h (by omega)
    have hl0 : 0 < l.length := by omega
    have hlj : j < l.length := by omega
    have H1 : Hid (tLo l = (l[0]'hl0).2.1) := Lib.hid (tLo_cons hl0)
    have H2 : Hid (tHi l = (l[j]'hlj).2.1) := Lib.hid (tHi_last hl)
    obtain ⟨_, d1, _⟩ := hc 0 hl0
    obtain ⟨_, e1, _⟩ := hc j hlj
    simp only [Nat.zero_mul, Nat.add_zero] at d1
    have hw1 : IntKind.i64.wrap (((j + 1 : Nat) : Int) - 1) = (j : Int) := by rw [show ((j + 1 : Nat) : Int) - 1 = (j : Int) by omega]; exact IntWalk.i64_in _ (by omega)
    have hj0 : (0 : Int) ≤ (j : Int) := by omega
    clear hc hl h
    go_enter Try.func51, Try.ntmps51
    go_wp2_with fail
    go_region
    go_wp2
    refine bodyPost_ret (v := .agg #[.int .i64 (tLo l), .int .i64 (tHi l)]) ?_ rfl ⟨rfl, (by first | exact Below.refl _ _ | (repeat (first | exact Below.refl _ _ | assumption | refine Below.drew ?_ | refine Below.drewN_ ?_ _ | refine Below.alloc ?_ (by first | exact Nat.le_refl _ | (simp; done) | (simp; omega) | omega) _ | refine Below.setCell ?_ (by first | exact Nat.le_refl _ | (simp; done) | (simp; omega) | omega) _ | (refine Below.trans ?_ (Below.mono (by assumption) (by first | exact Nat.le_refl _ | (simp; done) | (simp; omega) | omega))))))⟩
    rw [H1.out, H2.out]
    simp [results, Try.results51, go_sem]

set_option maxHeartbeats 1000000 in
theorem next_any (A : Option Addr) (n c : Nat) (l : List Rc) (first : Int) (w : World) (h : Rd w w.heap.size 3 A n (rcells l)) (hn : n ≤ 9223372036854775807) (h64 : ∀ r ∈ l, I64 r.1) :
    Calls Try.prog 52 #[.slice A n c, .int .i64 first] w fun e w' => e = .returned (.int .i64 (nextN l first)) ∧ Below w.heap.size w w' := by
  have hl := rd_rlen h
  rcases Nat.eq_zero_or_pos n with rfl | hp
  · obtain rfl : l = [] := List.eq_nil_of_length_eq_zero hl
    clear hl
    go_enter Try.func52, Try.ntmps52
    go_wp2_with fail
    go_ret
    exact ⟨rfl, (by first | exact Below.refl _ _ | (repeat (first | exact Below.refl _ _ | assumption | refine Below.drew ?_ | refine Below.drewN_ ?_ _ | refine Below.alloc ?_ (by first | exact Nat.le_refl _ | (simp; done) | (simp; omega) | omega) _ | refine Below.setCell ?_ (by first | exact Nat.le_refl _ | (simp; done) | (simp; omega) | omega) _ | (refine Below.trans ?_ (Below.mono (by assumption) (by first | exact Nat.le_refl _ | (simp; done) | (simp; omega) | omega))))))⟩
  · obtain ⟨j, rfl⟩ : ∃ j, n = j + 1 := ⟨n - 1, by omega⟩
    obtain ⟨b, o, rfl, hb, hc⟩ := rd_recs h (by omega)
    have hlj : j < l.length := by omega
    have H1 : Hid (nextN l first = if (l[j]'hlj).1 = 9223372036854775807 then first else (l[j]'hlj).1 + 1) := Lib.hid (nextN_last hl first)
    obtain ⟨e1, _, _⟩ := hc j hlj
    obtain ⟨q1, q2⟩ := h64 l[j] (List.getElem_mem hlj)
    have hj0 : (0 : Int) ≤ (j : Int) := by omega
    have hw1 : ((j + 1 : Nat) : Int) - 1 = (j : Int) := by omega
    clear hc hl h h64
    by_cases hm : l[j].1 = 9223372036854775807
    · have hmI : (l[j].1 == 9223372036854775807) = true := by simp [hm]
      have HM := Lib.hid hm
      clear hm
      go_enter Try.func52, Try.ntmps52
      go_wp2_with fail
      go_ret
      exact ⟨ret_int (by rw [H1.out, if_pos HM.out]), (by first | exact Below.refl _ _ | (repeat (first | exact Below.refl _ _ | assumption | refine Below.drew ?_ | refine Below.drewN_ ?_ _ | refine Below.alloc ?_ (by first | exact Nat.le_refl _ | (simp; done) | (simp; omega) | omega) _ | refine Below.setCell ?_ (by first | exact Nat.le_refl _ | (simp; done) | (simp; omega) | omega) _ | (refine Below.trans ?_ (Below.mono (by assumption) (by first | exact Nat.le_refl _ | (simp; done) | (simp; omega) | omega))))))⟩
    · have hmI : (l[j].1 == 9223372036854775807) = false := by simp [hm]
      have HM := Lib.hid hm
      have hlt : l[j].1 ≤ 9223372036854775806 := by omega
      clear hm
      go_enter Try.func52, Try.ntmps52
      go_wp2_with fail
      go_ret
      exact ⟨ret_int (by rw [H1.out, if_neg HM.out]), (by first | exact Below.refl _ _ | (repeat (first | exact Below.refl _ _ | assumption | refine Below.drew ?_ | refine Below.drewN_ ?_ _ | refine Below.alloc ?_ (by first | exact Nat.le_refl _ | (simp; done) | (simp; omega) | omega) _ | refine Below.setCell ?_ (by first | exact Nat.le_refl _ | (simp; done) | (simp; omega) | omega) _ | (refine Below.trans ?_ (Below.mono (by assumption) (by first | exact Nat.le_refl _ | (simp; done) | (simp; omega) | omega))))))⟩
set_option maxHeartbeats 1000000 in
theorem refNext_any (A : Option Addr) (n c : Nat) (l : List Rc) (first : Int) (w : World) (h : Rd w w.heap.size 3 A n (rcells l)) (hn : n ≤ 9223372036854775807) (h64 : ∀ r ∈ l, I64 r.1) :
    Calls Try.prog 53 #[.slice A n c, .int .i64 first] w fun e w' => e = .returned (.int .i64 (nextN l first)) ∧ Below w.heap.size w w' := by
  have hl := rd_rlen h
  rcases Nat.eq_zero_or_pos n with rfl | hp
  · obtain rfl : l = [] := List.eq_nil_of_length_eq_zero hl
    clear hl
    go_enter Try.func53, Try.ntmps53
    go_wp2_with fail
    go_ret
    exact ⟨rfl, (by first | exact Below.refl _ _ | (repeat (first | exact Below.refl _ _ | assumption | refine Below.drew ?_ | refine Below.drewN_ ?_ _ | refine Below.alloc ?_ (by first | exact Nat.le_refl _ | (simp; done) | (simp; omega) | omega) _ | refine Below.setCell ?_ (by first | exact Nat.le_refl _ | (simp; done) | (simp; omega) | omega) _ | (refine Below.trans ?_ (Below.mono (by assumption) (by first | exact Nat.le_refl _ | (simp; done) | (simp; omega) | omega))))))⟩
  · obtain ⟨j, rfl⟩ : ∃ j, n = j + 1 := ⟨n - 1, by omega⟩
    obtain ⟨b, o, rfl, hb, hc⟩ := rd_recs h (by omega)
    have hlj : j < l.length := by omega
    have H1 : Hid (nextN l first = if (l[j]'hlj).1 = 9223372036854775807 then first else (l[j]'hlj).1 + 1) := Lib.hid (nextN_last hl first)
    obtain ⟨e1, _, _⟩ := hc j hlj
    obtain ⟨q1, q2⟩ := h64 l[j] (List.getElem_mem hlj)
    have hj0 : (0 : Int) ≤ (j : Int) := by omega
    have hw1 : ((j + 1 : Nat) : Int) - 1 = (j : Int) := by omega
    clear hc hl h h64
    by_cases hm : l[j].1 = 9223372036854775807
    · have hmI : (l[j].1 == 9223372036854775807) = true := by simp [hm]
      have HM := Lib.hid hm
      clear hm
      go_enter Try.func53, Try.ntmps53
      go_wp2_with fail
      go_ret
      exact ⟨ret_int (by rw [H1.out, if_pos HM.out]), (by first | exact Below.refl _ _ | (repeat (first | exact Below.refl _ _ | assumption | refine Below.drew ?_ | refine Below.drewN_ ?_ _ | refine Below.alloc ?_ (by first | exact Nat.le_refl _ | (simp; done) | (simp; omega) | omega) _ | refine Below.setCell ?_ (by first | exact Nat.le_refl _ | (simp; done) | (simp; omega) | omega) _ | (refine Below.trans ?_ (Below.mono (by assumption) (by first | exact Nat.le_refl _ | (simp; done) | (simp; omega) | omega))))))⟩
    · have hmI : (l[j].1 == 9223372036854775807) = false := by simp [hm]
      have HM := Lib.hid hm
      have hlt : l[j].1 ≤ 9223372036854775806 := by omega
      clear hm
      go_enter Try.func53, Try.ntmps53
      go_wp2_with fail
      go_ret
      exact ⟨ret_int (by rw [H1.out, if_neg HM.out]), (by first | exact Below.refl _ _ | (repeat (first | exact Below.refl _ _ | assumption | refine Below.drew ?_ | refine Below.drewN_ ?_ _ | refine Below.alloc ?_ (by first | exact Nat.le_refl _ | (simp; done) | (simp; omega) | omega) _ | refine Below.setCell ?_ (by first | exact Nat.le_refl _ | (simp; done) | (simp; omega) | omega) _ | (refine Below.trans ?_ (Below.mono (by assumption) (by first | exact Nat.le_refl _ | (simp; done) | (simp; omega) | omega))))))⟩

/-- What adding a record tells: the records, or none, and the error. -/
def addN (l : List Rc) (r : Rc) : List Rc × Int := if rowN (l ++ [r]) = 0 then (if 20000 < rawN (l ++ [r]) then ([], 3) else (l ++ [r], 0)) else ([], rowN (l ++ [r]))
theorem addN_len (l : List Rc) (r : Rc) : (addN l r).1.length ≤ l.length + 1 := by
  unfold addN
  split
  · split <;> simp
  · simp
theorem El_rec : El Try.prog 48 50 3 32 := El.mk' Try.underlying48 (z := .agg #[.int .i64 0, .int .i64 0, .string ⟨#[]⟩]) (by kernel_rfl) rfl (by decide)

set_option maxHeartbeats 1000000 in
theorem add_any (A : Option Addr) (n c : Nat) (l : List Rc) (r : Rc) (w : World) (h : Rd w w.heap.size 3 A n (rcells l)) (hn : n ≤ 1000000) (hc : n ≤ c) (hcm : c ≤ 9223372036854775807) :
    Calls Try.prog 42 #[.slice A n c, recv r] w fun e w' => ∃ A' n' c', e = .returned (.tuple #[.slice A' n' c', .int .i64 (addN l r).2]) ∧ n' ≤ c' ∧ Rd w' w'.heap.size 3 A' n' (rcells (addN l r).1) ∧ Below w.heap.size w w' := by
  obtain ⟨a, b, d⟩ := r
  obtain ⟨ie, _, hie, _⟩ := El_rec.inf
  have hsl := run_slice_full (P := Try.prog) Try.underlying48 hie h c hc
  go_enter Try.func42, Try.ntmps42
  go_wp2_with fail
  have g0 : Blk (w.alloc (Obj.cells #[Value.int IntKind.i64 a, Value.int IntKind.i64 b, str d] 50)) w.heap.size 50 #[Value.int IntKind.i64 a, Value.int IntKind.i64 b, str d] := Blk.new _ _ _
  refine wp_region_held_drew (S := (fun w' => Blk w' w.heap.size 50 #[Value.int IntKind.i64 a, Value.int IntKind.i64 b, str d] ∧ w'.cell? ⟨w.heap.size, 0, none⟩ = some (.int .i64 a) ∧ w'.cell? ⟨w.heap.size, 1, none⟩ = some (.int .i64 b) ∧ w'.cell? ⟨w.heap.size, 2, none⟩ = some (str d))) (by kernel_rfl) ?_ (fun hHeld => ?_)
  · (try dsimp only); exact blkS3 (by repeat (first | with_reducible exact g0 | with_reducible exact hHeld.1 | with_reducible apply Blk.drew | with_reducible apply Blk.alloc | (refine Blk.grown ?_ hgr (by simp [blkOf]))))
  refine take_move 0 (Operand.tmp 0) rfl rfl (by first | exact .inl rfl | exact .inr rfl) rfl (by kernel_rfl) (by kernel_rfl) (by kernel_rfl) (fun _ _ _ h => h) (by assumption) ?_
  simp only [List.setIfInBounds_toArray, List.set_cons_zero, List.set_cons_succ]
  refine take_move 1 (Operand.tmp 0) rfl rfl (by first | exact .inl rfl | exact .inr rfl) rfl (by kernel_rfl) (by kernel_rfl) (by kernel_rfl) (fun _ _ _ h => h) (by assumption) ?_
  simp only [List.setIfInBounds_toArray, List.set_cons_zero, List.set_cons_succ]
  refine take_op (v := ?vu1x2) 2 (Op.call { callee := Callee.builtin Builtin.len, args := #[Operand.tmp 9], argTypes := #[48] }) 3 rfl rfl rfl rfl rfl (by kernel_rfl) (by kernel_rfl) (by kernel_rfl) (fun _ _ _ h => h) ?yu1x2 (by assumption) ?ru1x2
  case yu1x2 => (intro w' hSw; (try dsimp only at hSw); go_simp; try (with_reducible rfl))
  simp only [List.setIfInBounds_toArray, List.set_cons_zero, List.set_cons_succ]
  refine take_move 3 (Operand.tmp 0) rfl rfl (by first | exact .inl rfl | exact .inr rfl) rfl (by kernel_rfl) (by kernel_rfl) (by kernel_rfl) (fun _ _ _ h => h) (by assumption) ?_
  simp only [List.setIfInBounds_toArray, List.set_cons_zero, List.set_cons_succ]
  refine take_op (v := ?vu1x4) 4 (Op.call { callee := Callee.builtin Builtin.len, args := #[Operand.tmp 11], argTypes := #[48] }) 3 rfl rfl rfl rfl rfl (by kernel_rfl) (by kernel_rfl) (by kernel_rfl) (fun _ _ _ h => h) ?yu1x4 (by assumption) ?ru1x4
  case yu1x4 => (intro w' hSw; (try dsimp only at hSw); go_simp; try (with_reducible rfl))
  simp only [List.setIfInBounds_toArray, List.set_cons_zero, List.set_cons_succ]
  refine take_op (v := ?vu1x5) 5 (Op.slice 48 (Operand.tmp 8) none (some (Operand.tmp 10)) (some (Operand.tmp 12))) 48 rfl rfl rfl rfl rfl (by kernel_rfl) (by kernel_rfl) (by kernel_rfl) (fun _ _ _ h => h) ?yu1x5 (by assumption) ?ru1x5
  case yu1x5 => (intro w' hSw; (try dsimp only at hSw); go_simp; try (with_reducible rfl))
  simp only [List.setIfInBounds_toArray, List.set_cons_zero, List.set_cons_succ]
  refine take_op (v := ?vu1x6) 6 (Op.load 50 (Operand.tmp 3)) 50 rfl rfl rfl rfl rfl (by kernel_rfl) (by kernel_rfl) (by kernel_rfl) (fun _ _ _ h => h) ?yu1x6 (by assumption) ?ru1x6
  case yu1x6 => (intro w' hSw; (try dsimp only at hSw); go_simp; try (with_reducible rfl))
  simp only [List.setIfInBounds_toArray, List.set_cons_zero, List.set_cons_succ]
  refine' take_run 7 (Op.buildSlice 48 1 #[(0, Operand.tmp 14)]) 48 (by kernel_rfl) rfl rfl rfl rfl rfl ?eu1x7 ?su1x7 (fun hHeld => ?ru1x7)
  case eu1x7 => (go_simp; try (first | with_reducible rfl | exact ⟨rfl, rfl⟩))
  case su1x7 => ((try dsimp only); exact blkS3 (by repeat (first | with_reducible exact g0 | with_reducible exact hHeld.1 | with_reducible apply Blk.drew | with_reducible apply Blk.alloc | (refine Blk.grown ?_ hgr (by simp [blkOf])))))
  simp only [List.setIfInBounds_toArray, List.set_cons_zero, List.set_cons_succ]
  obtain ⟨A', c', w', hrun, ho, hgr⟩ := run_app_full (P := Try.prog) El_rec 48 (h.below (w' := (w.alloc (.cells #[Value.int IntKind.i64 a, Value.int IntKind.i64 b, str d] 50)).drew.alloc (.cells #[Value.int IntKind.i64 a, Value.int IntKind.i64 b, str d] 50)) (by first | exact Below.refl _ _ | (repeat (first | exact Below.refl _ _ | assumption | refine Below.drew ?_ | refine Below.drewN_ ?_ _ | refine Below.alloc ?_ (by first | exact Nat.le_refl _ | (simp; done) | (simp; omega) | omega) _ | refine Below.setCell ?_ (by first | exact Nat.le_refl _ | (simp; done) | (simp; omega) | omega) _ | (refine Below.trans ?_ (Below.mono (by assumption) (by first | exact Nat.le_refl _ | (simp; done) | (simp; omega) | omega))))))) rfl (A2 := some ⟨w.heap.size + 1, 0, none⟩) (m := 1) 1 (news := rcells [(a, b, d)]) (rd_new (by simp) rfl) (by omega) (rcells_one _) (by unfold maxLen; omega) (by omega)
  refine' take_run 8 (Op.call { callee := Callee.builtin Builtin.append, args := #[Operand.tmp 13, Operand.tmp 15], argTypes := #[48, 48] }) 48 (by kernel_rfl) rfl rfl rfl rfl rfl (exec_app hrun rfl rfl) ?su1x8 (fun hHeld => ?ru1x8)
  case su1x8 => ((try dsimp only); exact blkS3 (by repeat (first | with_reducible exact g0 | with_reducible exact hHeld.1 | with_reducible apply Blk.drew | with_reducible apply Blk.alloc | (refine Blk.grown ?_ hgr (by simp [blkOf])))))
  simp only [List.setIfInBounds_toArray, List.set_cons_zero, List.set_cons_succ]
  refine take_op (v := ?vu1x9) 9 (Op.assign (Operand.tmp 16)) 48 rfl rfl rfl rfl rfl (by kernel_rfl) (by kernel_rfl) (by kernel_rfl) (fun _ _ _ h => h) ?yu1x9 (by assumption) ?ru1x9
  case yu1x9 => (intro w' hSw; (try dsimp only at hSw); go_simp; try (with_reducible rfl))
  simp only [List.setIfInBounds_toArray, List.set_cons_zero, List.set_cons_succ]
  refine wpAnyH_done (by kernel_rfl) ?_ _
  clear hHeld hrun g0 hsl
  rw [← rcells_append] at ho
  have HB : Below w.heap.size w w' := below_grow (by first | exact Below.refl _ _ | (repeat (first | exact Below.refl _ _ | assumption | refine Below.drew ?_ | refine Below.drewN_ ?_ _ | refine Below.alloc ?_ (by first | exact Nat.le_refl _ | (simp; done) | (simp; omega) | omega) _ | refine Below.setCell ?_ (by first | exact Nat.le_refl _ | (simp; done) | (simp; omega) | omega) _ | (refine Below.trans ?_ (Below.mono (by assumption) (by first | exact Nat.le_refl _ | (simp; done) | (simp; omega) | omega)))))) hgr
  have hz := HB.size
  clear hgr
  obtain ⟨q, hq⟩ : ∃ q, rowN (l ++ [(a, b, d)]) = q := ⟨_, rfl⟩
  obtain ⟨x, hx⟩ : ∃ x, rawN (l ++ [(a, b, d)]) = x := ⟨_, rfl⟩
  have hx1 := rawN_le (l ++ [(a, b, d)])
  rw [hx] at hx1
  have HQ := Lib.hid hq
  have HX := Lib.hid hx
  have HV := Lib.hid (show addN l (a, b, d) = if q = 0 then (if 20000 < x then ([], 3) else (l ++ [(a, b, d)], 0)) else ([], q) by unfold addN; rw [hq, hx])
  clear hq hx
  have hro := ho.rd
  go_wp2_with fail
  have C1 := row_any A' (n + 1) c' (l ++ [(a, b, d)]) w' hro (by omega)
  rw [HQ.out] at C1
  refine C1.mono ?_
  rintro e w1 ⟨rfl, hb1⟩
  have HB1 : Below w.heap.size w w1 := HB.trans (hb1.mono hz)
  have hz1 := hb1.size
  have ho1 := ho.below hb1
  clear C1
  by_cases h0 : q = 0
  · have hq1 : (q != 0) = false := by simp [h0]
    have HV1 := Lib.hid (show addN l (a, b, d) = (if 20000 < x then ([], 3) else (l ++ [(a, b, d)], 0)) by rw [HV.out, if_pos h0])
    clear h0
    go_wp2_with fail
    have C2 := raw_any A' (n + 1) c' (l ++ [(a, b, d)]) w1 ho1.rd (by omega)
    rw [HX.out] at C2
    refine C2.mono ?_
    rintro e w2 ⟨rfl, hb2⟩
    have HB2 : Below w.heap.size w w2 := HB1.trans (hb2.mono HB1.size)
    have ho2 := ho1.below hb2
    clear C2
    by_cases hb : 20000 < x
    · have HV2 := Lib.hid (show addN l (a, b, d) = ([], 3) by rw [HV1.out, if_pos hb])
      go_wp2_with fail
      go_ret2
      rw [HV2.out]
      exact ⟨none, 0, 0, rfl, Nat.le_refl _, Rd.nil _ _ _ _, HB2⟩
    · have HV2 := Lib.hid (show addN l (a, b, d) = (l ++ [(a, b, d)], 0) by rw [HV1.out, if_neg hb])
      go_wp2_with fail
      go_ret2
      rw [HV2.out]
      exact ⟨A', n + 1, c', rfl, ho2.cap, ho2.rd, HB2⟩
  · have hq1 : (q != 0) = true := by simp [h0]
    have HV1 := Lib.hid (show addN l (a, b, d) = ([], q) by rw [HV.out, if_neg h0])
    clear h0
    go_wp2_with fail
    go_ret2
    rw [HV1.out]
    exact ⟨none, 0, 0, rfl, Nat.le_refl _, Rd.nil _ _ _ _, HB1⟩
set_option maxHeartbeats 1000000 in
theorem refAdd_any (A : Option Addr) (n c : Nat) (l : List Rc) (r : Rc) (w : World) (h : Rd w w.heap.size 3 A n (rcells l)) (hn : n ≤ 1000000) (hc : n ≤ c) (hcm : c ≤ 9223372036854775807) :
    Calls Try.prog 43 #[.slice A n c, recv r] w fun e w' => ∃ A' n' c', e = .returned (.tuple #[.slice A' n' c', .int .i64 (addN l r).2]) ∧ n' ≤ c' ∧ Rd w' w'.heap.size 3 A' n' (rcells (addN l r).1) ∧ Below w.heap.size w w' := by
  obtain ⟨a, b, d⟩ := r
  have g0 : Blk (w.alloc (Obj.cells #[Value.int IntKind.i64 a, Value.int IntKind.i64 b, str d] 50)) w.heap.size 50 #[Value.int IntKind.i64 a, Value.int IntKind.i64 b, str d] := Blk.new _ _ _
  have HB : Below w.heap.size w (w.alloc (Obj.cells #[Value.int IntKind.i64 a, Value.int IntKind.i64 b, str d] 50)) := (by first | exact Below.refl _ _ | (repeat (first | exact Below.refl _ _ | assumption | refine Below.drew ?_ | refine Below.drewN_ ?_ _ | refine Below.alloc ?_ (by first | exact Nat.le_refl _ | (simp; done) | (simp; omega) | omega) _ | refine Below.setCell ?_ (by first | exact Nat.le_refl _ | (simp; done) | (simp; omega) | omega) _ | (refine Below.trans ?_ (Below.mono (by assumption) (by first | exact Nat.le_refl _ | (simp; done) | (simp; omega) | omega))))))
  have hr := h.below HB
  go_enter Try.func43, Try.ntmps43
  go_wp2_with fail
  refine wp_region_held_drew (S := (fun w' => Blk w' w.heap.size 50 #[Value.int IntKind.i64 a, Value.int IntKind.i64 b, str d] ∧ w'.cell? ⟨w.heap.size, 0, none⟩ = some (.int .i64 a) ∧ w'.cell? ⟨w.heap.size, 1, none⟩ = some (.int .i64 b) ∧ w'.cell? ⟨w.heap.size, 2, none⟩ = some (str d))) (by kernel_rfl) ?_ (fun hHeld => ?_)
  · replace hr := Rd.drew hr; replace HB := Below.drew HB; replace g0 := Blk.drew g0; (try dsimp only); exact blkS3 g0
  replace hr := Rd.drew hr
  replace HB := Below.drew HB
  replace g0 := Blk.drew g0
  have zHB := HB.size
  refine take_move 1 (Operand.tmp 0) rfl rfl (by first | exact .inl rfl | exact .inr rfl) rfl (by kernel_rfl) (by kernel_rfl) (by kernel_rfl) (fun _ _ _ h => h) (by assumption) ?_
  simp only [List.setIfInBounds_toArray, List.set_cons_zero, List.set_cons_succ]
  refine take_op (v := ?vu2x3) 3 (Op.load 50 (Operand.tmp 3)) 50 rfl rfl rfl rfl rfl (by kernel_rfl) (by kernel_rfl) (by kernel_rfl) (fun _ _ _ h => h) ?yu2x3 (by assumption) ?ru2x3
  case yu2x3 => (intro w' hSw; (try dsimp only at hSw); go_simp; try (with_reducible rfl))
  simp only [List.setIfInBounds_toArray, List.set_cons_zero, List.set_cons_succ]
  refine wpAnyH_ready (rs := [0, 4]) (by kernel_rfl) (by simp) (AllReadyH.cons rfl (fun K0 hK0 => ?ku2x0) (AllReadyH.cons rfl (fun K4 hK4 => ?ku2x4) AllReadyH.nil))
  case ku2x0 =>
    refine take_build (e := 50) (len := 0) (size := 3) (w.heap.size + 1) (([] : List Value)) 0 (Op.buildSlice 48 0 #[]) 48 rfl rfl rfl (by kernel_rfl) ?eu2xb1x0 (by rfl) (by decide) (by first | exact Nat.le_refl _ | (simp only [World.size_alloc, World.size_setCell, World.size_drew] at *; omega) | omega) ?_
    case eu2xb1x0 => (go_simp; try (first | with_reducible rfl | (simp [rcells, rcell]; done) | rfl))
    intro gx0 w0 o0 gr0 l0 m0
    have z0 := gr0.size
    try simp only [World.size_drew] at z0
    replace hr := Rd.grow0 hr gr0 (by first | exact Nat.le_refl _ | (simp only [World.size_alloc, World.size_setCell, World.size_drew] at *; omega) | omega)
    replace HB := below_grow HB gr0
    have zHB0 := HB.size
    replace g0 := Blk.grow0 g0 gr0
    refine hK0.out _ _ ?su2xb1x0 (fun hHeld => ?ru2xb1x0)
    case su2xb1x0 => ((try dsimp only); exact blkS3 g0)
    try simp only [List.setIfInBounds_toArray, List.set_cons_zero, List.set_cons_succ]
    refine wpAnyH_ready (rs := [2, 4]) (by kernel_rfl) (by simp) (AllReadyH.cons rfl (fun K2 hK2 => ?ku2xb1x2) (AllReadyH.cons rfl (fun K4 hK4 => ?ku2xb1x4) AllReadyH.nil))
    case ku2xb1x2 =>
      refine take_app El_rec 2 (Operand.tmp 8) (Operand.tmp 9) 48 rfl rfl rfl (by kernel_rfl) o0 rfl (hr) rfl (rcells_one _) (by unfold maxLen; omega) (by omega) (by first | exact Nat.le_refl _ | (simp only [World.size_alloc, World.size_setCell, World.size_drew] at *; omega) | omega) ?_
      intro A2 c2 w2 o2 gr2 at2
      have z2 := gr2.size
      try simp only [World.size_drew] at z2
      replace hr := Rd.grownOwn hr gr2 o0 (by first | exact Nat.le_refl _ | (simp only [World.size_alloc, World.size_setCell, World.size_drew] at *; omega) | omega) (by first | exact Nat.le_refl _ | (simp only [World.size_alloc, World.size_setCell, World.size_drew] at *; omega) | omega)
      replace HB := below_grown HB gr2 o0 (by first | exact Nat.le_refl _ | (simp only [World.size_alloc, World.size_setCell, World.size_drew] at *; omega) | omega)
      have zHB2 := HB.size
      replace g0 := Blk.grown g0 gr2 (by intro e; have := o0.blk _ e.symm; omega)
      refine hK2.out _ _ ?su2xb1xb2x2 (fun hHeld => ?ru2xb1xb2x2)
      case su2xb1xb2x2 => ((try dsimp only); exact blkS3 g0)
      try simp only [List.setIfInBounds_toArray, List.set_cons_zero, List.set_cons_succ]
      refine wpAnyH_ready (rs := [4]) (by kernel_rfl) (by simp) (AllReadyH.cons rfl (fun K4 hK4 => ?ku2xb1xb2x4) AllReadyH.nil)
      refine take_build (e := 50) (len := 1) (size := 3) (w.heap.size + 1) (rcells [(a, b, d)]) 4 (Op.buildSlice 48 1 #[(0, Operand.tmp 11)]) 48 rfl rfl rfl (by kernel_rfl) ?eu2xb1xb2x4 (by rfl) (by decide) (by first | exact Nat.le_refl _ | (simp only [World.size_alloc, World.size_setCell, World.size_drew] at *; omega) | omega) ?_
      case eu2xb1xb2x4 => (go_simp; try (first | with_reducible rfl | (simp [rcells, rcell]; done) | rfl))
      intro gx4 w4 o4 gr4 l4 m4
      have z4 := gr4.size
      try simp only [World.size_drew] at z4
      replace hr := Rd.grow0 hr gr4 (by first | exact Nat.le_refl _ | (simp only [World.size_alloc, World.size_setCell, World.size_drew] at *; omega) | omega)
      replace HB := below_grow HB gr4
      have zHB4 := HB.size
      replace g0 := Blk.grow0 g0 gr4
      replace o2 := Own.grow0 o2 gr4
      refine hK4.out _ _ ?su2xb1xb2x4 (fun hHeld => ?ru2xb1xb2x4)
      case su2xb1xb2x4 => ((try dsimp only); exact blkS3 g0)
      try simp only [List.setIfInBounds_toArray, List.set_cons_zero, List.set_cons_succ]
      refine wpAnyH_ready (rs := [5]) (by kernel_rfl) (by simp) (AllReadyH.cons rfl (fun K5 hK5 => ?ku2xb1xb2x5) AllReadyH.nil)
      refine take_app El_rec 5 (Operand.tmp 10) (Operand.tmp 12) 48 rfl rfl rfl (by kernel_rfl) o2 rfl (o4.rd) rfl (rcells_one _) (by unfold maxLen; omega) (by omega) (by first | exact Nat.le_refl _ | (simp only [World.size_alloc, World.size_setCell, World.size_drew] at *; omega) | omega) ?_
      intro A5 c5 w5 o5 gr5 at5
      have z5 := gr5.size
      try simp only [World.size_drew] at z5
      replace hr := Rd.grownOwn hr gr5 o2 (by first | exact Nat.le_refl _ | (simp only [World.size_alloc, World.size_setCell, World.size_drew] at *; omega) | omega) (by first | exact Nat.le_refl _ | (simp only [World.size_alloc, World.size_setCell, World.size_drew] at *; omega) | omega)
      replace HB := below_grown HB gr5 o2 (by first | exact Nat.le_refl _ | (simp only [World.size_alloc, World.size_setCell, World.size_drew] at *; omega) | omega)
      have zHB5 := HB.size
      replace g0 := Blk.grown g0 gr5 (by intro e; have := o2.blk _ e.symm; omega)
      refine hK5.out _ _ ?su2xb1xb2x5 (fun hHeld => ?ru2xb1xb2x5)
      case su2xb1xb2x5 => ((try dsimp only); exact blkS3 g0)
      try simp only [List.setIfInBounds_toArray, List.set_cons_zero, List.set_cons_succ]
      refine take_op (v := ?vu2xb1xb2x6) 6 (Op.assign (Operand.tmp 13)) 48 rfl rfl rfl rfl rfl (by kernel_rfl) (by kernel_rfl) (by kernel_rfl) (fun _ _ _ h => h) ?yu2xb1xb2x6 (by assumption) ?ru2xb1xb2x6
      case yu2xb1xb2x6 => (intro w' hSw; (try dsimp only at hSw); go_simp; try (with_reducible rfl))
      simp only [List.setIfInBounds_toArray, List.set_cons_zero, List.set_cons_succ]
      refine wpAnyH_done (by kernel_rfl) ?_ _
      clear hHeld
      rw [List.nil_append, ← rcells_append] at o5
      simp only [Nat.zero_add] at o5
      obtain ⟨q, hq⟩ : ∃ q, rowN (l ++ [(a, b, d)]) = q := ⟨_, rfl⟩
      obtain ⟨x, hx⟩ : ∃ x, rawN (l ++ [(a, b, d)]) = x := ⟨_, rfl⟩
      have hx1 := rawN_le (l ++ [(a, b, d)])
      rw [hx] at hx1
      have HQ := Lib.hid hq
      have HX := Lib.hid hx
      have HV := Lib.hid (show addN l (a, b, d) = if q = 0 then (if 20000 < x then ([], 3) else (l ++ [(a, b, d)], 0)) else ([], q) by unfold addN; rw [hq, hx])
      clear hq hx
      have hro := o5.rd
      go_wp2_with fail
      have C1 := refRow_any A5 (n + 1) c5 (l ++ [(a, b, d)]) w5 hro (by omega)
      rw [HQ.out] at C1
      refine C1.mono ?_
      rintro e w1 ⟨rfl, hb1⟩
      have HB1 : Below w.heap.size w w1 := HB.trans (hb1.mono HB.size)
      have hz1 := hb1.size
      have ho1 := o5.below hb1
      clear C1
      by_cases h0 : q = 0
      · have hq1 : (q != 0) = false := by simp [h0]
        have HV1 := Lib.hid (show addN l (a, b, d) = (if 20000 < x then ([], 3) else (l ++ [(a, b, d)], 0)) by rw [HV.out, if_pos h0])
        clear h0
        go_wp2_with fail
        have C2 := refRaw_any A5 (n + 1) c5 (l ++ [(a, b, d)]) w1 ho1.rd (by omega)
        rw [HX.out] at C2
        refine C2.mono ?_
        rintro e w2 ⟨rfl, hb2⟩
        have HB2 : Below w.heap.size w w2 := HB1.trans (hb2.mono HB1.size)
        have ho2 := ho1.below hb2
        clear C2
        by_cases hb : 20000 < x
        · have HV2 := Lib.hid (show addN l (a, b, d) = ([], 3) by rw [HV1.out, if_pos hb])
          go_wp2_with fail
          go_ret2
          rw [HV2.out]
          exact ⟨none, 0, 0, rfl, Nat.le_refl _, Rd.nil _ _ _ _, HB2⟩
        · have HV2 := Lib.hid (show addN l (a, b, d) = (l ++ [(a, b, d)], 0) by rw [HV1.out, if_neg hb])
          go_wp2_with fail
          go_ret2
          rw [HV2.out]
          exact ⟨A5, n + 1, c5, rfl, ho2.cap, ho2.rd, HB2⟩
      · have hq1 : (q != 0) = true := by simp [h0]
        have HV1 := Lib.hid (show addN l (a, b, d) = ([], q) by rw [HV.out, if_neg h0])
        clear h0
        go_wp2_with fail
        go_ret2
        rw [HV1.out]
        exact ⟨none, 0, 0, rfl, Nat.le_refl _, Rd.nil _ _ _ _, HB1⟩
    case ku2xb1x4 =>
      refine take_build (e := 50) (len := 1) (size := 3) (w.heap.size + 1) (rcells [(a, b, d)]) 4 (Op.buildSlice 48 1 #[(0, Operand.tmp 11)]) 48 rfl rfl rfl (by kernel_rfl) ?eu2xb1xb5x4 (by rfl) (by decide) (by first | exact Nat.le_refl _ | (simp only [World.size_alloc, World.size_setCell, World.size_drew] at *; omega) | omega) ?_
      case eu2xb1xb5x4 => (go_simp; try (first | with_reducible rfl | (simp [rcells, rcell]; done) | rfl))
      intro gx4 w4 o4 gr4 l4 m4
      have z4 := gr4.size
      try simp only [World.size_drew] at z4
      replace hr := Rd.grow0 hr gr4 (by first | exact Nat.le_refl _ | (simp only [World.size_alloc, World.size_setCell, World.size_drew] at *; omega) | omega)
      replace HB := below_grow HB gr4
      have zHB4 := HB.size
      replace g0 := Blk.grow0 g0 gr4
      replace o0 := Own.grow0 o0 gr4
      refine hK4.out _ _ ?su2xb1xb5x4 (fun hHeld => ?ru2xb1xb5x4)
      case su2xb1xb5x4 => ((try dsimp only); exact blkS3 g0)
      try simp only [List.setIfInBounds_toArray, List.set_cons_zero, List.set_cons_succ]
      refine wpAnyH_ready (rs := [2]) (by kernel_rfl) (by simp) (AllReadyH.cons rfl (fun K2 hK2 => ?ku2xb1xb5x2) AllReadyH.nil)
      refine take_app El_rec 2 (Operand.tmp 8) (Operand.tmp 9) 48 rfl rfl rfl (by kernel_rfl) o0 rfl (hr) rfl (rcells_one _) (by unfold maxLen; omega) (by omega) (by first | exact Nat.le_refl _ | (simp only [World.size_alloc, World.size_setCell, World.size_drew] at *; omega) | omega) ?_
      intro A2 c2 w2 o2 gr2 at2
      have z2 := gr2.size
      try simp only [World.size_drew] at z2
      replace hr := Rd.grownOwn hr gr2 o0 (by first | exact Nat.le_refl _ | (simp only [World.size_alloc, World.size_setCell, World.size_drew] at *; omega) | omega) (by first | exact Nat.le_refl _ | (simp only [World.size_alloc, World.size_setCell, World.size_drew] at *; omega) | omega)
      replace HB := below_grown HB gr2 o0 (by first | exact Nat.le_refl _ | (simp only [World.size_alloc, World.size_setCell, World.size_drew] at *; omega) | omega)
      have zHB2 := HB.size
      replace g0 := Blk.grown g0 gr2 (by intro e; have := o0.blk _ e.symm; omega)
      replace o4 := Own.other o4 gr2 (by intro k hk e; simp only [blkOf, Option.map_some, Option.some.injEq] at hk e; omega)
      refine hK2.out _ _ ?su2xb1xb5x2 (fun hHeld => ?ru2xb1xb5x2)
      case su2xb1xb5x2 => ((try dsimp only); exact blkS3 g0)
      try simp only [List.setIfInBounds_toArray, List.set_cons_zero, List.set_cons_succ]
      refine wpAnyH_ready (rs := [5]) (by kernel_rfl) (by simp) (AllReadyH.cons rfl (fun K5 hK5 => ?ku2xb1xb5x5) AllReadyH.nil)
      refine take_app El_rec 5 (Operand.tmp 10) (Operand.tmp 12) 48 rfl rfl rfl (by kernel_rfl) o2 rfl (o4.rd) rfl (rcells_one _) (by unfold maxLen; omega) (by omega) (by first | exact Nat.le_refl _ | (simp only [World.size_alloc, World.size_setCell, World.size_drew] at *; omega) | omega) ?_
      intro A5 c5 w5 o5 gr5 at5
      have z5 := gr5.size
      try simp only [World.size_drew] at z5
      replace hr := Rd.grownOwn hr gr5 o2 (by first | exact Nat.le_refl _ | (simp only [World.size_alloc, World.size_setCell, World.size_drew] at *; omega) | omega) (by first | exact Nat.le_refl _ | (simp only [World.size_alloc, World.size_setCell, World.size_drew] at *; omega) | omega)
      replace HB := below_grown HB gr5 o2 (by first | exact Nat.le_refl _ | (simp only [World.size_alloc, World.size_setCell, World.size_drew] at *; omega) | omega)
      have zHB5 := HB.size
      replace g0 := Blk.grown g0 gr5 (by intro e; have := o2.blk _ e.symm; omega)
      refine hK5.out _ _ ?su2xb1xb5x5 (fun hHeld => ?ru2xb1xb5x5)
      case su2xb1xb5x5 => ((try dsimp only); exact blkS3 g0)
      try simp only [List.setIfInBounds_toArray, List.set_cons_zero, List.set_cons_succ]
      refine take_op (v := ?vu2xb1xb5x6) 6 (Op.assign (Operand.tmp 13)) 48 rfl rfl rfl rfl rfl (by kernel_rfl) (by kernel_rfl) (by kernel_rfl) (fun _ _ _ h => h) ?yu2xb1xb5x6 (by assumption) ?ru2xb1xb5x6
      case yu2xb1xb5x6 => (intro w' hSw; (try dsimp only at hSw); go_simp; try (with_reducible rfl))
      simp only [List.setIfInBounds_toArray, List.set_cons_zero, List.set_cons_succ]
      refine wpAnyH_done (by kernel_rfl) ?_ _
      clear hHeld
      rw [List.nil_append, ← rcells_append] at o5
      simp only [Nat.zero_add] at o5
      obtain ⟨q, hq⟩ : ∃ q, rowN (l ++ [(a, b, d)]) = q := ⟨_, rfl⟩
      obtain ⟨x, hx⟩ : ∃ x, rawN (l ++ [(a, b, d)]) = x := ⟨_, rfl⟩
      have hx1 := rawN_le (l ++ [(a, b, d)])
      rw [hx] at hx1
      have HQ := Lib.hid hq
      have HX := Lib.hid hx
      have HV := Lib.hid (show addN l (a, b, d) = if q = 0 then (if 20000 < x then ([], 3) else (l ++ [(a, b, d)], 0)) else ([], q) by unfold addN; rw [hq, hx])
      clear hq hx
      have hro := o5.rd
      go_wp2_with fail
      have C1 := refRow_any A5 (n + 1) c5 (l ++ [(a, b, d)]) w5 hro (by omega)
      rw [HQ.out] at C1
      refine C1.mono ?_
      rintro e w1 ⟨rfl, hb1⟩
      have HB1 : Below w.heap.size w w1 := HB.trans (hb1.mono HB.size)
      have hz1 := hb1.size
      have ho1 := o5.below hb1
      clear C1
      by_cases h0 : q = 0
      · have hq1 : (q != 0) = false := by simp [h0]
        have HV1 := Lib.hid (show addN l (a, b, d) = (if 20000 < x then ([], 3) else (l ++ [(a, b, d)], 0)) by rw [HV.out, if_pos h0])
        clear h0
        go_wp2_with fail
        have C2 := refRaw_any A5 (n + 1) c5 (l ++ [(a, b, d)]) w1 ho1.rd (by omega)
        rw [HX.out] at C2
        refine C2.mono ?_
        rintro e w2 ⟨rfl, hb2⟩
        have HB2 : Below w.heap.size w w2 := HB1.trans (hb2.mono HB1.size)
        have ho2 := ho1.below hb2
        clear C2
        by_cases hb : 20000 < x
        · have HV2 := Lib.hid (show addN l (a, b, d) = ([], 3) by rw [HV1.out, if_pos hb])
          go_wp2_with fail
          go_ret2
          rw [HV2.out]
          exact ⟨none, 0, 0, rfl, Nat.le_refl _, Rd.nil _ _ _ _, HB2⟩
        · have HV2 := Lib.hid (show addN l (a, b, d) = (l ++ [(a, b, d)], 0) by rw [HV1.out, if_neg hb])
          go_wp2_with fail
          go_ret2
          rw [HV2.out]
          exact ⟨A5, n + 1, c5, rfl, ho2.cap, ho2.rd, HB2⟩
      · have hq1 : (q != 0) = true := by simp [h0]
        have HV1 := Lib.hid (show addN l (a, b, d) = ([], q) by rw [HV.out, if_neg h0])
        clear h0
        go_wp2_with fail
        go_ret2
        rw [HV1.out]
        exact ⟨none, 0, 0, rfl, Nat.le_refl _, Rd.nil _ _ _ _, HB1⟩
  case ku2x4 =>
    refine take_build (e := 50) (len := 1) (size := 3) (w.heap.size + 1) (rcells [(a, b, d)]) 4 (Op.buildSlice 48 1 #[(0, Operand.tmp 11)]) 48 rfl rfl rfl (by kernel_rfl) ?eu2xb8x4 (by rfl) (by decide) (by first | exact Nat.le_refl _ | (simp only [World.size_alloc, World.size_setCell, World.size_drew] at *; omega) | omega) ?_
    case eu2xb8x4 => (go_simp; try (first | with_reducible rfl | (simp [rcells, rcell]; done) | rfl))
    intro gx4 w4 o4 gr4 l4 m4
    have z4 := gr4.size
    try simp only [World.size_drew] at z4
    replace hr := Rd.grow0 hr gr4 (by first | exact Nat.le_refl _ | (simp only [World.size_alloc, World.size_setCell, World.size_drew] at *; omega) | omega)
    replace HB := below_grow HB gr4
    have zHB4 := HB.size
    replace g0 := Blk.grow0 g0 gr4
    refine hK4.out _ _ ?su2xb8x4 (fun hHeld => ?ru2xb8x4)
    case su2xb8x4 => ((try dsimp only); exact blkS3 g0)
    try simp only [List.setIfInBounds_toArray, List.set_cons_zero, List.set_cons_succ]
    refine wpAnyH_ready (rs := [0]) (by kernel_rfl) (by simp) (AllReadyH.cons rfl (fun K0 hK0 => ?ku2xb8x0) AllReadyH.nil)
    refine take_build (e := 50) (len := 0) (size := 3) (w.heap.size + 1) (([] : List Value)) 0 (Op.buildSlice 48 0 #[]) 48 rfl rfl rfl (by kernel_rfl) ?eu2xb8x0 (by rfl) (by decide) (by first | exact Nat.le_refl _ | (simp only [World.size_alloc, World.size_setCell, World.size_drew] at *; omega) | omega) ?_
    case eu2xb8x0 => (go_simp; try (first | with_reducible rfl | (simp [rcells, rcell]; done) | rfl))
    intro gx0 w0 o0 gr0 l0 m0
    have z0 := gr0.size
    try simp only [World.size_drew] at z0
    replace hr := Rd.grow0 hr gr0 (by first | exact Nat.le_refl _ | (simp only [World.size_alloc, World.size_setCell, World.size_drew] at *; omega) | omega)
    replace HB := below_grow HB gr0
    have zHB0 := HB.size
    replace g0 := Blk.grow0 g0 gr0
    replace o4 := Own.grow0 o4 gr0
    refine hK0.out _ _ ?su2xb8x0 (fun hHeld => ?ru2xb8x0)
    case su2xb8x0 => ((try dsimp only); exact blkS3 g0)
    try simp only [List.setIfInBounds_toArray, List.set_cons_zero, List.set_cons_succ]
    refine wpAnyH_ready (rs := [2]) (by kernel_rfl) (by simp) (AllReadyH.cons rfl (fun K2 hK2 => ?ku2xb8x2) AllReadyH.nil)
    refine take_app El_rec 2 (Operand.tmp 8) (Operand.tmp 9) 48 rfl rfl rfl (by kernel_rfl) o0 rfl (hr) rfl (rcells_one _) (by unfold maxLen; omega) (by omega) (by first | exact Nat.le_refl _ | (simp only [World.size_alloc, World.size_setCell, World.size_drew] at *; omega) | omega) ?_
    intro A2 c2 w2 o2 gr2 at2
    have z2 := gr2.size
    try simp only [World.size_drew] at z2
    replace hr := Rd.grownOwn hr gr2 o0 (by first | exact Nat.le_refl _ | (simp only [World.size_alloc, World.size_setCell, World.size_drew] at *; omega) | omega) (by first | exact Nat.le_refl _ | (simp only [World.size_alloc, World.size_setCell, World.size_drew] at *; omega) | omega)
    replace HB := below_grown HB gr2 o0 (by first | exact Nat.le_refl _ | (simp only [World.size_alloc, World.size_setCell, World.size_drew] at *; omega) | omega)
    have zHB2 := HB.size
    replace g0 := Blk.grown g0 gr2 (by intro e; have := o0.blk _ e.symm; omega)
    replace o4 := Own.other o4 gr2 (by intro k hk e; simp only [blkOf, Option.map_some, Option.some.injEq] at hk e; omega)
    refine hK2.out _ _ ?su2xb8x2 (fun hHeld => ?ru2xb8x2)
    case su2xb8x2 => ((try dsimp only); exact blkS3 g0)
    try simp only [List.setIfInBounds_toArray, List.set_cons_zero, List.set_cons_succ]
    refine wpAnyH_ready (rs := [5]) (by kernel_rfl) (by simp) (AllReadyH.cons rfl (fun K5 hK5 => ?ku2xb8x5) AllReadyH.nil)
    refine take_app El_rec 5 (Operand.tmp 10) (Operand.tmp 12) 48 rfl rfl rfl (by kernel_rfl) o2 rfl (o4.rd) rfl (rcells_one _) (by unfold maxLen; omega) (by omega) (by first | exact Nat.le_refl _ | (simp only [World.size_alloc, World.size_setCell, World.size_drew] at *; omega) | omega) ?_
    intro A5 c5 w5 o5 gr5 at5
    have z5 := gr5.size
    try simp only [World.size_drew] at z5
    replace hr := Rd.grownOwn hr gr5 o2 (by first | exact Nat.le_refl _ | (simp only [World.size_alloc, World.size_setCell, World.size_drew] at *; omega) | omega) (by first | exact Nat.le_refl _ | (simp only [World.size_alloc, World.size_setCell, World.size_drew] at *; omega) | omega)
    replace HB := below_grown HB gr5 o2 (by first | exact Nat.le_refl _ | (simp only [World.size_alloc, World.size_setCell, World.size_drew] at *; omega) | omega)
    have zHB5 := HB.size
    replace g0 := Blk.grown g0 gr5 (by intro e; have := o2.blk _ e.symm; omega)
    refine hK5.out _ _ ?su2xb8x5 (fun hHeld => ?ru2xb8x5)
    case su2xb8x5 => ((try dsimp only); exact blkS3 g0)
    try simp only [List.setIfInBounds_toArray, List.set_cons_zero, List.set_cons_succ]
    refine take_op (v := ?vu2xb8x6) 6 (Op.assign (Operand.tmp 13)) 48 rfl rfl rfl rfl rfl (by kernel_rfl) (by kernel_rfl) (by kernel_rfl) (fun _ _ _ h => h) ?yu2xb8x6 (by assumption) ?ru2xb8x6
    case yu2xb8x6 => (intro w' hSw; (try dsimp only at hSw); go_simp; try (with_reducible rfl))
    simp only [List.setIfInBounds_toArray, List.set_cons_zero, List.set_cons_succ]
    refine wpAnyH_done (by kernel_rfl) ?_ _
    clear hHeld
    rw [List.nil_append, ← rcells_append] at o5
    simp only [Nat.zero_add] at o5
    obtain ⟨q, hq⟩ : ∃ q, rowN (l ++ [(a, b, d)]) = q := ⟨_, rfl⟩
    obtain ⟨x, hx⟩ : ∃ x, rawN (l ++ [(a, b, d)]) = x := ⟨_, rfl⟩
    have hx1 := rawN_le (l ++ [(a, b, d)])
    rw [hx] at hx1
    have HQ := Lib.hid hq
    have HX := Lib.hid hx
    have HV := Lib.hid (show addN l (a, b, d) = if q = 0 then (if 20000 < x then ([], 3) else (l ++ [(a, b, d)], 0)) else ([], q) by unfold addN; rw [hq, hx])
    clear hq hx
    have hro := o5.rd
    go_wp2_with fail
    have C1 := refRow_any A5 (n + 1) c5 (l ++ [(a, b, d)]) w5 hro (by omega)
    rw [HQ.out] at C1
    refine C1.mono ?_
    rintro e w1 ⟨rfl, hb1⟩
    have HB1 : Below w.heap.size w w1 := HB.trans (hb1.mono HB.size)
    have hz1 := hb1.size
    have ho1 := o5.below hb1
    clear C1
    by_cases h0 : q = 0
    · have hq1 : (q != 0) = false := by simp [h0]
      have HV1 := Lib.hid (show addN l (a, b, d) = (if 20000 < x then ([], 3) else (l ++ [(a, b, d)], 0)) by rw [HV.out, if_pos h0])
      clear h0
      go_wp2_with fail
      have C2 := refRaw_any A5 (n + 1) c5 (l ++ [(a, b, d)]) w1 ho1.rd (by omega)
      rw [HX.out] at C2
      refine C2.mono ?_
      rintro e w2 ⟨rfl, hb2⟩
      have HB2 : Below w.heap.size w w2 := HB1.trans (hb2.mono HB1.size)
      have ho2 := ho1.below hb2
      clear C2
      by_cases hb : 20000 < x
      · have HV2 := Lib.hid (show addN l (a, b, d) = ([], 3) by rw [HV1.out, if_pos hb])
        go_wp2_with fail
        go_ret2
        rw [HV2.out]
        exact ⟨none, 0, 0, rfl, Nat.le_refl _, Rd.nil _ _ _ _, HB2⟩
      · have HV2 := Lib.hid (show addN l (a, b, d) = (l ++ [(a, b, d)], 0) by rw [HV1.out, if_neg hb])
        go_wp2_with fail
        go_ret2
        rw [HV2.out]
        exact ⟨A5, n + 1, c5, rfl, ho2.cap, ho2.rd, HB2⟩
    · have hq1 : (q != 0) = true := by simp [h0]
      have HV1 := Lib.hid (show addN l (a, b, d) = ([], q) by rw [HV.out, if_neg h0])
      clear h0
      go_wp2_with fail
      go_ret2
      rw [HV1.out]
      exact ⟨none, 0, 0, rfl, Nat.le_refl _, Rd.nil _ _ _ _, HB1⟩

theorem add_eq (A : Option Addr) (n c : Nat) (l : List Rc) (r : Rc) (v : List Rc × Int) (hv : addN l r = v) (w : World) (h : Rd w w.heap.size 3 A n (rcells l)) (hn : n ≤ 1000000) (hc : n ≤ c) (hcm : c ≤ 9223372036854775807) :
    Calls Try.prog 42 #[.slice A n c, recv r] w fun e w' => ∃ A' n' c', e = .returned (.tuple #[.slice A' n' c', .int .i64 v.2]) ∧ n' ≤ c' ∧ Rd w' w'.heap.size 3 A' n' (rcells v.1) ∧ Below w.heap.size w w' := hv ▸ add_any A n c l r w h hn hc hcm
theorem refAdd_eq (A : Option Addr) (n c : Nat) (l : List Rc) (r : Rc) (v : List Rc × Int) (hv : addN l r = v) (w : World) (h : Rd w w.heap.size 3 A n (rcells l)) (hn : n ≤ 1000000) (hc : n ≤ c) (hcm : c ≤ 9223372036854775807) :
    Calls Try.prog 43 #[.slice A n c, recv r] w fun e w' => ∃ A' n' c', e = .returned (.tuple #[.slice A' n' c', .int .i64 v.2]) ∧ n' ≤ c' ∧ Rd w' w'.heap.size 3 A' n' (rcells v.1) ∧ Below w.heap.size w w' := hv ▸ refAdd_any A n c l r w h hn hc hcm
end RecW
end Go.Proofs.Ytehlgpfkpagaeaa
