/- The walks of package skip: is a record a hit? The reference's walks of package skip: its numbers, a hit. -/
import Derived.Test.YtnghmcadhjneeaaSkpO
import Derived.Test.YtnghmcadhjneeaaRecP
import Derived.Test.YtnghmcadhjneeaaSpanP
namespace Go.Proofs.Ytnghmcadhjneeaa
set_option linter.unusedVariables false
set_option linter.unusedSimpArgs false
set_option linter.unnecessarySimpa false
open Go.RowKit
namespace SkpW
open SpanW (R rv trimR hasB)
open KmpW (kin)

def hitA (a : Qy × R) (r : Rc) : Bool := hasB a.2.1 a.2.2 r.1 && (hasB a.1.t1 a.1.t2 r.2.1 && kin a.1.find r.2.2)
set_option maxRecDepth 100000 in
set_option maxHeartbeats 2000000 in
theorem hit_any (a : Qy × R) (r : Rc) (b : Bool) (hb : hitA a r = b) (w : World) (hf : a.1.find.length ≤ 100000) (hd : r.2.2.length ≤ 100000) :
    Calls Try.prog 70 #[av a, recv r] w fun e w' => e = .returned (.bool b) ∧ Below w.heap.size w w' := by
  obtain ⟨⟨s1, s2, t1, t2, fd, li, fr⟩, r1, r2⟩ := a
  obtain ⟨sq, tk, dt⟩ := r
  dsimp only [hitA] at hb hf hd
  have b0 := (Blk.new w 119 #[.int .i64 s1, .int .i64 s2, .int .i64 t1, .int .i64 t2, str fd, .int .i64 li, .int .i64 fr, .int .i64 r1, .int .i64 r2]).alloc (.cells #[.int .i64 sq, .int .i64 tk, str dt] 26)
  have b1 := Blk.new (w.alloc (.cells #[.int .i64 s1, .int .i64 s2, .int .i64 t1, .int .i64 t2, str fd, .int .i64 li, .int .i64 fr, .int .i64 r1, .int .i64 r2] 119)) 26 #[.int .i64 sq, .int .i64 tk, str dt]
  rw [World.size_alloc] at b1
  have HB : Below w.heap.size w ((w.alloc (.cells #[.int .i64 s1, .int .i64 s2, .int .i64 t1, .int .i64 t2, str fd, .int .i64 li, .int .i64 fr, .int .i64 r1, .int .i64 r2] 119)).alloc (.cells #[.int .i64 sq, .int .i64 tk, str dt] 26)) := (by first | exact Below.refl _ _ | (repeat (first | exact Below.refl _ _ | assumption | refine Below.drew ?_ | refine Below.drewN_ ?_ _ | refine Below.alloc ?_ (by first | exact Nat.le_refl _ | (simp; done) | (simp; omega) | omega) _ | refine Below.setCell ?_ (by first | exact Nat.le_refl _ | (simp; done) | (simp; omega) | omega) _ | (refine Below.trans ?_ (Below.mono (by assumption) (by first | exact Nat.le_refl _ | (simp; done) | (simp; omega) | omega))))))
  obtain ⟨x, hx⟩ : ∃ x, hasB r1 r2 sq = x := ⟨_, rfl⟩
  obtain ⟨y, hy⟩ : ∃ y, hasB t1 t2 tk = y := ⟨_, rfl⟩
  have C1 := fun w => SpanW.has_eq r1 r2 sq x hx w
  have C2 := fun w => SpanW.has_eq t1 t2 tk y hy w
  have C3 := fun w => KmpW.has_any dt fd w hf hd
  rw [hx, hy] at hb
  subst hb
  clear hx hy
  go_enter Try.func70, Try.ntmps70
  go_wp2_with fail
  refine (C1 _).mono ?_
  clear C1
  rintro e w1 ⟨rfl, hb1⟩
  replace b0 := b0.below hb1 b0.lt
  replace b1 := b1.below hb1 b1.lt
  replace HB := HB.trans (hb1.mono HB.size)
  clear hb1
  cases x with
  | false =>
    go_wp2_with fail
    go_ret
    exact ⟨rfl, HB⟩
  | true =>
    obtain ⟨⟨c0, c1, c2, c3, c4, c5, c6, c7, c8⟩, _⟩ := blk9 b0
    have b1' := b1
    obtain ⟨k0, k1, k2, _, _, _, _⟩ := blk3 b1'
    clear b1'
    go_wp2_with fail
    refine (C2 _).mono ?_
    clear C2
    rintro e w2 ⟨rfl, hb2⟩
    replace b0 := b0.below hb2 b0.lt
    replace b1 := b1.below hb2 b1.lt
    replace HB := HB.trans (hb2.mono HB.size)
    clear hb2 c0 c1 c2 c3 c4 c5 c6 c7 c8 k0 k1 k2
    cases y with
    | false =>
      go_wp2_with fail
      go_ret
      exact ⟨rfl, HB⟩
    | true =>
      obtain ⟨⟨c0, c1, c2, c3, c4, c5, c6, c7, c8⟩, _⟩ := blk9 b0
      have b1' := b1
      obtain ⟨k0, k1, k2, _, _, _, _⟩ := blk3 b1'
      clear b1'
      go_wp2_with fail
      refine (C3 _).mono ?_
      clear C3
      rintro e w3 ⟨rfl, hb3⟩
      replace HB := HB.trans (hb3.mono HB.size)
      go_wp2_with fail
      go_ret
      exact ⟨rfl, HB⟩
abbrev hitF (a : Qy × R) : Value := .func (.func 70) #[av a] #[]
theorem of_find (q : Qy) : (ofQ q).1.find.length ≤ q.find.length := by
  unfold ofQ
  split <;> simp
set_option maxRecDepth 100000 in
set_option maxHeartbeats 2000000 in
theorem Hit_any (q : Qy) (r : Rc) (w : World) (hf : q.find.length ≤ 100000) (hd : r.2.2.length ≤ 100000) :
    Calls Try.prog 33 #[qv q, recv r] w fun e w' => e = .returned (.bool (hitA (ofQ q) r)) ∧ Below w.heap.size w w' := by
  have hmf : ∀ (fn : Fn) (first cap : Array Value) (w : World), (Instr.makeFunc fn first cap).run Try.prog w = .ok (.func fn first cap) w := fun _ _ _ _ => rfl
  have hfl := of_find q
  have C := fun w => of_any q w
  have C2 := fun w => hit_any (ofQ q) r _ rfl w (by omega) hd
  obtain ⟨sq, tk, dt⟩ := r
  have b1 := Blk.new (w.alloc (.cells (qc q) 67)) 26 #[.int .i64 sq, .int .i64 tk, str dt]
  rw [World.size_alloc] at b1
  have HB : Below w.heap.size w ((w.alloc (.cells (qc q) 67)).alloc (.cells #[.int .i64 sq, .int .i64 tk, str dt] 26)) := (by first | exact Below.refl _ _ | (repeat (first | exact Below.refl _ _ | assumption | refine Below.drew ?_ | refine Below.drewN_ ?_ _ | refine Below.alloc ?_ (by first | exact Nat.le_refl _ | (simp; done) | (simp; omega) | omega) _ | refine Below.setCell ?_ (by first | exact Nat.le_refl _ | (simp; done) | (simp; omega) | omega) _ | (refine Below.trans ?_ (Below.mono (by assumption) (by first | exact Nat.le_refl _ | (simp; done) | (simp; omega) | omega))))))
  generalize hitA (ofQ q) (sq, tk, dt) = hv at *
  generalize ofQ q = a at *
  clear hfl
  go_enter Try.func33, Try.ntmps33
  go_wp2_with fail
  refine (C _).mono ?_
  clear C
  rintro e w1 ⟨rfl, hb1⟩
  replace b1 := b1.below hb1 b1.lt
  replace HB := HB.trans (hb1.mono HB.size)
  have b1' := b1
  obtain ⟨k0, k1, k2, _, _, _, _⟩ := blk3 b1'
  clear b1' hb1
  go_wp2_with fail
  refine (C2 _).mono ?_
  clear C2
  rintro e w2 ⟨rfl, hb2⟩
  replace HB := HB.trans (hb2.mono HB.size)
  go_wp2_with fail
  go_ret
  exact ⟨rfl, HB⟩
end SkpW
end Go.Proofs.Ytnghmcadhjneeaa

namespace Go.Proofs.Ytnghmcadhjneeaa
set_option linter.unusedVariables false
set_option linter.unusedSimpArgs false
set_option linter.unnecessarySimpa false
open Go.RowKit
namespace SkpW
open SpanW (R rv trimR hasB)
open KmpW (kin)

def hitR (q : Qy) (r : Rc) : Bool := decide (chkQ q = 0) && (decide (q.frm ≤ r.1) && (hasB q.s1 q.s2 r.1 && (hasB q.t1 q.t2 r.2.1 && kin q.find r.2.2)))
theorem hit_eq (q : Qy) (r : Rc) (h : I64 r.1) : hitA (ofQ q) r = hitR q r := by
  obtain ⟨_, h2⟩ := h
  unfold hitA hitR ofQ
  by_cases hc : chkQ q = 0
  · rw [if_pos hc]
    dsimp only
    have : hasB (trimR (q.s1, q.s2) q.frm).1 (trimR (q.s1, q.s2) q.frm).2 r.1 = (decide (q.frm ≤ r.1) && hasB q.s1 q.s2 r.1) := by
      rw [trimR, SpanW.has_both]
      simp only [SpanW.hasB]
      have h3 : r.1 ≤ 9223372036854775807 := by omega
      simp only [h3, decide_true, Bool.and_true]
      rw [Bool.and_comm]
    rw [this, hc]
    simp [Bool.and_assoc]
  · rw [if_neg hc]
    have hz : hasB 1 0 r.1 = false := by simp [SpanW.hasB]; omega
    dsimp only
    rw [hz, decide_eq_false hc]
    rfl
theorem refHas_eq (lo hi n : Int) (v : Bool) (h : hasB lo hi n = v) (w : World) :
    Calls Try.prog 71 #[rng lo hi, .int .i64 n] w fun e w' => e = .returned (.bool v) ∧ Below w.heap.size w w' := h ▸ SpanW.refHas_any lo hi n w

set_option maxRecDepth 100000 in
set_option maxHeartbeats 2000000 in
theorem refHit_any (q : Qy) (r : Rc) (b : Bool) (hb : hitR q r = b) (w : World) (hf : q.find.length ≤ 100000) (hd : r.2.2.length ≤ 100000) :
    Calls Try.prog 34 #[qv q, recv r] w fun e w' => e = .returned (.bool b) ∧ Below w.heap.size w w' := by
  obtain ⟨e0, he⟩ : ∃ e, chkQ q = e := ⟨_, rfl⟩
  have C0 := fun w => refCheck_any q e0 he w
  obtain ⟨s1, s2, t1, t2, fd, li, fr⟩ := q
  obtain ⟨sq, tk, dt⟩ := r
  unfold hitR at hb
  rw [he] at hb
  dsimp only at hb hf hd
  have b0 := (Blk.new w 67 #[.int .i64 s1, .int .i64 s2, .int .i64 t1, .int .i64 t2, str fd, .int .i64 li, .int .i64 fr]).alloc (.cells #[.int .i64 sq, .int .i64 tk, str dt] 26)
  have b1 := Blk.new (w.alloc (.cells #[.int .i64 s1, .int .i64 s2, .int .i64 t1, .int .i64 t2, str fd, .int .i64 li, .int .i64 fr] 67)) 26 #[.int .i64 sq, .int .i64 tk, str dt]
  rw [World.size_alloc] at b1
  have HB : Below w.heap.size w ((w.alloc (.cells #[.int .i64 s1, .int .i64 s2, .int .i64 t1, .int .i64 t2, str fd, .int .i64 li, .int .i64 fr] 67)).alloc (.cells #[.int .i64 sq, .int .i64 tk, str dt] 26)) := (by first | exact Below.refl _ _ | (repeat (first | exact Below.refl _ _ | assumption | refine Below.drew ?_ | refine Below.drewN_ ?_ _ | refine Below.alloc ?_ (by first | exact Nat.le_refl _ | (simp; done) | (simp; omega) | omega) _ | refine Below.setCell ?_ (by first | exact Nat.le_refl _ | (simp; done) | (simp; omega) | omega) _ | (refine Below.trans ?_ (Below.mono (by assumption) (by first | exact Nat.le_refl _ | (simp; done) | (simp; omega) | omega))))))
  obtain ⟨x, hx⟩ : ∃ x, hasB s1 s2 sq = x := ⟨_, rfl⟩
  obtain ⟨y, hy⟩ : ∃ y, hasB t1 t2 tk = y := ⟨_, rfl⟩
  have C1 := fun w => refHas_eq s1 s2 sq x hx w
  have C2 := fun w => refHas_eq t1 t2 tk y hy w
  have C3 := fun w => KmpW.refHas_any dt fd w hf hd
  rw [hx, hy] at hb
  clear hx hy he
  go_enter Try.func34, Try.ntmps34
  go_wp2_with fail
  refine (C0 _).mono ?_
  clear C0
  rintro e w1 ⟨rfl, hb1⟩
  replace b0 := b0.below hb1 b0.lt
  replace b1 := b1.below hb1 b1.lt
  replace HB := HB.trans (hb1.mono HB.size)
  clear hb1
  have b0' := b0
  have b1' := b1
  obtain ⟨c0, c1, c2, c3, c4, c5, c6⟩ := blk7 b0'
  obtain ⟨k0, k1, k2, _, _, _, _⟩ := blk3 b1'
  clear b0' b1'
  by_cases hz : e0 = 0
  · subst hz
    by_cases hfr : fr ≤ sq
    · have hb : (x && (y && kin fd dt)) = b := by simpa [hfr] using hb
      subst hb
      go_wp2_with fail
      refine (C1 _).mono ?_
      clear C1
      rintro e w2 ⟨rfl, hb2⟩
      replace b0 := b0.below hb2 b0.lt
      replace b1 := b1.below hb2 b1.lt
      replace HB := HB.trans (hb2.mono HB.size)
      clear hb2 c0 c1 c2 c3 c4 c5 c6 k0 k1 k2
      cases x with
      | false =>
        go_wp2_with fail
        go_ret
        exact ⟨rfl, HB⟩
      | true =>
        have b0' := b0
        have b1' := b1
        obtain ⟨c0, c1, c2, c3, c4, c5, c6⟩ := blk7 b0'
        obtain ⟨k0, k1, k2, _, _, _, _⟩ := blk3 b1'
        clear b0' b1'
        go_wp2_with fail
        refine (C2 _).mono ?_
        clear C2
        rintro e w3 ⟨rfl, hb3⟩
        replace b0 := b0.below hb3 b0.lt
        replace b1 := b1.below hb3 b1.lt
        replace HB := HB.trans (hb3.mono HB.size)
        clear hb3 c0 c1 c2 c3 c4 c5 c6 k0 k1 k2
        cases y with
        | false =>
          go_wp2_with fail
          go_ret
          exact ⟨rfl, HB⟩
        | true =>
          obtain ⟨c0, c1, c2, c3, c4, c5, c6⟩ := blk7 b0
          obtain ⟨k0, k1, k2, _, _, _, _⟩ := blk3 b1
          go_wp2_with fail
          refine (C3 _).mono ?_
          clear C3
          rintro e w4 ⟨rfl, rfl⟩
          go_wp2_with fail
          go_ret
          exact ⟨rfl, HB⟩
    · have hb : false = b := by simpa [hfr] using hb
      subst hb
      go_wp2_with fail
      go_ret
      exact ⟨rfl, HB⟩
  · have hb : false = b := by simpa [hz] using hb
    have hzI : (e0 == 0) = false := by simp [hz]
    subst hb
    go_wp2_with fail
    go_ret
    exact ⟨rfl, HB⟩
end SkpW
end Go.Proofs.Ytnghmcadhjneeaa
