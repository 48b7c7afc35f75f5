/- The walks of package skip: is a record a hit? The reference's walks of package skip: its numbers, a hit. -/
import Derived.Test.YtnpncpoiiikafaaGreatQyWQb
import Derived.Test.YtnpncpoiiikafaaGreatZruPQb
import Derived.Test.YtnpncpoiiikafaaGreatSkpBQb
import Derived.Test.YtnpncpoiiikafaaGreatZrPQb
namespace Go.Proofs.YtnpncpoiiikafaaGreat
set_option linter.unusedVariables false
set_option linter.unusedSimpArgs false
set_option linter.unnecessarySimpa false
open Go.RowKit
namespace SkpW
open SpanW (R rv trimR hasB)
open KmpW (kin)

def hitA (a : Qy × R) (r : Rc) : Bool := hasB a.2.1 a.2.2 r.1 && (hasB a.1.t1 a.1.t2 r.2.1 && kin a.1.find r.2.2)
set_option maxRecDepth 100000 in
set_option maxHeartbeats 2000000 in
theorem hit_any (a : Qy × R) (r : Rc) (b : Bool) (hb : hitA a r = b) (w : World) (hf : a.1.find.length ≤ 100000) (hd : r.2.2.length ≤ 100000) :
    Calls Tryz.prog 68 #[av a, recv r] w fun e w' => e = .returned (.bool b) ∧ Below w.heap.size w w' := by
  obtain ⟨⟨s1, s2, t1, t2, fd, li, fr⟩, r1, r2⟩ := a
  obtain ⟨sq, tk, dt⟩ := r
  dsimp only [hitA] at hb hf hd
  have b0 := (Blk.new w 129 #[.int .i64 s1, .int .i64 s2, .int .i64 t1, .int .i64 t2, str fd, .int .i64 li, .int .i64 fr, .int .i64 r1, .int .i64 r2]).alloc (.cells #[.int .i64 sq, .int .i64 tk, str dt] 98)
  have b1 := Blk.new (w.alloc (.cells #[.int .i64 s1, .int .i64 s2, .int .i64 t1, .int .i64 t2, str fd, .int .i64 li, .int .i64 fr, .int .i64 r1, .int .i64 r2] 129)) 98 #[.int .i64 sq, .int .i64 tk, str dt]
  rw [World.size_alloc] at b1
  have HB : Below w.heap.size w ((w.alloc (.cells #[.int .i64 s1, .int .i64 s2, .int .i64 t1, .int .i64 t2, str fd, .int .i64 li, .int .i64 fr, .int .i64 r1, .int .i64 r2] 129)).alloc (.cells #[.int .i64 sq, .int .i64 tk, str dt] 98)) := (by first | exact Below.refl _ _ | (repeat (first | exact Below.refl _ _ | assumption | refine Below.drew ?_ | refine Below.drewN_ ?_ _ | refine Below.alloc ?_ (by first | exact Nat.le_refl _ | (simp; done) | (simp; omega) | omega) _ | refine Below.setCell ?_ (by first | exact Nat.le_refl _ | (simp; done) | (simp; omega) | omega) _ | (refine Below.trans ?_ (Below.mono (by assumption) (by first | exact Nat.le_refl _ | (simp; done) | (simp; omega) | omega))))))
  obtain ⟨x, hx⟩ : ∃ x, hasB r1 r2 sq = x := ⟨_, rfl⟩
  obtain ⟨y, hy⟩ : ∃ y, hasB t1 t2 tk = y := ⟨_, rfl⟩
  have C1 := fun w => SpanW.has_eq r1 r2 sq x hx w
  have C2 := fun w => SpanW.has_eq t1 t2 tk y hy w
  have C3 := fun w => KmpW.has_any dt fd w hf hd
  rw [hx, hy] at hb
  subst hb
  clear hx hy
  go_enter Tryz.func68, Tryz.ntmps68
  go_wp2_with fail
  refine (C1 _).mono ?_
  clear C1
  rintro e w1 ⟨rfl, hb1⟩
  replace b0 := b0.below hb1 b0.lt
  replace b1 := b1.below hb1 b1.lt
  replace HB := HB.trans (hb1.mono HB.size)
  clear hb1
  cases x with
  | false =>
    go_wp2_with fail
    go_ret
    exact ⟨rfl, HB⟩
  | true =>
    obtain ⟨⟨c0, c1, c2, c3, c4, c5, c6, c7, c8⟩, _⟩ := blk9 b0
    have b1' := b1
    obtain ⟨k0, k1, k2, _, _, _, _⟩ := blk3 b1'
    clear b1'
    go_wp2_with fail
    refine (C2 _).mono ?_
    clear C2
    rintro e w2 ⟨rfl, hb2⟩
    replace b0 := b0.below hb2 b0.lt
    replace b1 := b1.below hb2 b1.lt
    replace HB := HB.trans (hb2.mono HB.size)
    clear hb2 c0 c1 c2 c3 c4 c5 c6 c7 c8 k0 k1 k2
    cases y with
    | false =>
      go_wp2_with fail
      go_ret
      exact ⟨rfl, HB⟩
    | true =>
      obtain ⟨⟨c0, c1, c2, c3, c4, c5, c6, c7, c8⟩, _⟩ := blk9 b0
      have b1' := b1
      obtain ⟨k0, k1, k2, _, _, _, _⟩ := blk3 b1'
      clear b1'
      go_wp2_with fail
      refine (C3 _).mono ?_
      clear C3
      rintro e w3 ⟨rfl, hb3⟩
      replace HB := HB.trans (hb3.mono HB.size)
      go_wp2_with fail
      go_ret
      exact ⟨rfl, HB⟩
abbrev hitF (a : Qy × R) : Value := .func (.func 68) #[av a] #[]
theorem of_find (q : Qy) : (ofQ q).1.find.length ≤ q.find.length := by
  unfold ofQ
  split <;> simp
set_option maxRecDepth 100000 in
set_option maxHeartbeats 2000000 in
theorem Hit_any (q : Qy) (r : Rc) (w : World) (hf : q.find.length ≤ 100000) (hd : r.2.2.length ≤ 100000) :
    Calls Tryz.prog 63 #[qv q, recv r] w fun e w' => e = .returned (.bool (hitA (ofQ q) r)) ∧ Below w.heap.size w w' := by
  have hmf : ∀ (fn : Fn) (first cap : Array Value) (w : World), (Instr.makeFunc fn first cap).run Tryz.prog w = .ok (.func fn first cap) w := fun _ _ _ _ => rfl
  have hfl := of_find q
  have C := fun w => of_any q w
  have C2 := fun w => hit_any (ofQ q) r _ rfl w (by omega) hd
  obtain ⟨sq, tk, dt⟩ := r
  have b1 := Blk.new (w.alloc (.cells (qc q) 58)) 98 #[.int .i64 sq, .int .i64 tk, str dt]
  rw [World.size_alloc] at b1
  have HB : Below w.heap.size w ((w.alloc (.cells (qc q) 58)).alloc (.cells #[.int .i64 sq, .int .i64 tk, str dt] 98)) := (by first | exact Below.refl _ _ | (repeat (first | exact Below.refl _ _ | assumption | refine Below.drew ?_ | refine Below.drewN_ ?_ _ | refine Below.alloc ?_ (by first | exact Nat.le_refl _ | (simp; done) | (simp; omega) | omega) _ | refine Below.setCell ?_ (by first | exact Nat.le_refl _ | (simp; done) | (simp; omega) | omega) _ | (refine Below.trans ?_ (Below.mono (by assumption) (by first | exact Nat.le_refl _ | (simp; done) | (simp; omega) | omega))))))
  generalize hitA (ofQ q) (sq, tk, dt) = hv at *
  generalize ofQ q = a at *
  clear hfl
  go_enter Tryz.func63, Tryz.ntmps63
  go_wp2_with fail
  refine (C _).mono ?_
  clear C
  rintro e w1 ⟨rfl, hb1⟩
  replace b1 := b1.below hb1 b1.lt
  replace HB := HB.trans (hb1.mono HB.size)
  have b1' := b1
  obtain ⟨k0, k1, k2, _, _, _, _⟩ := blk3 b1'
  clear b1' hb1
  go_wp2_with fail
  refine (C2 _).mono ?_
  clear C2
  rintro e w2 ⟨rfl, hb2⟩
  replace HB := HB.trans (hb2.mono HB.size)
  go_wp2_with fail
  go_ret
  exact ⟨rfl, HB⟩
end SkpW
end Go.Proofs.YtnpncpoiiikafaaGreat

namespace Go.Proofs.YtnpncpoiiikafaaGreat
set_option linter.unusedVariables false
set_option linter.unusedSimpArgs false
set_option linter.unnecessarySimpa false
open Go.RowKit
namespace SkpW
open SpanW (R rv trimR hasB)
open KmpW (kin)

end SkpW
end Go.Proofs.YtnpncpoiiikafaaGreat

namespace Go.Proofs.YtnpncpoiiikafaaGreat
set_option linter.unusedVariables false
set_option linter.unusedSimpArgs false
set_option linter.unnecessarySimpa false
namespace SkpW
open SpanW (R rv meetsB emptyB hasB)

theorem meets_of2 {p s : R} {x : Int} (h1 : hasB p.1 p.2 x = true) (h2 : s.1 ≤ x ∧ x ≤ s.2) : meetsB p s = true := by
  unfold hasB at h1
  simp only [Bool.and_eq_true, decide_eq_true_eq] at h1
  rw [SpanW.meets_eq]
  simp only [emptyB, Bool.and_eq_true, Bool.not_eq_true', decide_eq_false_iff_not, decide_eq_true_eq]
  omega
/-- Where a record stands in its block: its number, its time. -/
theorem blk_in {l : List Rc} (hr : rowN l = 0) (hl : 0 < l.length) (i : Nat) (hi : i < l.length) (m : Me) (h1 : m.count = l.length) (h2 : m.first = (l[0]'hl).1) (h3 : m.early = (l[0]'hl).2.1) (h4 : m.late = (l[l.length - 1]'(by omega)).2.1) :
    ((sM m.count m.first).1 ≤ l[i].1 ∧ l[i].1 ≤ (sM m.count m.first).2) ∧ ((tM m.count m.early m.late).1 ≤ l[i].2.1 ∧ l[i].2.1 ≤ (tM m.count m.early m.late).2) := by
  obtain ⟨s1, s2⟩ := row_span hr i hi
  have s3 := s2 (l.length - 1) (by omega) (by omega)
  have s4 := (row_span hr 0 hl).2 i hi (by omega)
  have hok := (okR_iff _).1 (rowFrom_ok hr _ (List.getElem_mem hl))
  have hok2 := (okR_iff _).1 (rowFrom_ok hr _ (List.getElem_mem hi))
  rw [h1, h2, h3, h4]
  unfold sM tM
  have hc : ¬ ((l.length : Int) < 1) := by omega
  simp only [if_neg hc]
  constructor
  · by_cases c : (9223372036854775807 : Int) - ((l.length : Int) - (1 : Int)) < (l[0]'hl).1
    · rw [if_pos c]
      show (l[0]'hl).1 ≤ l[i].1 ∧ l[i].1 ≤ 9223372036854775807
      omega
    · rw [if_neg c]
      show (l[0]'hl).1 ≤ l[i].1 ∧ l[i].1 ≤ (l[0]'hl).1 + ((l.length : Int) - 1)
      omega
  · show (l[0]'hl).2.1 ≤ l[i].2.1 ∧ l[i].2.1 ≤ (l[l.length - 1]'(by omega)).2.1
    omega
theorem blk_hit (q : Qy) (l : List Rc) (hr : rowN l = 0) (hl : 0 < l.length) (hh : 0 < (l.filter (hitA (ofQ q))).length) (m : Me) (h1 : m.count = l.length) (h2 : m.first = (l[0]'hl).1) (h3 : m.early = (l[0]'hl).2.1) (h4 : m.late = (l[l.length - 1]'(by omega)).2.1) : blockB q m = true := by
  obtain ⟨r, hr1⟩ := List.exists_mem_of_ne_nil _ (List.length_pos_iff.1 hh)
  obtain ⟨hmem, hit⟩ := List.mem_filter.1 hr1
  obtain ⟨i, hi, rfl⟩ := List.mem_iff_getElem.1 hmem
  unfold hitA at hit
  simp only [Bool.and_eq_true] at hit
  obtain ⟨k1, k2, _⟩ := hit
  obtain ⟨b1, b2⟩ := blk_in hr hl i hi m h1 h2 h3 h4
  unfold blockB meetsA
  rw [Bool.and_eq_true]
  exact ⟨meets_of2 k1 b1, meets_of2 k2 b2⟩
end SkpW
end Go.Proofs.YtnpncpoiiikafaaGreat
