/- The walks of the law of package skip: its fixed answers. -/
import Derived.Test.YtnpncpoiiikafaaGreatSkpPQb
import Derived.Test.YtnpncpoiiikafaaGreatSkpUQb
import Derived.Test.YtnpncpoiiikafaaGreatHufAQb
import Derived.Test.YtnpncpoiiikafaaGreatZruPQb
import Derived.Deep.Strs
import Derived.Test.YtnpncpoiiikafaaGreatQyWQb
import Derived.Test.YtnpncpoiiikafaaGreatRecLQb
import Derived.Test.YtnpncpoiiikafaaGreatZrPQb
namespace Go.Proofs.YtnpncpoiiikafaaGreat
set_option linter.unusedVariables false
set_option linter.unusedSimpArgs false
set_option linter.unnecessarySimpa false
open Go.RowKit
namespace SkpW
open SpanW (R rv)

abbrev Q0 : Qy := ⟨1, 9, 0, 99, [97], 1, 2⟩
abbrev L3 : List Rc := [(1, 2, [97]), (2, 3, [98, 97]), (3, 3, [99, 97, 98])]
set_option maxRecDepth 100000 in
theorem all_any (w : World) : Calls Tryz.prog 61 #[] w fun e w' => e = .returned (qv Q0) ∧ Below w.heap.size w w' := by
  go_enter Tryz.func61, Tryz.ntmps61
  go_wp2_with fail
  refine bodyPost_ret (results_row1 rfl _ _ w.heap.size 58 (qc Q0) (0, 0) _ rfl (Blk.new _ _ _) Tryz.underlying58 rfl (by kernel_rfl)) rfl ?_
  exact ⟨rfl, (Below.refl _ w).alloc (Nat.le_refl _) _⟩
set_option maxRecDepth 100000 in
theorem three_any (w : World) : Calls Tryz.prog 62 #[] w fun e w' => ∃ b, e = .returned (.slice (some ⟨b, 0, none⟩) 3 3) ∧ Rd w' w'.heap.size 3 (some ⟨b, 0, none⟩) 3 (rcells L3) ∧ Below w.heap.size w w' := by
  have hr : Rd (w.alloc (.cells (rcells L3).toArray 98)) (w.heap.size + 1) 3 (some ⟨w.heap.size, 0, none⟩) 3 (rcells L3) := rd_new (W0 := w) (t := 98) (cs := rcells L3) (size := 3) (m := 3) rfl rfl
  go_enter Tryz.func62, Tryz.ntmps62
  go_wp2_with fail
  go_ret
  exact ⟨w.heap.size, rfl, by rw [World.size_alloc]; exact hr, (Below.refl _ w).alloc (Nat.le_refl _) _⟩
theorem hits3 : L3.filter (hitA (ofQ Q0)) = [(2, 3, [98, 97]), (3, 3, [99, 97, 98])] := by decide +kernel
theorem rd_at3 {w : World} {B b : Nat} (h : Rd w B 3 (some ⟨b, 0, none⟩) 3 (rcells L3)) :
    (w.cell? ⟨b, 0, none⟩ = some (.int .i64 1) ∧ w.cell? ⟨b, 1, none⟩ = some (.int .i64 2) ∧ w.cell? ⟨b, 2, none⟩ = some (str [97])) ∧ (w.cell? ⟨b, 6, none⟩ = some (.int .i64 3) ∧ w.cell? ⟨b, 7, none⟩ = some (.int .i64 3) ∧ w.cell? ⟨b, 8, none⟩ = some (str [99, 97, 98])) := by
  have a := rd_cell3 h 0 (by decide) 1 2 [97] rfl
  have c := rd_cell3 h 2 (by decide) 3 3 [99, 97, 98] rfl
  exact ⟨a, c⟩
set_option maxRecDepth 100000 in
set_option maxHeartbeats 8000000 in
theorem awake_any (w : World) : Calls Tryz.prog 23 #[] w fun e w' => e = .returned (.bool true) ∧ Below w.heap.size w w' := by
  have CP := Lib.hid (fun A w h => page_any Q0 A 3 3 L3 w h (by omega) (by decide) (by decide) ([(2, 3, [98, 97])], 3) (by rw [hits3]; decide +kernel))
  have CF := Lib.hid (fun A w h => filter_any Q0 A 3 3 L3 w h (by omega) (by decide) (by decide))
  rw [hits3] at CF
  have CH1 := Lib.hid (fun w => Hit_any Q0 (3, 3, [99, 97, 98]) w (by decide) (by decide))
  have CH2 := Lib.hid (fun w => Hit_any Q0 (1, 2, [97]) w (by decide) (by decide))
  rw [show hitA (ofQ Q0) (3, 3, [99, 97, 98]) = true from by decide +kernel] at CH1
  rw [show hitA (ofQ Q0) (1, 2, [97]) = false from by decide +kernel] at CH2
  have CS := Lib.hid (fun w => seqs_any Q0 w)
  rw [show (ofQ Q0).2 = (2, 9) from by decide +kernel] at CS
  have CC1 := Lib.hid (fun w => check_any Q0 0 (by decide) w)
  have CC2 := Lib.hid (fun w => check_any ⟨0, 0, 0, 0, [], 0, 0⟩ 320 (by decide) w)
  have CB1 := Lib.hid (fun w => block_any Q0 ⟨0, 0, 0, 2, 1, 0, 5⟩ true (by decide +kernel) w (by unfold I64; decide) (by unfold I64; decide))
  have CB2 := Lib.hid (fun w => block_any Q0 ⟨0, 0, 0, 1, 1, 0, 5⟩ false (by decide +kernel) w (by unfold I64; decide) (by unfold I64; decide))
  have CG := Lib.hid (fun w => segment_any Q0 ⟨1, 1, 9, false, 0, 0, 0, 0, 0⟩ true (by decide +kernel) w)
  have HB := Below.refl w.heap.size w
  go_enter Tryz.func23, Tryz.ntmps23
  go_wp2_with fail
  refine (all_any _).mono ?_
  rintro e w1 ⟨rfl, hb⟩
  replace HB := HB.trans (hb.mono HB.size)
  clear hb
  go_wp2_with fail
  refine (three_any _).mono ?_
  rintro e w2 ⟨b1, rfl, r1, hb⟩
  replace HB := HB.trans (hb.mono HB.size)
  clear hb
  go_wp2_with fail
  refine (CP.out _ _ r1).mono ?_
  rintro e w3 ⟨A, m, c, rfl, rp, _, hb⟩
  replace HB := HB.trans (hb.mono HB.size)
  obtain rfl : m = 1 := (rd_rlen rp).symm
  obtain ⟨b, o, rfl, hbb, hc⟩ := rd_recs rp (by omega)
  have d0 := (hc 0 (by decide)).1
  have bP := Blk.new w3 119 #[.slice (some ⟨b, o, none⟩) 1 c, .int .i64 3]
  have HBP := (Below.refl _ w3).alloc (Nat.le_refl _) (.cells #[.slice (some ⟨b, o, none⟩) 1 c, .int .i64 3] 119)
  have d1 := (HBP.cell (p := ⟨b, o + 0 * 3, none⟩) hbb).trans d0
  have hbb' : b < (w3.alloc (.cells #[.slice (some ⟨b, o, none⟩) 1 c, .int .i64 3] 119)).heap.size := by rw [World.size_alloc]; omega
  replace HB := HB.alloc HB.size (.cells #[.slice (some ⟨b, o, none⟩) 1 c, .int .i64 3] 119)
  clear hc d0 rp r1 HBP
  clear hb
  go_wp2_with fail
  refine (all_any _).mono ?_
  rintro e w4 ⟨rfl, hb⟩
  replace HB := HB.trans (hb.mono HB.size)
  replace d1 := (hb.cell (p := ⟨b, o + 0 * 3, none⟩) hbb').trans d1
  replace bP := bP.below hb bP.lt
  replace hbb' := Nat.lt_of_lt_of_le hbb' hb.size
  clear hb
  go_wp2_with fail
  refine (three_any _).mono ?_
  rintro e w5 ⟨b1, rfl, r1, hb⟩
  replace HB := HB.trans (hb.mono HB.size)
  replace d1 := (hb.cell (p := ⟨b, o + 0 * 3, none⟩) hbb').trans d1
  replace bP := bP.below hb bP.lt
  replace hbb' := Nat.lt_of_lt_of_le hbb' hb.size
  clear hb
  go_wp2_with fail
  refine (CF.out _ _ r1).mono ?_
  rintro e w6 ⟨A2, m2, c2, rfl, o2, hb⟩
  replace HB := HB.trans (hb.mono HB.size)
  replace d1 := (hb.cell (p := ⟨b, o + 0 * 3, none⟩) hbb').trans d1
  replace bP := bP.below hb bP.lt
  replace hbb' := Nat.lt_of_lt_of_le hbb' hb.size
  obtain rfl : m2 = 2 := (rd_rlen o2.rd).symm
  obtain ⟨p0, p1, _, _, _⟩ := blk2 bP
  rw [Nat.zero_mul, Nat.add_zero] at d1
  clear o2 r1 bP
  clear hb
  go_wp2_with fail
  refine (all_any _).mono ?_
  rintro e w7 ⟨rfl, hb⟩
  replace HB := HB.trans (hb.mono HB.size)
  clear hb
  go_wp2_with fail
  refine (three_any _).mono ?_
  rintro e w8 ⟨b2, rfl, r2, hb⟩
  replace HB := HB.trans (hb.mono HB.size)
  obtain ⟨⟨x0, x1, x2⟩, y0, y1, y2⟩ := rd_at3 r2
  clear hb
  go_wp2_with fail
  refine (CH1.out _).mono ?_
  rintro e w9 ⟨rfl, hb⟩
  replace HB := HB.trans (hb.mono HB.size)
  clear hb
  go_wp2_with fail
  refine (all_any _).mono ?_
  rintro e w10 ⟨rfl, hb⟩
  replace HB := HB.trans (hb.mono HB.size)
  clear x0 x1 x2 y0 y1 y2 r2
  clear hb
  go_wp2_with fail
  refine (three_any _).mono ?_
  rintro e w11 ⟨b3, rfl, r2, hb⟩
  replace HB := HB.trans (hb.mono HB.size)
  obtain ⟨⟨x0, x1, x2⟩, y0, y1, y2⟩ := rd_at3 r2
  clear hb
  go_wp2_with fail
  refine (CH2.out _).mono ?_
  rintro e w12 ⟨rfl, hb⟩
  replace HB := HB.trans (hb.mono HB.size)
  clear hb
  go_wp2_with fail
  refine (all_any _).mono ?_
  rintro e w13 ⟨rfl, hb⟩
  replace HB := HB.trans (hb.mono HB.size)
  clear hb
  go_wp2_with fail
  refine (CS.out _).mono ?_
  rintro e w14 ⟨rfl, hb⟩
  replace HB := HB.trans (hb.mono HB.size)
  clear hb
  go_wp2_with fail
  refine (all_any _).mono ?_
  rintro e w15 ⟨rfl, hb⟩
  replace HB := HB.trans (hb.mono HB.size)
  clear hb
  go_wp2_with fail
  refine (CC1.out _).mono ?_
  rintro e w16 ⟨rfl, hb⟩
  replace HB := HB.trans (hb.mono HB.size)
  clear hb
  go_wp2_with fail
  refine (CC2.out _).mono ?_
  rintro e w17 ⟨rfl, hb⟩
  replace HB := HB.trans (hb.mono HB.size)
  clear hb
  go_wp2_with fail
  refine (all_any _).mono ?_
  rintro e w18 ⟨rfl, hb⟩
  replace HB := HB.trans (hb.mono HB.size)
  clear hb
  go_wp2_with fail
  refine (CB1.out _).mono ?_
  rintro e w19 ⟨rfl, hb⟩
  replace HB := HB.trans (hb.mono HB.size)
  clear hb
  go_wp2_with fail
  refine (all_any _).mono ?_
  rintro e w20 ⟨rfl, hb⟩
  replace HB := HB.trans (hb.mono HB.size)
  clear hb
  go_wp2_with fail
  refine (CB2.out _).mono ?_
  rintro e w21 ⟨rfl, hb⟩
  replace HB := HB.trans (hb.mono HB.size)
  clear hb
  go_wp2_with fail
  refine (all_any _).mono ?_
  rintro e w22 ⟨rfl, hb⟩
  replace HB := HB.trans (hb.mono HB.size)
  clear hb
  go_wp2_with fail
  refine (CG.out _).mono ?_
  rintro e w23 ⟨rfl, hb⟩
  replace HB := HB.trans (hb.mono HB.size)
  clear hb
  go_wp2_with fail
  go_ret
  exact ⟨rfl, HB⟩
end SkpW
end Go.Proofs.YtnpncpoiiikafaaGreat

namespace Go.Proofs.YtnpncpoiiikafaaGreat
set_option linter.unusedVariables false
set_option linter.unusedSimpArgs false
set_option linter.unnecessarySimpa false
open Go.RowKit Go.ChangeShapes Go.WideShapes Go.Deep

section
variable {H : Type} {enc : TypeId × Value → H} {P : Program} {w : World} {base : Nat} {spare : Nat → Bool} {held : Bool}
def RcOk (r : Rc) : Prop := I64 r.1 ∧ I64 r.2.1 ∧ r.2.2.length ≤ maxLen
theorem trod_iis {t : Nat} {f0 f1 f2 : Field} (hs : P.underlying t = some (.struct #[f0, f1, f2])) (hone : oneCellFields P #[f0, f1, f2] = true) (h0 : P.underlying f0.type = some (.int .i64)) (h1 : P.underlying f1.type = some (.int .i64)) (h2 : P.underlying f2.type = some .string)
    (n : Nat) (cs : List Value) (y : DataW H × List MemPlace) (h : DataW.trod enc P w base spare held n t cs = some y) (hl : cs.length = 3) :
    ∃ x : Rc, cs = rcell x ∧ RcOk x := by
  obtain ⟨y0, y1, y2, m, _, _, g0, g1, g2⟩ := trod_struct3 hs h
  obtain ⟨o0, k0⟩ := hone_of hone 0 f0 rfl
  obtain ⟨o1, k1⟩ := hone_of hone 1 f1 rfl
  obtain ⟨o2, k2⟩ := hone_of hone 2 f2 rfl
  match cs, hl with
  | [a, b, c], _ =>
    rw [o0, k0] at g0
    rw [o1, k1] at g1
    rw [o2, k2] at g2
    obtain ⟨i, e0, _, w0⟩ := DataW.trod_int h0 g0
    obtain ⟨j, e1, _, w1⟩ := DataW.trod_int h1 g1
    obtain ⟨s, e2, _, w2⟩ := DataW.trod_string h2 g2
    simp at e0 e1 e2
    subst e0 e1 e2
    obtain ⟨l, rfl, hl⟩ := str_of s
    exact ⟨(i, j, l), rfl, i64_of w0, i64_of w1, by show l.length ≤ maxLen; omega⟩
end
end Go.Proofs.YtnpncpoiiikafaaGreat

namespace Go.Proofs.YtnpncpoiiikafaaGreat
set_option linter.unusedVariables false
set_option linter.unusedSimpArgs false
set_option linter.unnecessarySimpa false
open Go.RowKit Go.ChangeShapes Go.WideShapes Go.Deep
namespace SkpW

section
variable {H : Type} {enc : TypeId × Value → H} {P : Program} {w : World} {base : Nat} {spare : Nat → Bool} {held : Bool}
theorem fld {t : TypeId} {fs : Array Field} {fuel : Nat} {cs : List Value} {x : DataW H × List MemPlace} (ht : P.underlying t = some (.struct fs)) (h : DataW.trod enc P w base spare held fuel t cs = some x) :
    ∃ n, ∀ (i : Nat) (f : Field), fs[i]? = some f → ∃ y, DataW.trod enc P w base spare held n f.type ((cs.drop f.offset).take (P.cellsOf f.type)) = some y := by
  obtain ⟨xs, n, _, _, _, hlen, hf⟩ := DataW.trod_struct ht h
  refine ⟨n, fun i f hi => ?_⟩
  have hlt : i < xs.length := by
    have := (Array.getElem?_eq_some_iff.1 hi).1
    omega
  rw [hf i f hi, List.getElem?_eq_getElem hlt]
  exact ⟨_, rfl⟩
theorem one_at {cs : List Value} {j : Nat} {c : Value} (hj : cs[j]? = some c) : (cs.drop j).take 1 = [c] := by
  obtain ⟨h1, h2⟩ := List.getElem?_eq_some_iff.1 hj
  rw [List.drop_eq_getElem_cons h1, h2]
  rfl
theorem int_at {n e j : Nat} {cs : List Value} {c : Value} (he : P.underlying e = some (.int .i64)) (hc : P.cellsOf e = 1) (hj : cs[j]? = some c) (h : ∃ y, DataW.trod enc P w base spare held n e ((cs.drop j).take (P.cellsOf e)) = some y) :
    ∃ i, c = .int .i64 i ∧ I64 i := by
  obtain ⟨y, hy⟩ := h
  rw [hc, one_at hj] at hy
  obtain ⟨i, e0, _, w0⟩ := DataW.trod_int he hy
  exact ⟨i, List.singleton_inj.1 e0, i64_of w0⟩
theorem str_at {n e j : Nat} {cs : List Value} {c : Value} (he : P.underlying e = some .string) (hc : P.cellsOf e = 1) (hj : cs[j]? = some c) (h : ∃ y, DataW.trod enc P w base spare held n e ((cs.drop j).take (P.cellsOf e)) = some y) :
    ∃ l : List UInt8, c = str l ∧ l.length ≤ maxLen := by
  obtain ⟨y, hy⟩ := h
  rw [hc, one_at hj] at hy
  obtain ⟨s, e0, _, w0⟩ := DataW.trod_string he hy
  obtain ⟨l, rfl, hl⟩ := str_of s
  exact ⟨l, List.singleton_inj.1 e0, by omega⟩
end
set_option maxRecDepth 100000 in
theorem open_query {H : Type} {enc : TypeId × Value → H} {w : World} {base : Nat} {spare : Nat → Bool} {held : Bool} {r : Reach} {b0 : Nat} {v : Value} {d : DataW H} {p : List MemPlace}
    (hv : Value.okWide Tryz.prog w r b0 58 v) (h : DataW.Trod enc Tryz.prog w base spare held 58 v d p) :
    ∃ q : Qy, v = qv q ∧ q.s2 ≤ 9223372036854775807 ∧ q.find.length ≤ maxLen ∧ I64 q.limit ∧ I64 q.frm := by
  obtain ⟨cs, rfl, hsz⟩ := okWide_struct Tryz.underlying58 hv
  have hC : Tryz.prog.cellsOf 58 = 7 := by kernel_rfl
  rw [hC] at hsz
  obtain ⟨cs, rfl⟩ : ∃ l : List Value, cs = l.toArray := ⟨cs.toList, by simp⟩
  obtain ⟨fuel, hf⟩ := h
  simp only [Value.cells] at hf
  obtain ⟨n, hF⟩ := fld Tryz.underlying58 hf
  match cs, hsz with
  | [c0, c1, c2, c3, c4, c5, c6], _ =>
    obtain ⟨y0, g0⟩ := hF 0 _ rfl
    change DataW.trod enc Tryz.prog w base spare held n 56 (List.take (Tryz.prog.cellsOf 56) (List.drop 0 [c0, c1, c2, c3, c4, c5, c6])) = some y0 at g0
    rw [show Tryz.prog.cellsOf 56 = 2 from by kernel_rfl] at g0
    simp only [List.drop_zero, List.drop_succ_cons, List.take_succ_cons, List.take_zero] at g0
    obtain ⟨n0, hG0⟩ := fld Tryz.underlying56 g0
    obtain ⟨x0, rfl, w0⟩ := int_at (j := 0) Tryz.underlying3 (by kernel_rfl) rfl (hG0 0 _ rfl)
    obtain ⟨x1, rfl, w1⟩ := int_at (j := 1) Tryz.underlying3 (by kernel_rfl) rfl (hG0 1 _ rfl)
    obtain ⟨y2, g2⟩ := hF 1 _ rfl
    change DataW.trod enc Tryz.prog w base spare held n 56 (List.take (Tryz.prog.cellsOf 56) (List.drop 2 [.int .i64 x0, .int .i64 x1, c2, c3, c4, c5, c6])) = some y2 at g2
    rw [show Tryz.prog.cellsOf 56 = 2 from by kernel_rfl] at g2
    simp only [List.drop_zero, List.drop_succ_cons, List.take_succ_cons, List.take_zero] at g2
    obtain ⟨n2, hG2⟩ := fld Tryz.underlying56 g2
    obtain ⟨x2, rfl, w2⟩ := int_at (j := 0) Tryz.underlying3 (by kernel_rfl) rfl (hG2 0 _ rfl)
    obtain ⟨x3, rfl, w3⟩ := int_at (j := 1) Tryz.underlying3 (by kernel_rfl) rfl (hG2 1 _ rfl)
    obtain ⟨x4, rfl, w4⟩ := str_at (j := 4) Tryz.underlying9 (by kernel_rfl) rfl (hF 2 _ rfl)
    obtain ⟨x5, rfl, w5⟩ := int_at (j := 5) Tryz.underlying3 (by kernel_rfl) rfl (hF 3 _ rfl)
    obtain ⟨x6, rfl, w6⟩ := int_at (j := 6) Tryz.underlying3 (by kernel_rfl) rfl (hF 4 _ rfl)
    exact ⟨⟨x0, x1, x2, x3, x4, x5, x6⟩, rfl, w1.2, w4, w5, w6⟩
end SkpW
end Go.Proofs.YtnpncpoiiikafaaGreat

namespace Go.Proofs.YtnpncpoiiikafaaGreat
set_option linter.unusedVariables false
set_option linter.unusedSimpArgs false
set_option linter.unnecessarySimpa false
open Go.RowKit Go.ChangeShapes Go.WideShapes Go.Deep
namespace RecW

set_option maxRecDepth 100000 in
theorem open_recs {H : Type} {enc : TypeId × Value → H} {w : World} {base : Nat} {spare : Nat → Bool} {held : Bool} {r : Reach} {b0 : Nat} {v : Value} {d : DataW H} {p : List MemPlace}
    (hv : Value.okWide Tryz.prog w r b0 29 v) (h : DataW.Trod enc Tryz.prog w base spare held 29 v d p) :
    ∃ (A : Option Addr) (n c : Nat) (l : List Rc), v = .slice A n c ∧ n ≤ c ∧ c ≤ maxLen ∧ (∀ x ∈ l, RcOk x) ∧ Rd w w.heap.size 3 A n (rcells l) := by
  obtain ⟨A, n, c, l, hv', h1, h2, _, h4, _, h6⟩ := open_rows Tryz.underlying29 (by kernel_rfl) (by decide) rcell RcOk
    (fun n cs y hh hl => trod_iis Tryz.underlying98 (by kernel_rfl) Tryz.underlying3 Tryz.underlying3 Tryz.underlying9 n cs y hh hl) hv h
  exact ⟨A, n, c, l, hv', h1, h2, h4, h6⟩
theorem few_len {l : List Rc} (h : fewB l = true) : l.length ≤ 200 := by
  unfold fewB at h
  simp at h
  exact h.1

end RecW
end Go.Proofs.YtnpncpoiiikafaaGreat

namespace Go.Proofs.YtnpncpoiiikafaaGreat
set_option linter.unusedVariables false
set_option linter.unusedSimpArgs false
set_option linter.unnecessarySimpa false
open Go.RowKit
namespace SkpW
open SpanW (R rv meetsB emptyB hasB)
open RecW (few_any few_len fewB)

theorem few_dat {l : List Rc} (h : fewB l = true) : ∀ r ∈ l, r.2.2.length ≤ 100000 := by
  intro r hr
  unfold fewB at h
  rw [Bool.and_eq_true, List.all_eq_true] at h
  have := h.2 r hr
  simp only [decide_eq_true_eq] at this
  omega
end SkpW
end Go.Proofs.YtnpncpoiiikafaaGreat
