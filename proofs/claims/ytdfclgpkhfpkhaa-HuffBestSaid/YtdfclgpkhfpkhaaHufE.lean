/- The walk of huff.Decode. Plain: symbols come back of their bytes; cut by a byte or with one more these are none's. -/
import Derived.Test.YtdfclgpkhfpkhaaHufD
import Derived.Test.YtdfclgpkhfpkhaaTabG
import Derived.Test.YtdfclgpkhfpkhaaTabP
import Derived.Test.YtdfclgpkhfpkhaaCanG
import Derived.Test.YtdfclgpkhfpkhaaBitN
import Derived.Test.YtdfclgpkhfpkhaaCanE
namespace Go.Proofs.Ytdfclgpkhfpkhaa
set_option linter.unusedVariables false
set_option linter.unusedSimpArgs false
set_option linter.unnecessarySimpa false
open Go.RowKit
namespace HufW
open LenW (chkL usedL symsB symsOk unpG getC CodeAt cget_any getC_len getC_zero)
open TabW (tabG tget_any)
open BitW (rdr RLeft El_int2 doneB done_any)

/-- The code of lengths l stands at block g; its blocks lie from B on, below T. -/
def CodeIn (w : World) (B T g : Nat) (l : List Int) : Prop := ∃ gW gS, (B ≤ g ∧ B ≤ gW ∧ B ≤ gS) ∧ (g < T ∧ gW < T ∧ gS < T) ∧
  Blk w g 75 (LenW.codeC (.slice (some ⟨gW, 0, none⟩) l.length l.length) (.slice (some ⟨gS, 0, none⟩) (usedL l) (usedL l)) (LenW.tab (LenW.cntL l)) (LenW.tab (LenW.fstL l)) (LenW.tab (LenW.plcL l)) true) ∧
  Blk w gW 85 (fcells (LenW.wordsF l)).toArray ∧ Blk w gS 3 (ints (LenW.sortF l)).toArray
theorem CodeIn.of {w : World} {B g : Nat} {l : List Int} (h : CodeAt w B g l) : CodeIn w B w.heap.size g l := by
  obtain ⟨gW, gS, h1, h2, h3, b1, b2, b3⟩ := h
  exact ⟨gW, gS, ⟨h1, h2, h3⟩, ⟨b1.lt, b2.lt, b3.lt⟩, b1, b2, b3⟩
theorem CodeIn.to {w : World} {B T g : Nat} {l : List Int} (h : CodeIn w B T g l) : CodeAt w B g l := by
  obtain ⟨gW, gS, ⟨h1, h2, h3⟩, _, b1, b2, b3⟩ := h
  exact ⟨gW, gS, h1, h2, h3, b1, b2, b3⟩
theorem CodeIn.grown {w w' : World} {B T g : Nat} {l : List Int} {row : Option Nat} (h : CodeIn w B T g l) (hg : w.grownBy w' row) (hr : ∀ k, row = some k → k < B ∨ T ≤ k) : CodeIn w' B T g l := by
  obtain ⟨gW, gS, ⟨h1, h2, h3⟩, ⟨t1, t2, t3⟩, b1, b2, b3⟩ := h
  refine ⟨gW, gS, ⟨h1, h2, h3⟩, ⟨t1, t2, t3⟩, b1.grown hg ?_, b2.grown hg ?_, b3.grown hg ?_⟩ <;> intro e <;> have := hr _ e.symm <;> omega
theorem CodeIn.alloc {w : World} {B T g : Nat} {l : List Int} (h : CodeIn w B T g l) (o : Obj) : CodeIn (w.alloc o) B T g l :=
  h.grown (grown_of_below ((Below.refl _ w).alloc (Nat.le_refl _) o)) (fun k e => by cases e)
/-- What Decode tells. -/
def decV (s : List UInt8) (N : Nat) : List Int × Int :=
  if (tabG s 257).2.2 = 0 then
    if (unpG (fun p => getC (tabG s 257).1 ((bitsB s).drop p)) N (tabG s 257).2.1).2.2 = 0 then
      if doneB s (unpG (fun p => getC (tabG s 257).1 ((bitsB s).drop p)) N (tabG s 257).2.1).2.1 = true then
        ((unpG (fun p => getC (tabG s 257).1 ((bitsB s).drop p)) N (tabG s 257).2.1).1, 0)
      else ([], 6)
    else ([], (unpG (fun p => getC (tabG s 257).1 ((bitsB s).drop p)) N (tabG s 257).2.1).2.2)
  else ([], (tabG s 257).2.2)
def endV (s : List UInt8) (y : List Int × Nat × Int) : List Int × Int := if y.2.2 = 0 then if doneB s y.2.1 = true then (y.1, 0) else ([], 6) else ([], y.2.2)
theorem decV_end {s : List UInt8} {N : Nat} {x : List Int × Nat × Int} (hx : tabG s 257 = x) (h0 : x.2.2 = 0) : decV s N = endV s (unpG (fun p => getC x.1 ((bitsB s).drop p)) N x.2.1) := by
  unfold decV endV
  rw [hx, if_pos h0]
set_option maxRecDepth 100000 in
set_option maxHeartbeats 4000000 in
theorem decode_any (s : List UInt8) (N : Nat) (w : World) (hN : N ≤ 100000) (hs : s.length ≤ 100000) (v : List Int × Int) (hv : decV s N = v) :
    Calls Try.prog 14 #[str s, .int .i64 N] w fun e w' => ∃ A2 n2 c2, e = .returned (.tuple #[.slice A2 n2 c2, .int .i64 v.2]) ∧ n2 ≤ c2 ∧ Rd w' w'.heap.size 1 A2 n2 (ints v.1) ∧ Below w.heap.size w w' := by
  have hmf : ∀ (fn : Fn) (first cap : Array Value) (w : World), (Instr.makeFunc fn first cap).run Try.prog w = .ok (.func fn first cap) w := fun _ _ _ _ => rfl
  obtain ⟨x, hx⟩ : ∃ x, tabG s 257 = x := ⟨_, rfl⟩
  have HV := Lib.hid hv
  have HXX := Lib.hid hx
  have hnl : ¬ (N : Int) < 0 := by omega
  have hnb : ¬ (N : Int) > 100000 := by omega
  have CT := fun w0 (b : Blk w0 w.heap.size 94 (rdr s 0)) => tget_any w.heap.size s 257 w0 b (by omega) hs x hx
  rw [show ((257 : Nat) : Int) = 257 from rfl] at CT
  have HT := Lib.hid CT
  clear hv hx CT
  have HB0 : Below w.heap.size w (w.alloc (.cells (rdr s 0) 94)) := (Below.refl _ _).alloc (Nat.le_refl _) _
  have hR := Blk.new w 94 (rdr s 0)
  go_enter Try.func14, Try.ntmps14
  go_wp2_with fail
  refine (BitW.new_any s w).mono ?_
  rintro e w1 ⟨rfl, rfl⟩
  go_wp2_with fail
  refine (HT.out _ hR).mono ?_
  clear HT
  rintro e w2 ⟨A2, n2, c2, rfl, hc2, r2, bR, hg⟩
  have HB2 := HB0.trans (TabW.grown_below hg hR.lt)
  have hz2 := HB2.size
  have hzR := bR.lt
  clear HB0 hR hg
  by_cases h0 : x.2.2 = 0
  · rw [if_pos h0] at bR
    have hf := TabW.tab_forms s 257 x HXX.out h0
    have HE := Lib.hid (decV_end (N := N) HXX.out h0)
    obtain ⟨l, q0, e0⟩ := x
    obtain rfl : e0 = 0 := h0
    obtain ⟨hl, hk, hq0, _⟩ := hf
    dsimp only at r2 bR hl hk hq0 HE
    obtain rfl : n2 = 257 := by have := rd_len r2; omega
    have C := LenW.new_any A2 257 c2 l w2 r2 (by omega) hk
    have HK := Lib.hid hk
    have HX := Lib.hid (show v = endV s ([] ++ (unpG (fun p => getC l ((bitsB s).drop p)) (N - 0) q0).1, (unpG (fun p => getC l ((bitsB s).drop p)) (N - 0) q0).2) by rw [← HV.out, HE.out]; rfl)
    clear hk r2 HXX HV HE
    go_wp2_with fail
    refine C.mono ?_
    clear C
    rintro e w3 ⟨g, rfl, hC, HB⟩
    have bR3 := bR.below HB hzR
    have hCI := CodeIn.of hC
    have HB3 := HB2.trans (HB.mono hz2)
    have hz3 := HB.size
    clear hC bR HB HB2
    go_wp2_with fail
    go_loopw [11, 41] (fun out i wr => ∃ (j q : Nat) (acc : List Int) (A2 : Option Addr) (c2 : Nat), i = .int .i64 j ∧ out = .slice A2 j c2 ∧ j ≤ N ∧ q ≤ 8 * s.length ∧ v = endV s (acc ++ (unpG (fun p => getC l ((bitsB s).drop p)) (N - j) q).1, (unpG (fun p => getC l ((bitsB s).drop p)) (N - j) q).2) ∧
      Own wr w3.heap.size 3 1 A2 j c2 (ints acc) ∧ Blk wr w.heap.size 94 (rdr s q) ∧ CodeIn wr w2.heap.size w3.heap.size g l ∧ Below w.heap.size w wr ∧ w3.heap.size ≤ wr.heap.size) (fun _ i _ => N - (intOf i).toNat)
    case atStart => exact ⟨0, q0, [], none, 0, rfl, rfl, by omega, by omega, HX.out, Own.nil _ _ _ _, bR3, hCI, HB3, Nat.le_refl _⟩
    case round =>
      clear bR3 hCI HB3 HX
      obtain ⟨j, q, acc, A2, c2, rfl, rfl, hj, hq, hr, o2, bR, hC, hbw, hz⟩ := hrel
      have HR := Lib.hid hr
      clear hr
      have hsz := hbw.size
      by_cases hlt : j < N
      · obtain ⟨m, hm⟩ : ∃ m, N - j = m + 1 := ⟨N - j - 1, by omega⟩
        obtain ⟨v0, hv⟩ : ∃ v0, getC l ((bitsB s).drop q) = v0 := ⟨_, rfl⟩
        have C := cget_any l HK.out w2.heap.size g w.heap.size s q wr hC.to bR hq (by omega) v0 hv
        have hRR := HR.out
        rw [hm, unpG, hv] at hRR
        have HR2 := Lib.hid hRR
        have hgl := getC_len l (bitsB s) q (by rw [bitsB_len]; exact hq)
        rw [hv, bitsB_len] at hgl
        have HGL := Lib.hid hgl
        clear hRR hgl hv
        obtain ⟨v1, v2, v3⟩ := v0
        go_wp2_with fail
        refine C.mono ?_
        clear C
        rintro e w4 ⟨rfl, bR4, hg4⟩
        have hb4 : Below w.heap.size w w4 := hbw.trans (TabW.grown_below hg4 bR.lt)
        have hbl := fun b e => (o2.blk b e).1
        have o4 := o2.grown hg4 (.inr fun e => by have := hbl _ e; omega)
        have hz4 := hg4.size
        have hC4 := hC.grown hg4 (fun k e => by cases e; omega)
        clear o2 bR hC hg4 hbw
        by_cases he : v3 = 0
        · subst he
          have HX3 := Lib.hid (show v = endV s (acc ++ [v1] ++ (unpG (fun p => getC l ((bitsB s).drop p)) m (q + v2)).1, (unpG (fun p => getC l ((bitsB s).drop p)) m (q + v2)).2) by rw [HR2.out, if_pos rfl]; simp)
          have hqv := HGL.out rfl
          have hrn : Rd (w4.alloc (.cells #[.int .i64 v1] 3)) (w4.heap.size + 1) 1 (some ⟨w4.heap.size, 0, none⟩) 1 (ints [v1]) := rd_new (W0 := w4) (t := 3) (cs := ints [v1]) (size := 1) (m := 1) rfl rfl
          go_wp2_with (at_builtin; with_reducible refine wp_append El_int2 rfl (s := .tmp 52) (x := .tmp 54) rfl rfl (o4.alloc _) rfl hrn (ints_one _) (by unfold maxLen; omega) (by omega) (by simp; omega) ?_; intro A5 c5 w5 o5 hg5 hat5; clear hrn; have hbX := below_grown (hb4.alloc hb4.size (.cells #[.int .i64 v1] 3)) hg5 (o4.alloc _) (by omega); have bR5 := (bR4.alloc (.cells #[.int .i64 v1] 3)).grown hg5 (fun e => by have := hbl _ e.symm; omega); have hC5 := (hC4.alloc (.cells #[.int .i64 v1] 3)).grown hg5 (fun k e => .inr (hbl k e)); have hs5 := hg5.size)
          rw [World.size_alloc] at hs5
          have e1 : ints acc ++ ints [v1] = ints (acc ++ [v1]) := by simp [ints]
          rw [e1] at o5
          go_roundw
          case rel => exact ⟨j + 1, q + v2, acc ++ [v1], A5, c5, by go_num, rfl, by omega, hqv, by rw [show N - (j + 1) = m by omega]; exact HX3.out, o5, bR5, hC5, hbX, by omega⟩
          case measure => simp [intOf]; omega
        · have heI : (v3 != 0) = true := by simp [he]
          have hx : v = ([], v3) := by rw [HR2.out, if_neg he, endV, if_neg he]
          subst hx
          clear HR2 HR HGL
          go_wp2_with fail
          go_ret2
          exact ⟨none, 0, 0, rfl, Nat.le_refl _, Rd.nil _ _ _ _, hb4⟩
      · have hx : v = endV s (acc, q, 0) := by rw [HR.out, show N - j = 0 by omega, unpG, List.append_nil]
        have C := done_any w.heap.size s q wr bR hq (by omega)
        by_cases hd : doneB s q = true
        · rw [hd] at C
          have hx2 : v = (acc, 0) := by rw [hx, endV, if_pos rfl, if_pos hd]
          subst hx2
          clear hx HR hd
          go_wp2_with fail
          refine C.mono ?_
          clear C
          rintro e w4 ⟨rfl, nq, rfl⟩
          go_wp2_with fail
          go_ret2
          exact ⟨A2, j, c2, rfl, o2.cap, (o2.below ((Below.refl _ wr).drewN_ nq)).rd, hbw.drewN_ nq⟩
        · have hd2 : doneB s q = false := by simpa using hd
          rw [hd2] at C
          have hx2 : v = ([], 6) := by rw [hx, endV, if_pos rfl, if_neg hd]
          subst hx2
          clear hx HR hd hd2
          go_wp2_with fail
          refine C.mono ?_
          clear C
          rintro e w4 ⟨rfl, nq, rfl⟩
          go_wp2_with fail
          go_ret2
          exact ⟨none, 0, 0, rfl, Nat.le_refl _, Rd.nil _ _ _ _, hbw.drewN_ nq⟩
  · have hx : v = ([], x.2.2) := by rw [← HV.out, decV, HXX.out, if_neg h0]
    have h0I : (x.2.2 != 0) = true := by simp [h0]
    subst hx
    obtain ⟨l, q0, e0⟩ := x
    dsimp only at h0I h0 ⊢
    clear HXX HV r2 bR
    go_wp2_with fail
    go_ret2
    exact ⟨none, 0, 0, rfl, Nat.le_refl _, Rd.nil _ _ _ _, HB2⟩
end HufW
end Go.Proofs.Ytdfclgpkhfpkhaa

namespace Go.Proofs.Ytdfclgpkhfpkhaa
set_option linter.unusedVariables false
set_option linter.unusedSimpArgs false
set_option linter.unnecessarySimpa false
open Go.RowKit
namespace HufW
open LenW (chkL symsB symsOk unpG getC back_at unp_bits)
open TabW (tabG tabB getT_back tab_forms rle rle_len)
open BitW (doneB)

theorem dec_tab {s : List UInt8} {l : List Int} {rest : List Nat} (hk : chkL l = 0) (h257 : l.length = 257) (hs : bitsB s = tabB l ++ rest) : tabG s 257 = (l, (tabB l).length, 0) := by
  have := rle_len l
  have := getT_back s l hk rest hs (rle l) [] (l.length + 1) (-1) rfl (by omega) (.inl ⟨rfl, rfl⟩)
  rw [h257] at this
  exact this
theorem dec_at {s : List UInt8} {l r : List Int} {rest : List Nat} (hk : chkL l = 0) (ho : symsOk l r = true) (hs : bitsB s = tabB l ++ (symsB l r ++ rest)) : unpG (fun p => getC l ((bitsB s).drop p)) r.length (tabB l).length = (r, (tabB l).length + (symsB l r).length, 0) :=
  back_at hk (bitsB s) (bitsB_lt _) r _ rest ho (by rw [hs, List.drop_left])
theorem dec_all {s : List UInt8} {r : List Int} {rest : List Nat} (h5 : r.length ≤ 100000) (hb : r.any badS = false) (hs : bitsB s = hufB r ++ rest) :
    decV s r.length = if doneB s (hufB r).length = true then (r, 0) else ([], 6) := by
  have hk := bL_chk r h5
  have ho := bL_ok r h5 hb
  have hs2 : bitsB s = tabB (bL r) ++ (symsB (bL r) r ++ rest) := by rw [hs, hufB, List.append_assoc]
  rw [decV_end (dec_tab hk (bL_len r h5) hs2) rfl]
  dsimp only
  rw [dec_at hk ho hs2, endV, if_pos rfl]
  unfold hufB
  rw [List.length_append]
theorem dec_back (r : List Int) (h5 : r.length ≤ 100000) (hb : r.any badS = false) : decV (textB (hufB r)) r.length = (r, 0) := by
  obtain ⟨k, hk, hs⟩ := bits_text (hufB r) (hufB_lt r)
  rw [dec_all h5 hb hs, if_pos (BitW.done_at hk hs)]
theorem dec_more (r : List Int) (h5 : r.length ≤ 100000) (hb : r.any badS = false) : (decV (textB (hufB r) ++ [0]) r.length).2 ≠ 0 := by
  obtain ⟨k, hk, hs⟩ := bits_text (hufB r) (hufB_lt r)
  have hl := bitsB_len (textB (hufB r))
  rw [hs, List.length_append] at hl
  rw [dec_all (rest := List.replicate k 0 ++ bitsB [0]) h5 hb (by rw [bitsB_app, hs, List.append_assoc])]
  have hd : ¬ doneB (textB (hufB r) ++ [0]) (hufB r).length = true := by
    unfold doneB
    rw [Bool.and_eq_true, decide_eq_true_eq, List.length_append]
    simp only [List.length_cons, List.length_nil]
    omega
  rw [if_neg hd]
  decide
theorem dec_cut (r : List Int) (h5 : r.length ≤ 100000) (hb : r.any badS = false) (m : Nat) (hm : m < (textB (hufB r)).length) : (decV ((textB (hufB r)).take m) r.length).2 ≠ 0 := by
  intro h0
  obtain ⟨k, hk8, hs⟩ := bits_text (hufB r) (hufB_lt r)
  have htl := textB_len (hufB r)
  have hkc := bL_chk r h5
  have ho := bL_ok r h5 hb
  have h8 : 8 * m < (hufB r).length := by omega
  have hspl : bitsB (textB (hufB r)) = bitsB ((textB (hufB r)).take m) ++ bitsB ((textB (hufB r)).drop m) := by rw [← bitsB_app, List.take_append_drop]
  have hl := bitsB_len ((textB (hufB r)).take m)
  rw [List.length_take, Nat.min_eq_left (by omega)] at hl
  generalize hst : (textB (hufB r)).take m = st at *
  generalize bitsB ((textB (hufB r)).drop m) = tl at *
  obtain ⟨x, hx⟩ : ∃ x, tabG st 257 = x := ⟨_, rfl⟩
  by_cases hx0 : x.2.2 = 0
  · rw [decV_end hx hx0] at h0
    obtain ⟨f1, f2, f3, f4⟩ := tab_forms st 257 x hx hx0
    have h3 : (tabB x.1).length = x.2.1 := by rw [f4, List.length_take]; rw [bitsB_len]; omega
    have e1 : bitsB (textB (hufB r)) = tabB x.1 ++ ((bitsB st).drop x.2.1 ++ tl) := by rw [hspl, f4, ← List.append_assoc, List.take_append_drop]
    have e2 : bitsB (textB (hufB r)) = tabB (bL r) ++ (symsB (bL r) r ++ List.replicate k 0) := by rw [hs, hufB, List.append_assoc]
    have q1 := dec_tab f2 f1 e1
    rw [dec_tab hkc (bL_len r h5) e2] at q1
    have q2 : bL r = x.1 := (Prod.mk.inj q1).1
    rw [← h3, ← q2] at h0
    rw [← h3, ← q2] at e1
    obtain ⟨y, hy⟩ : ∃ y, unpG (fun p => getC (bL r) ((bitsB st).drop p)) r.length (tabB (bL r)).length = y := ⟨_, rfl⟩
    rw [hy] at h0
    by_cases hy0 : y.2.2 = 0
    · have h3' : (tabB (bL r)).length ≤ (bitsB st).length := by rw [q2, h3, hl]; have := bitsB_len st; omega
      obtain ⟨g1, g2, g3, g4, g5, _⟩ := unp_bits hkc (bitsB st) (bitsB_lt _) r.length _ y h3' hy
      have g6 : (symsB (bL r) y.1).length = y.2.1 - (tabB (bL r)).length := by rw [g4, List.length_take, List.length_drop]; omega
      have e3 : bitsB (textB (hufB r)) = tabB (bL r) ++ (symsB (bL r) y.1 ++ (((bitsB st).drop (tabB (bL r)).length).drop (y.2.1 - (tabB (bL r)).length) ++ tl)) := by
        rw [e1, g4, ← List.append_assoc (List.take _ _), List.take_append_drop]
      have a1 := dec_at hkc g1 e3
      have a2 := dec_at hkc ho e2
      rw [g5 hy0, a2] at a1
      have a3 := congrArg (fun z => z.2.1) a1
      dsimp only at a3
      have a4 : (hufB r).length = (tabB (bL r)).length + (symsB (bL r) r).length := by unfold hufB; rw [List.length_append]
      omega
    · rw [endV, if_neg hy0] at h0
      exact hy0 h0
  · rw [decV, hx, if_neg hx0] at h0
    exact hx0 h0
theorem enc_nil : encV [] = ([0, 8, 8], 0) := by decide +kernel
theorem siz_nil : sizV [] = 21 := by decide +kernel
theorem enc_bad : encV [257] = ([], 70) := by decide +kernel
theorem cts_101 : ctsV [1, 0, 1] = (ctsL [1, 0, 1], 0) := by decide +kernel
end HufW
end Go.Proofs.Ytdfclgpkhfpkhaa
