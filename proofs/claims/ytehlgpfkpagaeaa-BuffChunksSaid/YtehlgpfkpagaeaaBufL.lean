/- The laws of package buff: their walks. -/
import Derived.Test.YtehlgpfkpagaeaaBufA
import Derived.Test.YtehlgpfkpagaeaaOpenR
namespace Go.Proofs.Ytehlgpfkpagaeaa
set_option linter.unusedVariables false
set_option linter.unusedSimpArgs false
set_option linter.unnecessarySimpa false
open Go.RowKit Go.ChangeShapes Go.WideShapes
namespace RecW

theorem open_recs {H : Type} {enc : TypeId × Value → H} {w : World} {base : Nat} {spare : Nat → Bool} {held : Bool} {r : Reach} {b0 : Nat} {v : Value} {d : DataW H} {p : List MemPlace}
    (hv : Value.okWide Try.prog w r b0 48 v) (h : DataW.Trod enc Try.prog w base spare held 48 v d p) :
    ∃ (A : Option Addr) (n c : Nat) (l : List Rc), v = .slice A n c ∧ n ≤ c ∧ c ≤ maxLen ∧ (∀ x ∈ l, RcOk x) ∧ Rd w w.heap.size 3 A n (rcells l) := by
  obtain ⟨A, n, c, l, hv', h1, h2, _, h4, _, h6⟩ := open_rows Try.underlying48 (by kernel_rfl) (by decide) rcell RcOk
    (fun n cs y hh hl => trod_iis Try.underlying50 (by kernel_rfl) Try.underlying3 Try.underlying3 Try.underlying9 n cs y hh hl) hv h
  exact ⟨A, n, c, l, hv', h1, h2, h4, h6⟩

theorem addN_no {l : List Rc} {r : Rc} (h : (addN l r).2 ≠ 0) : (addN l r).1 = [] := by
  unfold addN at *
  by_cases h1 : rowN (l ++ [r]) = 0
  · rw [if_pos h1] at *
    by_cases h2 : 20000 < rawN (l ++ [r])
    · rw [if_pos h2]
    · rw [if_neg h2] at h; exact absurd rfl h
  · rw [if_neg h1]
theorem addN_yes {l : List Rc} {r : Rc} (h : (addN l r).2 = 0) : (addN l r).1 = l ++ [r] ∧ rowN (l ++ [r]) = 0 ∧ rawN (l ++ [r]) ≤ 20000 := by
  unfold addN at *
  by_cases h1 : rowN (l ++ [r]) = 0
  · rw [if_pos h1] at *
    by_cases h2 : 20000 < rawN (l ++ [r])
    · rw [if_pos h2] at h; cases h
    · rw [if_neg h2]; exact ⟨rfl, h1, by omega⟩
  · rw [if_neg h1] at h; exact absurd h h1
theorem rawN_more {l : List Rc} {r : Rc} (h : rawN (l ++ [r]) ≤ 20000) : rawN (l ++ [r]) = rawN l + sizeN r := by
  rw [rawN_sum, sumN_app, rawN_sum] at *
  omega
theorem nextN_more (l : List Rc) (r : Rc) (h : r.1 ≤ 1000000000) : nextN (l ++ [r]) 0 = r.1 + 1 := by
  unfold nextN
  rw [List.getLast?_concat]
  dsimp only
  rw [if_neg (by omega)]

set_option maxRecDepth 100000 in
set_option maxHeartbeats 4000000 in
theorem does_law (A : Option Addr) (n c : Nat) (l : List Rc) (a b : Int) (s : ByteArray) (k : Int) (w : World) (h : Rd w w.heap.size 3 A n (rcells l)) (hnc : n ≤ c) (hc : c ≤ maxLen) (hl : ∀ x ∈ l, RcOk x) (hs : s.size ≤ maxLen) :
    Calls Try.prog 11 #[.slice A n c, .agg #[.int .i64 a, .int .i64 b, .string s], .int .i64 k] w fun e w' => e = .returned (.bool true) ∧ Below w.heap.size w w' := by
  obtain ⟨d, rfl, hd⟩ := str_of s
  have hd' : d.length ≤ maxLen := by omega
  unfold maxLen at hc hd'
  clear hd hs
  have hls : ∀ r ∈ l, r.2.2.length ≤ 9223372036854775807 := fun r hr => (hl r hr).2.2
  have hl64 : ∀ r ∈ l, I64 r.1 := fun r hr => (hl r hr).1
  have HLS := Lib.hid hls
  have HL64 := Lib.hid hl64
  clear hls hl64 hl
  by_cases hf : fewB l = true
  · have HF := Lib.hid hf
    have hn : n ≤ 200 := by
      have := HF.out
      simp only [fewB, Bool.and_eq_true, decide_eq_true_eq] at this
      rw [rd_rlen h] at this
      exact this.1
    clear hf
    by_cases hf2 : fewB [(a, b, d)] = true
    · have HF2 := Lib.hid hf2
      clear hf2
      go_enter Try.func11, Try.ntmps11
      go_wp2_with fail
      have HB : Below w.heap.size w (w.alloc (.cells #[.int .i64 a, .int .i64 b, str d] 50)) := (by first | exact Below.refl _ _ | (repeat (first | exact Below.refl _ _ | assumption | refine Below.drew ?_ | refine Below.drewN_ ?_ _ | refine Below.alloc ?_ (by first | exact Nat.le_refl _ | (simp; done) | (simp; omega) | omega) _ | refine Below.setCell ?_ (by first | exact Nat.le_refl _ | (simp; done) | (simp; omega) | omega) _ | (refine Below.trans ?_ (Below.mono (by assumption) (by first | exact Nat.le_refl _ | (simp; done) | (simp; omega) | omega))))))
      have g0 : Blk (w.alloc (.cells #[.int .i64 a, .int .i64 b, str d] 50)) w.heap.size 50 #[.int .i64 a, .int .i64 b, str d] := Blk.new _ _ _
      have zz0 : w.heap.size + 1 ≤ (w.alloc (.cells #[.int .i64 a, .int .i64 b, str d] 50)).heap.size := by simp
      generalize w.alloc (.cells #[.int .i64 a, .int .i64 b, str d] 50) = w0 at *
      refine (few_any A n c l true HF.out _ ((h.below HB).more HB.size) (by omega) HLS.out).mono ?_
      rintro e w1 ⟨rfl, hb1⟩
      replace g0 := g0.below hb1 (by omega)
      have z1 := hb1.size; replace HB := HB.trans (hb1.mono HB.size); have zz1 := HB.size
      have g0' := g0
      obtain ⟨c0, c1, c2, _⟩ := blk3 g0'
      clear hb1 g0'
      go_wp2_with fail
      have HB2 : Below w.heap.size w (w1.alloc (.cells #[.int .i64 a, .int .i64 b, str d] 50)) := HB.alloc HB.size _
      have g2 := g0.alloc (.cells #[.int .i64 a, .int .i64 b, str d] 50)
      refine (few_any (some ⟨w1.heap.size, 0, none⟩) 1 1 [(a, b, d)] true HF2.out _ ((rd_new (W0 := w1) (t := 50) (cs := rcells [(a, b, d)]) rfl rfl).more (by simp)) (by omega) (by simp; omega)).mono ?_
      rintro e w2 ⟨rfl, hb2⟩
      replace g0 := g2.below hb2 (by simp; omega)
      replace HB := HB2.trans (hb2.mono HB2.size)
      have zz2 := HB.size
      clear hb2 HB2 g2 c0 c1 c2
      have g0' := g0
      obtain ⟨c0, c1, c2, _⟩ := blk3 g0'
      clear g0'
      go_wp2_with fail
      have hal := addN_len l (a, b, d)
      rw [rd_rlen h] at hal
      have C3 := add_any A n c l (a, b, d) w2 ((h.below HB).more HB.size) (by omega) hnc hc
      have C4 := fun w HH => refAdd_any A n c l (a, b, d) w HH (by omega) hnc hc
      generalize addN l (a, b, d) = p at *
      have HC4 := Lib.hid C4
      clear C4
      refine C3.mono ?_
      clear C3
      rintro e w3 ⟨A3, n3, c3, rfl, hnc3, r3, hb3⟩
      have hn3 := rd_rlen r3
      have hn3' : n3 ≤ 1000 := by omega
      replace g0 := g0.below hb3 (by omega)
      have z3 := hb3.size; replace HB := HB.trans (hb3.mono HB.size); have zz3 := HB.size
      clear hb3 hn3 c0 c1 c2
      have g0' := g0
      obtain ⟨c0, c1, c2, _⟩ := blk3 g0'
      clear g0'
      go_wp2_with fail
      refine (HC4.out _ ((h.below HB).more HB.size)).mono ?_
      rintro e w4 ⟨A4, n4, c4, rfl, hnc4, r4, hb4⟩
      have hn4 := rd_rlen r4
      have hn4' : n4 ≤ 1000 := by omega
      replace r3 := (r3.below hb4).more hb4.size
      have z4 := hb4.size; replace HB := HB.trans (hb4.mono HB.size); have zz4 := HB.size
      clear hb4 hn4 g0 c0 c1 c2 HC4
      go_wp2_with fail
      have C6 := fun w HH => refChunks_any A n c l k w HH (by omega)
      have C5 := chunks_any A n c l k _ ((h.below HB).more HB.size) (by omega) hnc hc
      generalize chunksV k l = q at *
      have HC6 := Lib.hid C6
      clear C6
      refine C5.mono ?_
      clear C5
      rintro e w5 ⟨A5, n5, c5, rfl, hn5, hc5, r5, hb5⟩
      replace r3 := (r3.below hb5).more hb5.size
      replace r4 := (r4.below hb5).more hb5.size
      have z5 := hb5.size; replace HB := HB.trans (hb5.mono HB.size); have zz5 := HB.size
      clear hb5
      go_wp2_with fail
      refine (HC6.out _ ((h.below HB).more HB.size)).mono ?_
      rintro e w6 ⟨A6, n6, c6, rfl, hn6, hc6, r6, hb6⟩
      replace r3 := (r3.below hb6).more hb6.size
      replace r4 := (r4.below hb6).more hb6.size
      replace r5 := (r5.below hb6).more hb6.size
      have z6 := hb6.size; replace HB := HB.trans (hb6.mono HB.size); have zz6 := HB.size
      unfold maxLen at hc5 hc6
      clear hb6 HC6
      go_wp2_with fail
      refine (sameR_any A3 A4 n3 c3 n4 c4 p.1 p.1 _ r3 r4 (by omega) (by omega)).mono ?_
      rintro e w7 ⟨rfl, hb7⟩
      replace r5 := (r5.below hb7).more hb7.size
      replace r6 := (r6.below hb7).more hb7.size
      have z7 := hb7.size; replace HB := HB.trans (hb7.mono HB.size); have zz7 := HB.size
      clear hb7 r3 r4
      rw [decide_eq_true (rfl : p.1 = p.1)]
      go_wp2_with fail
      refine (sameRR_any A5 A6 n5 c5 n6 c6 q.1 q.1 _ r5 r6 (by omega) (by omega)).mono ?_
      rintro e w8 ⟨rfl, hb8⟩
      have z8 := hb8.size; replace HB := HB.trans (hb8.mono HB.size); have zz8 := HB.size
      clear hb8 r5 r6
      rw [decide_eq_true (rfl : q.1 = q.1)]
      go_wp2_with fail
      refine (raw_any A n c l _ ((h.below HB).more HB.size) (by omega)).mono ?_
      rintro e w9 ⟨rfl, hb9⟩
      have z9 := hb9.size; replace HB := HB.trans (hb9.mono HB.size); have zz9 := HB.size
      go_wp2_with fail
      refine (refRaw_any A n c l _ ((h.below HB).more HB.size) (by omega)).mono ?_
      rintro e w10 ⟨rfl, hb10⟩
      have z10 := hb10.size; replace HB := HB.trans (hb10.mono HB.size); have zz10 := HB.size
      go_wp2_with fail
      refine (times_any A n c l _ ((h.below HB).more HB.size) (by omega)).mono ?_
      rintro e w11 ⟨rfl, hb11⟩
      have z11 := hb11.size; replace HB := HB.trans (hb11.mono HB.size); have zz11 := HB.size
      go_wp2_with fail
      refine (refTimes_any A n c l _ ((h.below HB).more HB.size) (by omega)).mono ?_
      rintro e w12 ⟨rfl, hb12⟩
      have z12 := hb12.size; replace HB := HB.trans (hb12.mono HB.size); have zz12 := HB.size
      go_wp2_with fail
      refine (next_any A n c l k _ ((h.below HB).more HB.size) (by omega) HL64.out).mono ?_
      rintro e w13 ⟨rfl, hb13⟩
      have z13 := hb13.size; replace HB := HB.trans (hb13.mono HB.size); have zz13 := HB.size
      go_wp2_with fail
      refine (refNext_any A n c l k _ ((h.below HB).more HB.size) (by omega) HL64.out).mono ?_
      rintro e w14 ⟨rfl, hb14⟩
      have z14 := hb14.size; replace HB := HB.trans (hb14.mono HB.size); have zz14 := HB.size
      go_wp2_with fail
      refine (awake_any _).mono ?_
      rintro e w15 ⟨rfl, hb15⟩
      have z15 := hb15.size; replace HB := HB.trans (hb15.mono HB.size); have zz15 := HB.size
      go_wp2_with fail
      go_ret
      exact ⟨rfl, HB⟩
    · have HF2 := Lib.hid (show fewB [(a, b, d)] = false by simpa using hf2)
      clear hf2
      go_enter Try.func11, Try.ntmps11
      go_wp2_with fail
      have HB : Below w.heap.size w (w.alloc (.cells #[.int .i64 a, .int .i64 b, str d] 50)) := (by first | exact Below.refl _ _ | (repeat (first | exact Below.refl _ _ | assumption | refine Below.drew ?_ | refine Below.drewN_ ?_ _ | refine Below.alloc ?_ (by first | exact Nat.le_refl _ | (simp; done) | (simp; omega) | omega) _ | refine Below.setCell ?_ (by first | exact Nat.le_refl _ | (simp; done) | (simp; omega) | omega) _ | (refine Below.trans ?_ (Below.mono (by assumption) (by first | exact Nat.le_refl _ | (simp; done) | (simp; omega) | omega))))))
      have g0 : Blk (w.alloc (.cells #[.int .i64 a, .int .i64 b, str d] 50)) w.heap.size 50 #[.int .i64 a, .int .i64 b, str d] := Blk.new _ _ _
      have zz0 : w.heap.size + 1 ≤ (w.alloc (.cells #[.int .i64 a, .int .i64 b, str d] 50)).heap.size := by simp
      generalize w.alloc (.cells #[.int .i64 a, .int .i64 b, str d] 50) = w0 at *
      refine (few_any A n c l true HF.out _ ((h.below HB).more HB.size) (by omega) HLS.out).mono ?_
      rintro e w1 ⟨rfl, hb1⟩
      replace g0 := g0.below hb1 (by omega)
      have z1 := hb1.size; replace HB := HB.trans (hb1.mono HB.size); have zz1 := HB.size
      obtain ⟨c0, c1, c2, _⟩ := blk3 g0
      clear hb1
      go_wp2_with fail
      have HB2 : Below w.heap.size w (w1.alloc (.cells #[.int .i64 a, .int .i64 b, str d] 50)) := HB.alloc HB.size _
      refine (few_any (some ⟨w1.heap.size, 0, none⟩) 1 1 [(a, b, d)] false HF2.out _ ((rd_new (W0 := w1) (t := 50) (cs := rcells [(a, b, d)]) rfl rfl).more (by simp)) (by omega) (by simp; omega)).mono ?_
      rintro e w2 ⟨rfl, hb2⟩
      replace HB := HB2.trans (hb2.mono HB2.size)
      go_wp2_with fail
      refine (awake_any _).mono ?_
      rintro e w15 ⟨rfl, hb15⟩
      have z15 := hb15.size; replace HB := HB.trans (hb15.mono HB.size); have zz15 := HB.size
      go_wp2_with fail
      go_ret
      exact ⟨rfl, HB⟩
  · have HF := Lib.hid (show fewB l = false by simpa using hf)
    clear hf
    go_enter Try.func11, Try.ntmps11
    go_wp2_with fail
    have HB : Below w.heap.size w (w.alloc (.cells #[.int .i64 a, .int .i64 b, str d] 50)) := (by first | exact Below.refl _ _ | (repeat (first | exact Below.refl _ _ | assumption | refine Below.drew ?_ | refine Below.drewN_ ?_ _ | refine Below.alloc ?_ (by first | exact Nat.le_refl _ | (simp; done) | (simp; omega) | omega) _ | refine Below.setCell ?_ (by first | exact Nat.le_refl _ | (simp; done) | (simp; omega) | omega) _ | (refine Below.trans ?_ (Below.mono (by assumption) (by first | exact Nat.le_refl _ | (simp; done) | (simp; omega) | omega))))))
    generalize w.alloc (.cells #[.int .i64 a, .int .i64 b, str d] 50) = w0 at *
    refine (few_any A n c l false HF.out _ ((h.below HB).more HB.size) (by have := rd_rlen h; omega) HLS.out).mono ?_
    rintro e w1 ⟨rfl, hb1⟩
    have z1 := hb1.size; replace HB := HB.trans (hb1.mono HB.size); have zz1 := HB.size
    go_wp2_with fail
    refine (awake_any _).mono ?_
    rintro e w15 ⟨rfl, hb15⟩
    have z15 := hb15.size; replace HB := HB.trans (hb15.mono HB.size); have zz15 := HB.size
    go_wp2_with fail
    go_ret
    exact ⟨rfl, HB⟩

set_option maxRecDepth 100000 in
set_option maxHeartbeats 4000000 in
theorem adds_law (A : Option Addr) (n c : Nat) (l : List Rc) (a b : Int) (s : ByteArray) (w : World) (h : Rd w w.heap.size 3 A n (rcells l)) (hnc : n ≤ c) (hc : c ≤ maxLen) (hl : ∀ x ∈ l, RcOk x) (hs : s.size ≤ maxLen) :
    Calls Try.prog 13 #[.slice A n c, .agg #[.int .i64 a, .int .i64 b, .string s]] w fun e w' => e = .returned (.bool true) ∧ Below w.heap.size w w' := by
  obtain ⟨d, rfl, hd⟩ := str_of s
  have hd' : d.length ≤ maxLen := by omega
  unfold maxLen at hc hd'
  clear hd hs
  have hls : ∀ r ∈ l, r.2.2.length ≤ 9223372036854775807 := fun r hr => (hl r hr).2.2
  have hl64 : ∀ r ∈ l, I64 r.1 := fun r hr => (hl r hr).1
  have HLS := Lib.hid hls
  have HL64 := Lib.hid hl64
  clear hls hl64 hl
  by_cases hf : fewB l = true
  · have HF := Lib.hid hf
    have hn : n ≤ 200 := by
      have := HF.out
      simp only [fewB, Bool.and_eq_true, decide_eq_true_eq] at this
      rw [rd_rlen h] at this
      exact this.1
    clear hf
    by_cases hf2 : fewB [(a, b, d)] = true
    · have HF2 := Lib.hid hf2
      clear hf2
      go_enter Try.func13, Try.ntmps13
      go_wp2_with fail
      have HB : Below w.heap.size w (w.alloc (.cells #[.int .i64 a, .int .i64 b, str d] 50)) := (by first | exact Below.refl _ _ | (repeat (first | exact Below.refl _ _ | assumption | refine Below.drew ?_ | refine Below.drewN_ ?_ _ | refine Below.alloc ?_ (by first | exact Nat.le_refl _ | (simp; done) | (simp; omega) | omega) _ | refine Below.setCell ?_ (by first | exact Nat.le_refl _ | (simp; done) | (simp; omega) | omega) _ | (refine Below.trans ?_ (Below.mono (by assumption) (by first | exact Nat.le_refl _ | (simp; done) | (simp; omega) | omega))))))
      have g0 : Blk (w.alloc (.cells #[.int .i64 a, .int .i64 b, str d] 50)) w.heap.size 50 #[.int .i64 a, .int .i64 b, str d] := Blk.new _ _ _
      have zz0 : w.heap.size + 1 ≤ (w.alloc (.cells #[.int .i64 a, .int .i64 b, str d] 50)).heap.size := by simp
      generalize w.alloc (.cells #[.int .i64 a, .int .i64 b, str d] 50) = w0 at *
      refine (few_any A n c l true HF.out _ ((h.below HB).more HB.size) (by omega) HLS.out).mono ?_
      rintro e w1 ⟨rfl, hb1⟩
      replace g0 := g0.below hb1 (by omega)
      have z1 := hb1.size; replace HB := HB.trans (hb1.mono HB.size); have zz1 := HB.size
      have g0' := g0
      obtain ⟨c0, c1, c2, _⟩ := blk3 g0'
      clear hb1 g0'
      go_wp2_with fail
      have HB2 : Below w.heap.size w (w1.alloc (.cells #[.int .i64 a, .int .i64 b, str d] 50)) := HB.alloc HB.size _
      have g2 := g0.alloc (.cells #[.int .i64 a, .int .i64 b, str d] 50)
      refine (few_any (some ⟨w1.heap.size, 0, none⟩) 1 1 [(a, b, d)] true HF2.out _ ((rd_new (W0 := w1) (t := 50) (cs := rcells [(a, b, d)]) rfl rfl).more (by simp)) (by omega) (by simp; omega)).mono ?_
      rintro e w2 ⟨rfl, hb2⟩
      replace g0 := g2.below hb2 (by simp; omega)
      replace HB := HB2.trans (hb2.mono HB2.size)
      have zz2 := HB.size
      clear hb2 HB2 g2 c0 c1 c2
      have g0' := g0
      obtain ⟨c0, c1, c2, _⟩ := blk3 g0'
      clear g0'
      have hr2 := h.below HB
      have hzb : w.heap.size + 1 ≤ w2.heap.size := by omega
      have hzc : w.heap.size ≤ w2.heap.size := by omega
      go_wp2_with (at_builtin; with_reducible refine wp_append El_rec rfl (s := .tmp 18) (x := .tmp 19) rfl rfl (own_new (W0 := w2) (t := 50) (base := w.heap.size + 1) (n := 0) (size := 3) (cs := []) rfl rfl hzb (Nat.zero_le _)) rfl (hr2.below (w' := w2.alloc (.cells [].toArray 50)) (Below.alloc (Below.refl _ _) hzc _)) (rcells_one _) (by unfold maxLen; omega) (by omega) (by simp; omega) ?_; intro A9 c9 w9 o9 hg9 hat9; have hg29 := grown_fresh (row := blkOf (some ⟨w2.heap.size, 0, none⟩)) (by intro k hk; simp only [blkOf, Option.map_some, Option.some.injEq] at hk; omega) hg9; replace g0 := g0.grow0 hg29; replace HB := below_grow HB hg29; have zz9 := HB.size; simp only [Nat.zero_add, List.nil_append] at o9; clear hg9 hg29 hat9 c0 c1 c2 hr2; have g0' := g0; obtain ⟨c0, c1, c2, _⟩ := blk3 g0'; clear g0')
      have hal := addN_len l (a, b, d)
      rw [rd_rlen h] at hal
      obtain ⟨p, hp⟩ : ∃ p, addN l (a, b, d) = p := ⟨_, rfl⟩
      rw [hp] at hal
      have HP := Lib.hid hp
      have C3 := add_eq A n c l (a, b, d) p hp _ ((h.below HB).more HB.size) (by omega) hnc hc
      clear hp
      refine C3.mono ?_
      clear C3
      rintro e w3 ⟨A3, n3, c3, rfl, hnc3, r3, hb3⟩
      have hn3 := rd_rlen r3
      have hn3' : n3 ≤ 1000 := by omega
      have HN3 := Lib.hid hn3
      have o3 := o9.below hb3
      replace g0 := g0.below hb3 (by omega)
      have z3 := hb3.size; replace HB := HB.trans (hb3.mono HB.size); have zz3 := HB.size
      clear hb3 hn3 c0 c1 c2 o9
      go_wp2_with fail
      refine (sameR_any A A9 n c n c9 l l _ ((h.below HB).more HB.size) o3.rd (by omega) (by omega)).mono ?_
      rintro e w4 ⟨rfl, hb4⟩
      rw [decide_eq_true (rfl : l = l)]
      replace r3 := (r3.below hb4).more hb4.size
      replace g0 := g0.below hb4 (by omega)
      have z4 := hb4.size; replace HB := HB.trans (hb4.mono HB.size); have zz4 := HB.size
      clear hb4 o3
      by_cases h0 : p.2 = 0
      · have hq1 : (p.2 != 0) = false := by simp [h0]
        obtain ⟨y1, y2, y3⟩ := addN_yes (show (addN l (a, b, d)).2 = 0 by rw [HP.out]; exact h0)
        rw [HP.out] at y1
        have y4 := rawN_more y3
        have y5 := (okR_iff _).1 (rowFrom_ok y2 (a, b, d) (by simp))
        dsimp only at y5
        have y6 := nextN_more l (a, b, d) y5.2.1
        rw [y1] at r3
        have hn4 : n3 = n + 1 := by have := HN3.out; rw [y1] at this; simp at this; have := rd_rlen h; omega
        subst hn4
        have hb1 : 1 ≤ a := y5.1
        have hb2 : a ≤ 1000000000 := y5.2.1
        have HY2 := Lib.hid y2
        have HY4 := Lib.hid y4
        have HY6 := Lib.hid y6
        have hrl := rawN_le l
        have hsl := sizeN_le (a, b, d)
        have rh := r3.take n (by omega)
        rw [← rcells_take, List.take_append, List.take_of_length_le (by have := rd_rlen h; omega)] at rh
        rw [show List.take (n - l.length) [(a, b, d)] = [] by rw [show n - l.length = 0 by have := rd_rlen h; omega]; rfl, List.append_nil] at rh
        obtain ⟨bb, oo, rfl, hbb, hcc⟩ := rd_recs r3 (by omega)
        obtain ⟨m0, m1, m2⟩ := hcc n (by have := rd_rlen h; simp; omega)
        rw [List.getElem_append_right (by have := rd_rlen h; omega)] at m0 m1 m2
        simp only [List.getElem_singleton] at m0 m1 m2
        clear hcc y1 y2 y3 y4 y5 y6 h0
        have HC := Lib.hid (blk3 g0)
        have hbx := g0.lt
        have M0 := Lib.hid m0
        have M1 := Lib.hid m1
        have M2 := Lib.hid m2
        clear m0 m1 m2
        have keepS : ∀ w', Below w4.heap.size w4 w' → (w'.cell? ⟨bb, oo + n * 3, none⟩ = some (.int .i64 a) ∧ w'.cell? ⟨bb, oo + n * 3 + 1, none⟩ = some (.int .i64 b) ∧ w'.cell? ⟨bb, oo + n * 3 + 2, none⟩ = some (str d) ∧ w'.cell? ⟨w.heap.size, 0, none⟩ = some (.int .i64 a) ∧ w'.cell? ⟨w.heap.size, 1, none⟩ = some (.int .i64 b) ∧ w'.cell? ⟨w.heap.size, 2, none⟩ = some (str d)) := fun w' hb =>
          ⟨(hb.cell (p := ⟨bb, oo + n * 3, none⟩) hbb).trans M0.out, (hb.cell (p := ⟨bb, oo + n * 3 + 1, none⟩) hbb).trans M1.out, (hb.cell (p := ⟨bb, oo + n * 3 + 2, none⟩) hbb).trans M2.out,
            (hb.cell (p := ⟨w.heap.size, 0, none⟩) hbx).trans HC.out.1, (hb.cell (p := ⟨w.heap.size, 1, none⟩) hbx).trans HC.out.2.1, (hb.cell (p := ⟨w.heap.size, 2, none⟩) hbx).trans HC.out.2.2.1⟩
        have KEEP := Lib.hid keepS
        clear keepS
        obtain ⟨ie, _, hie, _, hsz, _⟩ := El_rec.inf
        have hsl := run_slice_upto (P := Try.prog) Try.underlying48 hie (by rw [hsz]; exact r3) c3 n (by omega) hnc3
        have hw1 : IntKind.i64.wrap ((n : Int) + 1) = (n : Int) + 1 := IntWalk.i64_in _ (by omega)
        have hn0 : (0 : Int) ≤ (n : Int) := by omega
        have hn1 : (n : Int) < (n : Int) + 1 := by omega
        have HW : Below w4.heap.size w4 w4 := Below.refl _ _
        go_wp2_with fail
        refine wp_region_held_drew (S := (fun w' => w'.cell? ⟨bb, oo + n * 3, none⟩ = some (.int .i64 a) ∧ w'.cell? ⟨bb, oo + n * 3 + 1, none⟩ = some (.int .i64 b) ∧ w'.cell? ⟨bb, oo + n * 3 + 2, none⟩ = some (str d) ∧ w'.cell? ⟨w.heap.size, 0, none⟩ = some (.int .i64 a) ∧ w'.cell? ⟨w.heap.size, 1, none⟩ = some (.int .i64 b) ∧ w'.cell? ⟨w.heap.size, 2, none⟩ = some (str d))) (by kernel_rfl) ?_ (fun hHeld => ?_)
        · replace HB := Below.drew HB; replace HW := Below.drew HW; replace rh := Rd.drew rh; replace r3 := Rd.drew r3; (try dsimp only); exact KEEP.out _ HW
        replace HB := Below.drew HB
        replace HW := Below.drew HW
        replace rh := Rd.drew rh
        replace r3 := Rd.drew r3
        have zHB := HB.size
        have zHW := HW.size
        refine take_move 0 (Operand.tmp 6) rfl rfl (by first | exact .inl rfl | exact .inr rfl) rfl (by kernel_rfl) (by kernel_rfl) (by kernel_rfl) (fun _ _ _ h => h) (by assumption) ?_
        simp only [List.setIfInBounds_toArray, List.set_cons_zero, List.set_cons_succ]
        refine take_op (v := ?vu1x1) 1 (Op.call { callee := Callee.builtin Builtin.len, args := #[Operand.tmp 39], argTypes := #[48] }) 3 rfl rfl rfl rfl rfl (by kernel_rfl) (by kernel_rfl) (by kernel_rfl) (fun _ _ _ h => h) ?yu1x1 (by assumption) ?ru1x1
        case yu1x1 => (intro w' hSw; (try dsimp only at hSw); go_simp; try (with_reducible rfl))
        simp only [List.setIfInBounds_toArray, List.set_cons_zero, List.set_cons_succ]
        refine take_move 2 (Operand.tmp 0) rfl rfl (by first | exact .inl rfl | exact .inr rfl) rfl (by kernel_rfl) (by kernel_rfl) (by kernel_rfl) (fun _ _ _ h => h) (by assumption) ?_
        simp only [List.setIfInBounds_toArray, List.set_cons_zero, List.set_cons_succ]
        refine take_op (v := ?vu1x3) 3 (Op.call { callee := Callee.builtin Builtin.len, args := #[Operand.tmp 41], argTypes := #[48] }) 3 rfl rfl rfl rfl rfl (by kernel_rfl) (by kernel_rfl) (by kernel_rfl) (fun _ _ _ h => h) ?yu1x3 (by assumption) ?ru1x3
        case yu1x3 => (intro w' hSw; (try dsimp only at hSw); go_simp; try (with_reducible rfl))
        simp only [List.setIfInBounds_toArray, List.set_cons_zero, List.set_cons_succ]
        refine take_op (v := ?vu1x4) 4 (Op.binOp BinOp.add 3 (Operand.tmp 42) (Operand.const (Value.int IntKind.i64 1)) 3) 3 rfl rfl rfl rfl rfl (by kernel_rfl) (by kernel_rfl) (by kernel_rfl) (fun _ _ _ h => h) ?yu1x4 (by assumption) ?ru1x4
        case yu1x4 => (intro w' hSw; (try dsimp only at hSw); go_simp; try (with_reducible rfl))
        simp only [List.setIfInBounds_toArray, List.set_cons_zero, List.set_cons_succ]
        refine take_op (v := ?vu1x5) 5 (Op.binOp BinOp.neq 3 (Operand.tmp 40) (Operand.tmp 43) 3) 4 rfl rfl rfl rfl rfl (by kernel_rfl) (by kernel_rfl) (by kernel_rfl) (fun _ _ _ h => h) ?yu1x5 (by assumption) ?ru1x5
        case yu1x5 => (intro w' hSw; (try dsimp only at hSw); go_simp; try (with_reducible rfl))
        simp only [List.setIfInBounds_toArray, List.set_cons_zero, List.set_cons_succ]
        refine take_move 6 (Operand.tmp 44) rfl rfl (by first | exact .inl rfl | exact .inr rfl) rfl (by kernel_rfl) (by kernel_rfl) (by kernel_rfl) (fun _ _ _ h => h) (by assumption) ?_
        simp only [List.setIfInBounds_toArray, List.set_cons_zero, List.set_cons_succ]
        refine take_move 7 (Operand.tmp 6) rfl rfl (by first | exact .inl rfl | exact .inr rfl) rfl (by kernel_rfl) (by kernel_rfl) (by kernel_rfl) (fun _ _ _ h => h) (by assumption) ?_
        simp only [List.setIfInBounds_toArray, List.set_cons_zero, List.set_cons_succ]
        refine take_move 8 (Operand.tmp 0) rfl rfl (by first | exact .inl rfl | exact .inr rfl) rfl (by kernel_rfl) (by kernel_rfl) (by kernel_rfl) (fun _ _ _ h => h) (by assumption) ?_
        simp only [List.setIfInBounds_toArray, List.set_cons_zero, List.set_cons_succ]
        refine take_op (v := ?vu1x9) 9 (Op.call { callee := Callee.builtin Builtin.len, args := #[Operand.tmp 47], argTypes := #[48] }) 3 rfl rfl rfl rfl rfl (by kernel_rfl) (by kernel_rfl) (by kernel_rfl) (fun _ _ _ h => h) ?yu1x9 (by assumption) ?ru1x9
        case yu1x9 => (intro w' hSw; (try dsimp only at hSw); go_simp; try (with_reducible rfl))
        simp only [List.setIfInBounds_toArray, List.set_cons_zero, List.set_cons_succ]
        refine take_op (v := ?vu1x10) 10 (Op.slice 48 (Operand.tmp 46) none (some (Operand.tmp 48)) none) 48 rfl rfl rfl rfl rfl (by kernel_rfl) (by kernel_rfl) (by kernel_rfl) (fun _ _ _ h => h) ?yu1x10 (by assumption) ?ru1x10
        case yu1x10 => (intro w' hSw; (try dsimp only at hSw); go_simp; try (with_reducible rfl))
        simp only [List.setIfInBounds_toArray, List.set_cons_zero, List.set_cons_succ]
        refine take_move 11 (Operand.tmp 0) rfl rfl (by first | exact .inl rfl | exact .inr rfl) rfl (by kernel_rfl) (by kernel_rfl) (by kernel_rfl) (fun _ _ _ h => h) (by assumption) ?_
        simp only [List.setIfInBounds_toArray, List.set_cons_zero, List.set_cons_succ]
        refine wpAnyH_ready (rs := [12]) (by kernel_rfl) (by simp) (AllReadyH.cons rfl (fun K12 hK12 => ?ku1x12) AllReadyH.nil)
        refine take_calls 12 46 [Operand.tmp 49, Operand.tmp 50] #[48, 48] rfl rfl (by kernel_rfl) (fun args w => run_enter Try.func46 (by kernel_rfl) rfl args w) ?_
        refine (asB (sameR_any (some ⟨bb, oo, none⟩) A n c3 n c l l _ (rh.more (by omega)) ((h.below HB).more HB.size) (by omega) (by omega)) (decide_eq_true rfl)).mono ?_
        rintro e w12 ⟨rfl, hb12⟩
        refine ⟨_, rfl, ?_⟩
        have z12 := hb12.size
        try simp only [World.size_drew] at z12
        replace HB := HB.trans (hb12.mono HB.size)
        have zHB12 := HB.size
        replace HW := HW.trans (hb12.mono HW.size)
        have zHW12 := HW.size
        replace rh := Rd.below rh (hb12.mono (by first | exact Nat.le_refl _ | (simp only [World.size_alloc, World.size_setCell, World.size_drew] at *; omega) | omega))
        replace r3 := Rd.below r3 (hb12.mono (by first | exact Nat.le_refl _ | (simp only [World.size_alloc, World.size_setCell, World.size_drew] at *; omega) | omega))
        refine hK12.out _ _ ?su1x12 (fun hHeld => ?ru1x12)
        case su1x12 => ((try dsimp only); exact KEEP.out _ HW)
        try simp only [List.setIfInBounds_toArray, List.set_cons_zero, List.set_cons_succ]
        refine take_op (v := ?vu1x13) 13 (Op.unOp UnOp.not 4 (Operand.tmp 51)) 4 rfl rfl rfl rfl rfl (by kernel_rfl) (by kernel_rfl) (by kernel_rfl) (fun _ _ _ h => h) ?yu1x13 (by assumption) ?ru1x13
        case yu1x13 => (intro w' hSw; (try dsimp only at hSw); go_simp; try (with_reducible rfl))
        simp only [List.setIfInBounds_toArray, List.set_cons_zero, List.set_cons_succ]
        refine take_op (v := ?vu1x14) 14 (Op.pick (Operand.tmp 45) (Operand.const (Value.bool true)) (Operand.tmp 52)) 4 rfl rfl rfl rfl rfl (by kernel_rfl) (by kernel_rfl) (by kernel_rfl) (fun _ _ _ h => h) ?yu1x14 (by assumption) ?ru1x14
        case yu1x14 => (intro w' hSw; (try dsimp only at hSw); go_simp; try (with_reducible rfl))
        simp only [List.setIfInBounds_toArray, List.set_cons_zero, List.set_cons_succ]
        refine take_move 15 (Operand.tmp 53) rfl rfl (by first | exact .inl rfl | exact .inr rfl) rfl (by kernel_rfl) (by kernel_rfl) (by kernel_rfl) (fun _ _ _ h => h) (by assumption) ?_
        simp only [List.setIfInBounds_toArray, List.set_cons_zero, List.set_cons_succ]
        refine take_move 16 (Operand.tmp 6) rfl rfl (by first | exact .inl rfl | exact .inr rfl) rfl (by kernel_rfl) (by kernel_rfl) (by kernel_rfl) (fun _ _ _ h => h) (by assumption) ?_
        simp only [List.setIfInBounds_toArray, List.set_cons_zero, List.set_cons_succ]
        refine take_move 17 (Operand.tmp 0) rfl rfl (by first | exact .inl rfl | exact .inr rfl) rfl (by kernel_rfl) (by kernel_rfl) (by kernel_rfl) (fun _ _ _ h => h) (by assumption) ?_
        simp only [List.setIfInBounds_toArray, List.set_cons_zero, List.set_cons_succ]
        refine take_op (v := ?vu1x18) 18 (Op.call { callee := Callee.builtin Builtin.len, args := #[Operand.tmp 56], argTypes := #[48] }) 3 rfl rfl rfl rfl rfl (by kernel_rfl) (by kernel_rfl) (by kernel_rfl) (fun _ _ _ h => h) ?yu1x18 (by assumption) ?ru1x18
        case yu1x18 => (intro w' hSw; (try dsimp only at hSw); go_simp; try (with_reducible rfl))
        simp only [List.setIfInBounds_toArray, List.set_cons_zero, List.set_cons_succ]
        refine take_op (v := ?vu1x19) 19 (Op.indexAddr 48 (Operand.tmp 55) (Operand.tmp 57)) 0 rfl rfl rfl rfl rfl (by kernel_rfl) (by kernel_rfl) (by kernel_rfl) (fun _ _ _ h => h) ?yu1x19 (by assumption) ?ru1x19
        case yu1x19 => (intro w' hSw; (try dsimp only at hSw); go_simp; try (with_reducible rfl))
        simp only [List.setIfInBounds_toArray, List.set_cons_zero, List.set_cons_succ]
        refine take_op (v := ?vu1x20) 20 (Op.load 50 (Operand.tmp 58)) 50 rfl rfl rfl rfl rfl (by kernel_rfl) (by kernel_rfl) (by kernel_rfl) (fun _ _ _ h => h) ?yu1x20 (by assumption) ?ru1x20
        case yu1x20 => (intro w' hSw; (try dsimp only at hSw); go_simp; try (with_reducible rfl))
        simp only [List.setIfInBounds_toArray, List.set_cons_zero, List.set_cons_succ]
        refine take_op (v := ?vu1x21) 21 (Op.load 50 (Operand.tmp 3)) 50 rfl rfl rfl rfl rfl (by kernel_rfl) (by kernel_rfl) (by kernel_rfl) (fun _ _ _ h => h) ?yu1x21 (by assumption) ?ru1x21
        case yu1x21 => (intro w' hSw; (try dsimp only at hSw); go_simp; try (with_reducible rfl))
        simp only [List.setIfInBounds_toArray, List.set_cons_zero, List.set_cons_succ]
        refine take_op (v := ?vu1x22) 22 (Op.binOp BinOp.neq 50 (Operand.tmp 59) (Operand.tmp 60) 50) 4 rfl rfl rfl rfl rfl (by kernel_rfl) (by kernel_rfl) (by kernel_rfl) (fun _ _ _ h => h) ?yu1x22 (by assumption) ?ru1x22
        case yu1x22 => (intro w' hSw; (try dsimp only at hSw); go_simp; try (with_reducible rfl))
        simp only [List.setIfInBounds_toArray, List.set_cons_zero, List.set_cons_succ]
        refine take_op (v := ?vu1x23) 23 (Op.pick (Operand.tmp 54) (Operand.const (Value.bool true)) (Operand.tmp 61)) 4 rfl rfl rfl rfl rfl (by kernel_rfl) (by kernel_rfl) (by kernel_rfl) (fun _ _ _ h => h) ?yu1x23 (by assumption) ?ru1x23
        case yu1x23 => (intro w' hSw; (try dsimp only at hSw); go_simp; try (with_reducible rfl))
        simp only [List.setIfInBounds_toArray, List.set_cons_zero, List.set_cons_succ]
        refine take_move 24 (Operand.tmp 62) rfl rfl (by first | exact .inl rfl | exact .inr rfl) rfl (by kernel_rfl) (by kernel_rfl) (by kernel_rfl) (fun _ _ _ h => h) (by assumption) ?_
        simp only [List.setIfInBounds_toArray, List.set_cons_zero, List.set_cons_succ]
        refine take_move 25 (Operand.tmp 6) rfl rfl (by first | exact .inl rfl | exact .inr rfl) rfl (by kernel_rfl) (by kernel_rfl) (by kernel_rfl) (fun _ _ _ h => h) (by assumption) ?_
        simp only [List.setIfInBounds_toArray, List.set_cons_zero, List.set_cons_succ]
        refine wpAnyH_ready (rs := [26]) (by kernel_rfl) (by simp) (AllReadyH.cons rfl (fun K26 hK26 => ?ku1x26) AllReadyH.nil)
        refine take_calls 26 54 [Operand.tmp 64] #[48] rfl rfl (by kernel_rfl) (fun args w => run_enter Try.func54 (by kernel_rfl) rfl args w) ?_
        refine (asV (row_any (some ⟨bb, oo, none⟩) (n + 1) c3 (l ++ [(a, b, d)]) _ (r3.more (by omega)) (by omega)) (congrArg (Value.int .i64) HY2.out)).mono ?_
        rintro e w26 ⟨rfl, hb26⟩
        refine ⟨_, rfl, ?_⟩
        have z26 := hb26.size
        try simp only [World.size_drew] at z26
        replace HB := HB.trans (hb26.mono HB.size)
        have zHB26 := HB.size
        replace HW := HW.trans (hb26.mono HW.size)
        have zHW26 := HW.size
        replace rh := Rd.below rh (hb26.mono (by first | exact Nat.le_refl _ | (simp only [World.size_alloc, World.size_setCell, World.size_drew] at *; omega) | omega))
        replace r3 := Rd.below r3 (hb26.mono (by first | exact Nat.le_refl _ | (simp only [World.size_alloc, World.size_setCell, World.size_drew] at *; omega) | omega))
        refine hK26.out _ _ ?su1x26 (fun hHeld => ?ru1x26)
        case su1x26 => ((try dsimp only); exact KEEP.out _ HW)
        try simp only [List.setIfInBounds_toArray, List.set_cons_zero, List.set_cons_succ]
        refine take_op (v := ?vu1x27) 27 (Op.binOp BinOp.neq 36 (Operand.tmp 65) (Operand.const (Value.int IntKind.i64 0)) 36) 4 rfl rfl rfl rfl rfl (by kernel_rfl) (by kernel_rfl) (by kernel_rfl) (fun _ _ _ h => h) ?yu1x27 (by assumption) ?ru1x27
        case yu1x27 => (intro w' hSw; (try dsimp only at hSw); go_simp; try (with_reducible rfl))
        simp only [List.setIfInBounds_toArray, List.set_cons_zero, List.set_cons_succ]
        refine take_op (v := ?vu1x28) 28 (Op.pick (Operand.tmp 63) (Operand.const (Value.bool true)) (Operand.tmp 66)) 4 rfl rfl rfl rfl rfl (by kernel_rfl) (by kernel_rfl) (by kernel_rfl) (fun _ _ _ h => h) ?yu1x28 (by assumption) ?ru1x28
        case yu1x28 => (intro w' hSw; (try dsimp only at hSw); go_simp; try (with_reducible rfl))
        simp only [List.setIfInBounds_toArray, List.set_cons_zero, List.set_cons_succ]
        refine wpAnyH_done (by kernel_rfl) ?_ _
        clear hw1 hsl hHeld hb12 hb26
        have hw2 : IntKind.i64.wrap ((rawN l : Int) + (sizeN (a, b, d) : Int)) = (rawN l : Int) + (sizeN (a, b, d) : Int) := IntWalk.i64_in _ (by have := rawN_le l; have := sizeN_le (a, b, d); omega)
        have hw3 : IntKind.i64.wrap (a + 1) = a + 1 := IntWalk.i64_in _ (by omega)
        have h64 : ∀ r ∈ l ++ [(a, b, d)], I64 r.1 := by
          intro r hr
          rw [List.mem_append] at hr
          rcases hr with hr | hr
          · exact HL64.out r hr
          · simp only [List.mem_singleton] at hr
            subst hr
            exact ⟨by show -9223372036854775808 ≤ a; omega, by show a ≤ 9223372036854775807; omega⟩
        have H64 := Lib.hid h64
        clear h64
        go_wp2_with fail
        refine wp_region_held_drew (S := (fun w' => w'.cell? ⟨bb, oo + n * 3, none⟩ = some (.int .i64 a) ∧ w'.cell? ⟨bb, oo + n * 3 + 1, none⟩ = some (.int .i64 b) ∧ w'.cell? ⟨bb, oo + n * 3 + 2, none⟩ = some (str d) ∧ w'.cell? ⟨w.heap.size, 0, none⟩ = some (.int .i64 a) ∧ w'.cell? ⟨w.heap.size, 1, none⟩ = some (.int .i64 b) ∧ w'.cell? ⟨w.heap.size, 2, none⟩ = some (str d))) (by kernel_rfl) ?_ (fun hHeld => ?_)
        · replace HB := Below.drew HB; replace HW := Below.drew HW; replace r3 := Rd.drew r3; (try dsimp only); exact KEEP.out _ HW
        replace HB := Below.drew HB
        replace HW := Below.drew HW
        replace r3 := Rd.drew r3
        have zHB := HB.size
        have zHW := HW.size
        refine take_move 0 (Operand.tmp 6) rfl rfl (by first | exact .inl rfl | exact .inr rfl) rfl (by kernel_rfl) (by kernel_rfl) (by kernel_rfl) (fun _ _ _ h => h) (by assumption) ?_
        simp only [List.setIfInBounds_toArray, List.set_cons_zero, List.set_cons_succ]
        refine take_move 2 (Operand.tmp 0) rfl rfl (by first | exact .inl rfl | exact .inr rfl) rfl (by kernel_rfl) (by kernel_rfl) (by kernel_rfl) (fun _ _ _ h => h) (by assumption) ?_
        simp only [List.setIfInBounds_toArray, List.set_cons_zero, List.set_cons_succ]
        refine take_op (v := ?vu2x4) 4 (Op.load 50 (Operand.tmp 3)) 50 rfl rfl rfl rfl rfl (by kernel_rfl) (by kernel_rfl) (by kernel_rfl) (fun _ _ _ h => h) ?yu2x4 (by assumption) ?ru2x4
        case yu2x4 => (intro w' hSw; (try dsimp only at hSw); go_simp; try (with_reducible rfl))
        simp only [List.setIfInBounds_toArray, List.set_cons_zero, List.set_cons_succ]
        refine wpAnyH_ready (rs := [1]) (by kernel_rfl) (by simp) (AllReadyH.cons rfl (fun K1 hK1 => ?ku2x1) AllReadyH.nil)
        refine take_calls 1 48 [Operand.tmp 68] #[48] rfl rfl (by kernel_rfl) (fun args w => run_enter Try.func48 (by kernel_rfl) rfl args w) ?_
        refine (asV (raw_any (some ⟨bb, oo, none⟩) (n + 1) c3 (l ++ [(a, b, d)]) _ (r3.more (by omega)) (by omega)) (show Value.int .i64 _ = Value.int .i64 ((rawN l : Int) + (sizeN (a, b, d) : Int)) by rw [HY4.out, Int.natCast_add])).mono ?_
        rintro e w1 ⟨rfl, hb1⟩
        refine ⟨_, rfl, ?_⟩
        have z1 := hb1.size
        try simp only [World.size_drew] at z1
        replace HB := HB.trans (hb1.mono HB.size)
        have zHB1 := HB.size
        replace HW := HW.trans (hb1.mono HW.size)
        have zHW1 := HW.size
        replace r3 := Rd.below r3 (hb1.mono (by first | exact Nat.le_refl _ | (simp only [World.size_alloc, World.size_setCell, World.size_drew] at *; omega) | omega))
        refine hK1.out _ _ ?su2x1 (fun hHeld => ?ru2x1)
        case su2x1 => ((try dsimp only); exact KEEP.out _ HW)
        try simp only [List.setIfInBounds_toArray, List.set_cons_zero, List.set_cons_succ]
        refine wpAnyH_ready (rs := [3]) (by kernel_rfl) (by simp) (AllReadyH.cons rfl (fun K3 hK3 => ?ku2x3) AllReadyH.nil)
        refine take_calls 3 48 [Operand.tmp 70] #[48] rfl rfl (by kernel_rfl) (fun args w => run_enter Try.func48 (by kernel_rfl) rfl args w) ?_
        refine (raw_any A n c l _ ((h.below HB).more HB.size) (by omega)).mono ?_
        rintro e w3 ⟨rfl, hb3⟩
        refine ⟨_, rfl, ?_⟩
        have z3 := hb3.size
        try simp only [World.size_drew] at z3
        replace HB := HB.trans (hb3.mono HB.size)
        have zHB3 := HB.size
        replace HW := HW.trans (hb3.mono HW.size)
        have zHW3 := HW.size
        replace r3 := Rd.below r3 (hb3.mono (by first | exact Nat.le_refl _ | (simp only [World.size_alloc, World.size_setCell, World.size_drew] at *; omega) | omega))
        refine hK3.out _ _ ?su2x3 (fun hHeld => ?ru2x3)
        case su2x3 => ((try dsimp only); exact KEEP.out _ HW)
        try simp only [List.setIfInBounds_toArray, List.set_cons_zero, List.set_cons_succ]
        refine wpAnyH_ready (rs := [5]) (by kernel_rfl) (by simp) (AllReadyH.cons rfl (fun K5 hK5 => ?ku2x5) AllReadyH.nil)
        refine take_calls 5 55 [Operand.tmp 72] #[50] rfl rfl (by kernel_rfl) (fun args w => run_enter Try.func55 (by kernel_rfl) rfl args w) ?_
        refine (size_any (a, b, d) _).mono ?_
        rintro e w5 ⟨rfl, hb5⟩
        refine ⟨_, rfl, ?_⟩
        have z5 := hb5.size
        try simp only [World.size_drew] at z5
        replace HB := HB.trans (hb5.mono HB.size)
        have zHB5 := HB.size
        replace HW := HW.trans (hb5.mono HW.size)
        have zHW5 := HW.size
        replace r3 := Rd.below r3 (hb5.mono (by first | exact Nat.le_refl _ | (simp only [World.size_alloc, World.size_setCell, World.size_drew] at *; omega) | omega))
        refine hK5.out _ _ ?su2x5 (fun hHeld => ?ru2x5)
        case su2x5 => ((try dsimp only); exact KEEP.out _ HW)
        try simp only [List.setIfInBounds_toArray, List.set_cons_zero, List.set_cons_succ]
        refine take_op (v := ?vu2x6) 6 (Op.binOp BinOp.add 3 (Operand.tmp 71) (Operand.tmp 73) 3) 3 rfl rfl rfl rfl rfl (by kernel_rfl) (by kernel_rfl) (by kernel_rfl) (fun _ _ _ h => h) ?yu2x6 (by assumption) ?ru2x6
        case yu2x6 => (intro w' hSw; (try dsimp only at hSw); go_simp; try (with_reducible rfl))
        simp only [List.setIfInBounds_toArray, List.set_cons_zero, List.set_cons_succ]
        refine take_op (v := ?vu2x7) 7 (Op.binOp BinOp.eql 3 (Operand.tmp 69) (Operand.tmp 74) 3) 4 rfl rfl rfl rfl rfl (by kernel_rfl) (by kernel_rfl) (by kernel_rfl) (fun _ _ _ h => h) ?yu2x7 (by assumption) ?ru2x7
        case yu2x7 => (intro w' hSw; (try dsimp only at hSw); go_simp; try (with_reducible rfl))
        simp only [List.setIfInBounds_toArray, List.set_cons_zero, List.set_cons_succ]
        refine take_move 8 (Operand.tmp 75) rfl rfl (by first | exact .inl rfl | exact .inr rfl) rfl (by kernel_rfl) (by kernel_rfl) (by kernel_rfl) (fun _ _ _ h => h) (by assumption) ?_
        simp only [List.setIfInBounds_toArray, List.set_cons_zero, List.set_cons_succ]
        refine take_move 9 (Operand.tmp 6) rfl rfl (by first | exact .inl rfl | exact .inr rfl) rfl (by kernel_rfl) (by kernel_rfl) (by kernel_rfl) (fun _ _ _ h => h) (by assumption) ?_
        simp only [List.setIfInBounds_toArray, List.set_cons_zero, List.set_cons_succ]
        refine take_op (v := ?vu2x11) 11 (Op.fieldAddr 50 (Operand.tmp 3) 0) 0 rfl rfl rfl rfl rfl (by kernel_rfl) (by kernel_rfl) (by kernel_rfl) (fun _ _ _ h => h) ?yu2x11 (by assumption) ?ru2x11
        case yu2x11 => (intro w' hSw; (try dsimp only at hSw); go_simp; try (with_reducible rfl))
        simp only [List.setIfInBounds_toArray, List.set_cons_zero, List.set_cons_succ]
        refine take_op (v := ?vu2x12) 12 (Op.load 3 (Operand.tmp 79)) 3 rfl rfl rfl rfl rfl (by kernel_rfl) (by kernel_rfl) (by kernel_rfl) (fun _ _ _ h => h) ?yu2x12 (by assumption) ?ru2x12
        case yu2x12 => (intro w' hSw; (try dsimp only at hSw); go_simp; try (with_reducible rfl))
        simp only [List.setIfInBounds_toArray, List.set_cons_zero, List.set_cons_succ]
        refine take_op (v := ?vu2x13) 13 (Op.binOp BinOp.add 3 (Operand.tmp 80) (Operand.const (Value.int IntKind.i64 1)) 3) 3 rfl rfl rfl rfl rfl (by kernel_rfl) (by kernel_rfl) (by kernel_rfl) (fun _ _ _ h => h) ?yu2x13 (by assumption) ?ru2x13
        case yu2x13 => (intro w' hSw; (try dsimp only at hSw); go_simp; try (with_reducible rfl))
        simp only [List.setIfInBounds_toArray, List.set_cons_zero, List.set_cons_succ]
        refine wpAnyH_ready (rs := [10]) (by kernel_rfl) (by simp) (AllReadyH.cons rfl (fun K10 hK10 => ?ku2x10) AllReadyH.nil)
        refine take_calls 10 52 [Operand.tmp 77, Operand.const (Value.int IntKind.i64 0)] #[48, 3] rfl rfl (by kernel_rfl) (fun args w => run_enter Try.func52 (by kernel_rfl) rfl args w) ?_
        refine (asV (next_any (some ⟨bb, oo, none⟩) (n + 1) c3 (l ++ [(a, b, d)]) 0 _ (r3.more (by omega)) (by omega) H64.out) (congrArg (Value.int .i64) HY6.out)).mono ?_
        rintro e w10 ⟨rfl, hb10⟩
        refine ⟨_, rfl, ?_⟩
        have z10 := hb10.size
        try simp only [World.size_drew] at z10
        replace HB := HB.trans (hb10.mono HB.size)
        have zHB10 := HB.size
        replace HW := HW.trans (hb10.mono HW.size)
        have zHW10 := HW.size
        replace r3 := Rd.below r3 (hb10.mono (by first | exact Nat.le_refl _ | (simp only [World.size_alloc, World.size_setCell, World.size_drew] at *; omega) | omega))
        refine hK10.out _ _ ?su2x10 (fun hHeld => ?ru2x10)
        case su2x10 => ((try dsimp only); exact KEEP.out _ HW)
        try simp only [List.setIfInBounds_toArray, List.set_cons_zero, List.set_cons_succ]
        refine take_op (v := ?vu2x14) 14 (Op.binOp BinOp.eql 3 (Operand.tmp 78) (Operand.tmp 81) 3) 4 rfl rfl rfl rfl rfl (by kernel_rfl) (by kernel_rfl) (by kernel_rfl) (fun _ _ _ h => h) ?yu2x14 (by assumption) ?ru2x14
        case yu2x14 => (intro w' hSw; (try dsimp only at hSw); go_simp; try (with_reducible rfl))
        simp only [List.setIfInBounds_toArray, List.set_cons_zero, List.set_cons_succ]
        refine take_op (v := ?vu2x15) 15 (Op.pick (Operand.tmp 76) (Operand.tmp 82) (Operand.const (Value.bool false))) 4 rfl rfl rfl rfl rfl (by kernel_rfl) (by kernel_rfl) (by kernel_rfl) (fun _ _ _ h => h) ?yu2x15 (by assumption) ?ru2x15
        case yu2x15 => (intro w' hSw; (try dsimp only at hSw); go_simp; try (with_reducible rfl))
        simp only [List.setIfInBounds_toArray, List.set_cons_zero, List.set_cons_succ]
        refine take_move 16 (Operand.tmp 83) rfl rfl (by first | exact .inl rfl | exact .inr rfl) rfl (by kernel_rfl) (by kernel_rfl) (by kernel_rfl) (fun _ _ _ h => h) (by assumption) ?_
        simp only [List.setIfInBounds_toArray, List.set_cons_zero, List.set_cons_succ]
        refine wpAnyH_ready (rs := [17]) (by kernel_rfl) (by simp) (AllReadyH.cons rfl (fun K17 hK17 => ?ku2x17) AllReadyH.nil)
        refine take_calls 17 41 [] #[] rfl rfl (by kernel_rfl) (fun args w => run_enter Try.func41 (by kernel_rfl) rfl args w) ?_
        refine (awake_any _).mono ?_
        rintro e w17 ⟨rfl, hb17⟩
        refine ⟨_, rfl, ?_⟩
        have z17 := hb17.size
        try simp only [World.size_drew] at z17
        replace HB := HB.trans (hb17.mono HB.size)
        have zHB17 := HB.size
        replace HW := HW.trans (hb17.mono HW.size)
        have zHW17 := HW.size
        replace r3 := Rd.below r3 (hb17.mono (by first | exact Nat.le_refl _ | (simp only [World.size_alloc, World.size_setCell, World.size_drew] at *; omega) | omega))
        refine hK17.out _ _ ?su2x17 (fun hHeld => ?ru2x17)
        case su2x17 => ((try dsimp only); exact KEEP.out _ HW)
        try simp only [List.setIfInBounds_toArray, List.set_cons_zero, List.set_cons_succ]
        refine take_op (v := ?vu2x18) 18 (Op.pick (Operand.tmp 84) (Operand.tmp 85) (Operand.const (Value.bool false))) 4 rfl rfl rfl rfl rfl (by kernel_rfl) (by kernel_rfl) (by kernel_rfl) (fun _ _ _ h => h) ?yu2x18 (by assumption) ?ru2x18
        case yu2x18 => (intro w' hSw; (try dsimp only at hSw); go_simp; try (with_reducible rfl))
        simp only [List.setIfInBounds_toArray, List.set_cons_zero, List.set_cons_succ]
        refine take_op (v := ?vu2x19) 19 (Op.assign (Operand.tmp 86)) 4 rfl rfl rfl rfl rfl (by kernel_rfl) (by kernel_rfl) (by kernel_rfl) (fun _ _ _ h => h) ?yu2x19 (by assumption) ?ru2x19
        case yu2x19 => (intro w' hSw; (try dsimp only at hSw); go_simp; try (with_reducible rfl))
        simp only [List.setIfInBounds_toArray, List.set_cons_zero, List.set_cons_succ]
        refine wpAnyH_done (by kernel_rfl) ?_ _
        clear hw2 hw3 hHeld
        go_wp2_with fail
        go_ret
        exact ⟨rfl, HB⟩
      · have hq1 : (p.2 != 0) = true := by simp [h0]
        have hz : n3 = 0 := by
          have := addN_no (show (addN l (a, b, d)).2 ≠ 0 by rw [HP.out]; exact h0)
          rw [HP.out] at this
          rw [← HN3.out, this]
          rfl
        subst hz
        clear h0
        go_wp2_with fail
        refine (awake_any _).mono ?_
        rintro e w15 ⟨rfl, hb15⟩
        have z15 := hb15.size; replace HB := HB.trans (hb15.mono HB.size); have zz15 := HB.size
        go_wp2_with fail
        go_ret
        exact ⟨rfl, HB⟩
    · have HF2 := Lib.hid (show fewB [(a, b, d)] = false by simpa using hf2)
      clear hf2
      go_enter Try.func13, Try.ntmps13
      go_wp2_with fail
      have HB : Below w.heap.size w (w.alloc (.cells #[.int .i64 a, .int .i64 b, str d] 50)) := (by first | exact Below.refl _ _ | (repeat (first | exact Below.refl _ _ | assumption | refine Below.drew ?_ | refine Below.drewN_ ?_ _ | refine Below.alloc ?_ (by first | exact Nat.le_refl _ | (simp; done) | (simp; omega) | omega) _ | refine Below.setCell ?_ (by first | exact Nat.le_refl _ | (simp; done) | (simp; omega) | omega) _ | (refine Below.trans ?_ (Below.mono (by assumption) (by first | exact Nat.le_refl _ | (simp; done) | (simp; omega) | omega))))))
      have g0 : Blk (w.alloc (.cells #[.int .i64 a, .int .i64 b, str d] 50)) w.heap.size 50 #[.int .i64 a, .int .i64 b, str d] := Blk.new _ _ _
      have zz0 : w.heap.size + 1 ≤ (w.alloc (.cells #[.int .i64 a, .int .i64 b, str d] 50)).heap.size := by simp
      generalize w.alloc (.cells #[.int .i64 a, .int .i64 b, str d] 50) = w0 at *
      refine (few_any A n c l true HF.out _ ((h.below HB).more HB.size) (by omega) HLS.out).mono ?_
      rintro e w1 ⟨rfl, hb1⟩
      replace g0 := g0.below hb1 (by omega)
      have z1 := hb1.size; replace HB := HB.trans (hb1.mono HB.size); have zz1 := HB.size
      obtain ⟨c0, c1, c2, _⟩ := blk3 g0
      clear hb1
      go_wp2_with fail
      have HB2 : Below w.heap.size w (w1.alloc (.cells #[.int .i64 a, .int .i64 b, str d] 50)) := HB.alloc HB.size _
      refine (few_any (some ⟨w1.heap.size, 0, none⟩) 1 1 [(a, b, d)] false HF2.out _ ((rd_new (W0 := w1) (t := 50) (cs := rcells [(a, b, d)]) rfl rfl).more (by simp)) (by omega) (by simp; omega)).mono ?_
      rintro e w2 ⟨rfl, hb2⟩
      replace HB := HB2.trans (hb2.mono HB2.size)
      go_wp2_with fail
      refine (awake_any _).mono ?_
      rintro e w15 ⟨rfl, hb15⟩
      have z15 := hb15.size; replace HB := HB.trans (hb15.mono HB.size); have zz15 := HB.size
      go_wp2_with fail
      go_ret
      exact ⟨rfl, HB⟩
  · have HF := Lib.hid (show fewB l = false by simpa using hf)
    clear hf
    go_enter Try.func13, Try.ntmps13
    go_wp2_with fail
    have HB : Below w.heap.size w (w.alloc (.cells #[.int .i64 a, .int .i64 b, str d] 50)) := (by first | exact Below.refl _ _ | (repeat (first | exact Below.refl _ _ | assumption | refine Below.drew ?_ | refine Below.drewN_ ?_ _ | refine Below.alloc ?_ (by first | exact Nat.le_refl _ | (simp; done) | (simp; omega) | omega) _ | refine Below.setCell ?_ (by first | exact Nat.le_refl _ | (simp; done) | (simp; omega) | omega) _ | (refine Below.trans ?_ (Below.mono (by assumption) (by first | exact Nat.le_refl _ | (simp; done) | (simp; omega) | omega))))))
    generalize w.alloc (.cells #[.int .i64 a, .int .i64 b, str d] 50) = w0 at *
    refine (few_any A n c l false HF.out _ ((h.below HB).more HB.size) (by have := rd_rlen h; omega) HLS.out).mono ?_
    rintro e w1 ⟨rfl, hb1⟩
    have z1 := hb1.size; replace HB := HB.trans (hb1.mono HB.size); have zz1 := HB.size
    go_wp2_with fail
    refine (awake_any _).mono ?_
    rintro e w15 ⟨rfl, hb15⟩
    have z15 := hb15.size; replace HB := HB.trans (hb15.mono HB.size); have zz15 := HB.size
    go_wp2_with fail
    go_ret
    exact ⟨rfl, HB⟩
end RecW
end Go.Proofs.Ytehlgpfkpagaeaa
