/- The walks of the reference of package want: a word of a query. -/
import Derived.Test.YtjcbaaabbdcdnaaDoorWanN
namespace Go.Proofs.YtjcbaaabbdcdnaaDoor
set_option linter.unusedVariables false
set_option linter.unusedSimpArgs false
set_option linter.unnecessarySimpa false
open Go.RowKit
namespace WanW
open SkpW (Qy qv qc chkQ)

theorem bef_pre (k r : List UInt8) (h : k.contains 61 = false) : bef 61 (k ++ 61 :: r) = k ∧ aft 61 (k ++ 61 :: r) = r ∧ (k ++ 61 :: r).contains 61 = true := by
  induction k with
  | nil => simp [bef, aft]
  | cons b k ih =>
    have hb : ¬ b = 61 := by
      intro e
      subst e
      simp at h
    have hk : k.contains 61 = false := by
      rw [List.contains_cons, Bool.or_eq_false_iff] at h
      exact h.2
    have h2 : (b != 61) = true := by simp; exact hb
    obtain ⟨i1, i2, i3⟩ := ih hk
    refine ⟨?_, ?_, ?_⟩
    · rw [List.cons_append, bef, List.takeWhile_cons, h2]; simp only [if_true]; congr 1
    · rw [List.cons_append, aft, List.dropWhile_cons, h2]; simp only [if_true]; exact i2
    · simp
/-- A word begins with a key and a =, just if it is that key's. -/
theorem pre_iff (i : Nat) (h1 : 1 ≤ i) (h5 : i ≤ 5) (t : List UInt8) : t.take ((keyL i).length + 1) = keyL i ++ [61] ↔ kOf t = i := by
  have hc : (keyL i).contains 61 = false ∧ keyN (keyL i) = i := by
    have : i = 1 ∨ i = 2 ∨ i = 3 ∨ i = 4 ∨ i = 5 := by omega
    rcases this with rfl | rfl | rfl | rfl | rfl <;> decide
  constructor
  · intro h
    have e : t = keyL i ++ 61 :: t.drop ((keyL i).length + 1) := by
      have := List.take_append_drop ((keyL i).length + 1) t
      rw [h] at this
      conv => lhs; rw [← this]
      simp
    obtain ⟨b1, _, b3⟩ := bef_pre (keyL i) (t.drop ((keyL i).length + 1)) hc.1
    rw [← e] at b1 b3
    rw [kOf, b3, b1, if_pos rfl]
    exact hc.2
  · intro h
    unfold kOf at h
    cases hx : t.contains 61
    · rw [hx, if_neg (by simp)] at h; omega
    · rw [hx, if_pos rfl] at h
      have hb : bef 61 t = keyL i := by
        have := keyN_cases (bef 61 t)
        rw [h] at this
        rcases this with ⟨e, hk⟩ | ⟨e, hk⟩ | ⟨e, hk⟩ | ⟨e, hk⟩ | ⟨e, hk⟩ | ⟨e, _⟩
        all_goals first | (subst e; exact hk) | omega
      have e := (bef_aft 61 t).1 hx
      rw [hb] at e
      rw [e, show keyL i ++ 61 :: aft 61 t = (keyL i ++ [61]) ++ aft 61 t by simp, show (keyL i).length + 1 = (keyL i ++ [61]).length by simp, List.take_left]
theorem pre_drop (i : Nat) (h1 : 1 ≤ i) (h5 : i ≤ 5) (t : List UInt8) (h : kOf t = i) : t.drop ((keyL i).length + 1) = vOf t ∧ (keyL i).length + 1 ≤ t.length := by
  have h2 := (pre_iff i h1 h5 t).2 h
  have hc : (keyL i).contains 61 = false := by
    have : i = 1 ∨ i = 2 ∨ i = 3 ∨ i = 4 ∨ i = 5 := by omega
    rcases this with rfl | rfl | rfl | rfl | rfl <;> decide
  have e : t = keyL i ++ 61 :: t.drop ((keyL i).length + 1) := by
    have := List.take_append_drop ((keyL i).length + 1) t
    rw [h2] at this
    conv => lhs; rw [← this]
    simp
  obtain ⟨_, b2, _⟩ := bef_pre (keyL i) (t.drop ((keyL i).length + 1)) hc
  rw [← e] at b2
  refine ⟨b2.symm, ?_⟩
  have := congrArg List.length h2
  rw [List.length_take, List.length_append, List.length_singleton] at this
  omega
def keysC : Array Value := #[str [], .string ⟨#[115, 101, 113, 61]⟩, .string ⟨#[116, 105, 99, 107, 61]⟩, .string ⟨#[102, 105, 110, 100, 61]⟩, .string ⟨#[108, 105, 109, 105, 116, 61]⟩, .string ⟨#[102, 114, 111, 109, 61]⟩]
theorem blk6 {w : World} {g : Nat} {t : TypeId} {a0 a1 a2 a3 a4 a5 : Value} (h : Blk w g t #[a0, a1, a2, a3, a4, a5]) :
    w.cell? ⟨g, 0, none⟩ = some a0 ∧ w.cell? ⟨g, 1, none⟩ = some a1 ∧ w.cell? ⟨g, 2, none⟩ = some a2 ∧ w.cell? ⟨g, 3, none⟩ = some a3 ∧ w.cell? ⟨g, 4, none⟩ = some a4 ∧ w.cell? ⟨g, 5, none⟩ = some a5 :=
  ⟨h.cell_ 0 rfl, h.cell_ 1 rfl, h.cell_ 2 rfl, h.cell_ 3 rfl, h.cell_ 4 rfl, h.cell_ 5 rfl⟩
set_option maxRecDepth 100000 in
set_option maxHeartbeats 8000000 in
theorem refWord_any (q : Qy) (t : List UInt8) (w : World) (hs : t.length ≤ 2000) :
    Calls Tryd.prog 21 #[qv q, str t] w fun e w' => ∃ q', e = .returned (.tuple #[qv q', .int .i64 (if okW (kOf t) (vOf t) = true then (kOf t : Int) else 0)]) ∧ (okW (kOf t) (vOf t) = true → q' = setW (kOf t) q (vOf t)) ∧ Below w.heap.size w w' := by
  obtain ⟨k0, hk0⟩ : ∃ k0, kOf t = k0 := ⟨_, rfl⟩
  obtain ⟨v, hv⟩ : ∃ v, vOf t = v := ⟨_, rfl⟩
  obtain ⟨bk, hbk⟩ : ∃ b, okW k0 v = b := ⟨_, rfl⟩
  rw [hk0, hv, hbk]
  have HK0 := Lib.hid hk0
  have HV := Lib.hid hv
  have HBK := Lib.hid hbk
  have hvl : v.length ≤ 2000 := by rw [← hv]; exact Nat.le_trans (aft_le 61 t) hs
  clear hk0 hv hbk
  obtain ⟨S, hS⟩ : ∃ S : ByteArray, (⟨t.toArray⟩ : ByteArray) = S := ⟨_, rfl⟩
  have HS := Lib.hid hS
  have hsz : S.size = t.length := by rw [← hS]; simp [ByteArray.size]
  have B1 := (Below.refl w.heap.size w).alloc (Nat.le_refl _) (.cells (qc q) 26)
  have G1 := Blk.new w 26 (qc q)
  obtain ⟨w1, hw1⟩ : ∃ w1, w.alloc (.cells (qc q) 26) = w1 := ⟨_, rfl⟩
  have z1 : w1.heap.size = w.heap.size + 1 := by rw [← hw1]; simp
  rw [hw1] at B1 G1
  have B2 := B1.alloc (by omega) (.cells (qc zeroQ) 26)
  have G2 := Blk.new w1 26 (qc zeroQ)
  have G1' := G1.alloc (.cells (qc zeroQ) 26)
  obtain ⟨w2, hw2⟩ : ∃ w2, w1.alloc (.cells (qc zeroQ) 26) = w2 := ⟨_, rfl⟩
  have z2 : w2.heap.size = w.heap.size + 2 := by rw [← hw2]; simp [z1]
  rw [hw2] at B2 G2 G1'
  rw [z1] at G2
  have B3 := B2.alloc (by omega) (.cells keysC 9)
  have G3 := Blk.new w2 9 keysC
  have G1'' := G1'.alloc (.cells keysC 9)
  have G2' := G2.alloc (.cells keysC 9)
  obtain ⟨w3, hw3⟩ : ∃ w3, w2.alloc (.cells keysC 9) = w3 := ⟨_, rfl⟩
  rw [hw3] at B3 G3 G1'' G2'
  rw [z2] at G3
  clear G1 G1' G2 B1 B2
  have hw4 : ((w.alloc (.cells (qc q) 26)).alloc (.cells (qc zeroQ) 26)).alloc (.cells keysC 9) = w3 := by rw [hw1, hw2, hw3]
  clear hw1 hw2 hw3 z1 z2
  obtain ⟨s1, s2, t1, t2, fd, li, fr⟩ := q
  simp only [qc, zeroQ, keysC] at hw4
  go_enter Tryd.func21, Tryd.ntmps21
  go_wp2_with fail
  clear hw4
  have hk05 : k0 ≤ 5 := by
    have := HK0.out
    unfold kOf at this
    have h2 := keyN_cases (bef 61 t)
    split at this
    · rcases h2 with ⟨e, _⟩ | ⟨e, _⟩ | ⟨e, _⟩ | ⟨e, _⟩ | ⟨e, _⟩ | ⟨e, _⟩ <;> omega
    · omega
  go_loopw [7, 8] (fun o7 o8 wr => ∃ (i : Nat) (q' : Qy), o7 = .bool false ∧ o8 = .int .i64 (i : Int) ∧ 1 ≤ i ∧ i ≤ 6 ∧ Blk wr w.heap.size 26 (qc q') ∧ Blk wr (w.heap.size + 1) 26 (qc zeroQ) ∧ Blk wr (w.heap.size + 2) 9 keysC ∧ (i ≤ k0 → q' = ⟨s1, s2, t1, t2, fd, li, fr⟩) ∧ (¬ k0 = 0 → k0 < i → bk = false) ∧ Below w.heap.size w wr) (fun _ i _ => 6 - (intOf i).toNat)
  case atStart => exact ⟨1, _, rfl, rfl, by omega, by omega, G1'', G2', G3, fun _ => rfl, fun h1 h2 => by omega, B3⟩
  case round =>
    obtain ⟨i, q', rfl, rfl, hi1, hi6, g1, g2, g3, hq', hbf, HB⟩ := hrel
    clear G1'' G2' G3 B3
    have HQ' := Lib.hid hq'
    have HBF := Lib.hid hbf
    clear hq' hbf
    obtain ⟨y1, y2, y3, y4, yf, yl, yr⟩ := q'
    obtain ⟨c0, c1, c2, c3, c4, c5, c6, f0, f1, f2, f3, f4, f5, f6⟩ := blk7f g1
    obtain ⟨d0, d1, d2, d3, d4, d5, d6, p0, p1, p2, p3, p4, p5, p6⟩ := blk7f g2
    obtain ⟨k0', k1, k2, k3, k4, k5⟩ := blk6 g3
    have hzr := HB.size
    have g3lt := g3.lt
    have hcs : i = 1 ∨ i = 2 ∨ i = 3 ∨ i = 4 ∨ i = 5 ∨ i = 6 := by omega
    rcases hcs with rfl | rfl | rfl | rfl | rfl | rfl
    · have hn : (keyL 1).length + 1 = 4 := rfl
      by_cases hki : k0 = 1
      · subst hki
        have ht := (pre_iff 1 (by omega) (by omega) t).2 HK0.out
        obtain ⟨hdr, hlen⟩ := pre_drop 1 (by omega) (by omega) t HK0.out
        rw [hn] at ht hdr hlen
        rw [HV.out] at hdr
        have e0 : S.extract 0 4 = ⟨#[115, 101, 113, 61]⟩ := by rw [← hS, ext_str, List.drop_zero, ht]; rfl
        have e1 : S.extract 4 t.length = ⟨v.toArray⟩ := by rw [← hS, ext_str, hdr, List.take_of_length_le (by rw [← hdr, List.length_drop]; omega)]
        have hd : decide ((t.length : Int) < 4) = false := by simp; omega
        have hd2 : ¬ t.length < 4 := by omega
        have hd3 : ((4 : Nat) : Int) ≤ (t.length : Int) := by omega
        obtain ⟨rfl, rfl, rfl, rfl, rfl, rfl, rfl⟩ : y1 = s1 ∧ y2 = s2 ∧ y3 = t1 ∧ y4 = t2 ∧ yf = fd ∧ yl = li ∧ yr = fr := by
          have := HQ'.out (by omega)
          simpa using this
        clear ht hdr
        cases bk
        · have C := fun w => two_any v w (by omega) false HBK.out
          have HC := Lib.hid C
          clear C
          go_wp2_with fail
          go_quiet (fail)
          go_wp2_with fail
          refine (HC.out _).mono ?_
          rintro e w4 ⟨lo, hi, rfl, hok, hb4⟩
          have hb5 : Below wr.heap.size wr w4 := ((Below.refl _ wr).drewN_ _).trans hb4
          clear hb4
          have h1 := g1.below hb5 (by omega)
          have h2 := g2.below hb5 (by omega)
          have h3 := g3.below hb5 (by omega)
          have HB5 := HB.trans (hb5.mono hzr)
          have hz5 := HB5.size
          clear g1 g2 g3 HB hb5 c0 c1 c2 c3 c4 c5 c6 f0 f1 f2 f3 f4 f5 f6 d0 d1 d2 d3 d4 d5 d6 p0 p1 p2 p3 p4 p5 p6 k0' k1 k2 k3 k4 k5
          obtain ⟨c0, c1, c2, c3, c4, c5, c6, f0, f1, f2, f3, f4, f5, f6⟩ := blk7f h1
          obtain ⟨d0, d1, d2, d3, d4, d5, d6, p0, p1, p2, p3, p4, p5, p6⟩ := blk7f h2
          go_wp2_with fail
          go_roundw
          case rel => exact ⟨2, ⟨lo, hi, y3, y4, yf, yl, yr⟩, rfl, rfl, by omega, by omega, ((h1.set 0 (.int .i64 lo)).set 1 (.int .i64 hi)), ((h2.far (p := ⟨w.heap.size, 0, none⟩) (by show w.heap.size + 1 ≠ w.heap.size; omega) (.int .i64 lo)).far (p := ⟨w.heap.size, 1, none⟩) (by show w.heap.size + 1 ≠ w.heap.size; omega) (.int .i64 hi)), ((h3.far (p := ⟨w.heap.size, 0, none⟩) (by show w.heap.size + 2 ≠ w.heap.size; omega) (.int .i64 lo)).far (p := ⟨w.heap.size, 1, none⟩) (by show w.heap.size + 2 ≠ w.heap.size; omega) (.int .i64 hi)), fun h => absurd h (by omega), fun _ _ => by trivial, ((HB5.setCell (p := ⟨w.heap.size, 0, none⟩) (Nat.le_refl _) (.int .i64 lo)).setCell (p := ⟨w.heap.size, 1, none⟩) (Nat.le_refl _) (.int .i64 hi))⟩
          case measure => simp [intOf]
        · have C := fun w => two_any v w (by omega) true HBK.out
          have HC := Lib.hid C
          clear C
          go_wp2_with fail
          go_quiet (fail)
          go_wp2_with fail
          refine (HC.out _).mono ?_
          rintro e w4 ⟨lo, hi, rfl, hok, hb4⟩
          have hb5 : Below wr.heap.size wr w4 := ((Below.refl _ wr).drewN_ _).trans hb4
          clear hb4
          obtain ⟨rfl, rfl⟩ := hok (by trivial)
          have h1 := g1.below hb5 (by omega)
          have h2 := g2.below hb5 (by omega)
          have h3 := g3.below hb5 (by omega)
          have HB5 := HB.trans (hb5.mono hzr)
          have hz5 := HB5.size
          clear g1 g2 g3 HB hb5 c0 c1 c2 c3 c4 c5 c6 f0 f1 f2 f3 f4 f5 f6 d0 d1 d2 d3 d4 d5 d6 p0 p1 p2 p3 p4 p5 p6 k0' k1 k2 k3 k4 k5
          obtain ⟨c0, c1, c2, c3, c4, c5, c6, f0, f1, f2, f3, f4, f5, f6⟩ := blk7f h1
          obtain ⟨d0, d1, d2, d3, d4, d5, d6, p0, p1, p2, p3, p4, p5, p6⟩ := blk7f h2
          go_wp2_with fail
          try rw [Exit.noGoto_ret]
          refine bodyPost_ret (results_rowA rfl _ _ (w.heap.size + 1) (qc ⟨(lo2 v), (hi2 v), y3, y4, yf, yl, yr⟩) _ rfl (((((((((h2.far (p := ⟨w.heap.size, 0, none⟩) (by show w.heap.size + 1 ≠ w.heap.size; omega) (.int .i64 (lo2 v))).far (p := ⟨w.heap.size, 1, none⟩) (by show w.heap.size + 1 ≠ w.heap.size; omega) (.int .i64 (hi2 v))).set 0 (.int .i64 (lo2 v))).set 1 (.int .i64 (hi2 v))).set 2 (.int .i64 y3)).set 3 (.int .i64 y4)).set 4 (str yf)).set 5 (.int .i64 yl)).set 6 (.int .i64 yr)) Tryd.underlying26 rfl (by kernel_rfl)) rfl ?_
          exact ⟨⟨(lo2 v), (hi2 v), y3, y4, yf, yl, yr⟩, rfl, (by first | rfl | (simp only [setW, HX.out]; done) | (intro _; first | rfl | (simp only [setW, HX.out]; done))), (((((((((HB5.setCell (p := ⟨w.heap.size, 0, none⟩) (Nat.le_refl _) (.int .i64 (lo2 v))).setCell (p := ⟨w.heap.size, 1, none⟩) (Nat.le_refl _) (.int .i64 (hi2 v))).setCell (p := ⟨w.heap.size + 1, 0, none⟩) (Nat.le_succ _) (.int .i64 (lo2 v))).setCell (p := ⟨w.heap.size + 1, 1, none⟩) (Nat.le_succ _) (.int .i64 (hi2 v))).setCell (p := ⟨w.heap.size + 1, 2, none⟩) (Nat.le_succ _) (.int .i64 y3)).setCell (p := ⟨w.heap.size + 1, 3, none⟩) (Nat.le_succ _) (.int .i64 y4)).setCell (p := ⟨w.heap.size + 1, 4, none⟩) (Nat.le_succ _) (str yf)).setCell (p := ⟨w.heap.size + 1, 5, none⟩) (Nat.le_succ _) (.int .i64 yl)).setCell (p := ⟨w.heap.size + 1, 6, none⟩) (Nat.le_succ _) (.int .i64 yr))⟩
      · have hp := mt (pre_iff 1 (by omega) (by omega) t).1 (by rw [HK0.out]; exact hki)
        rw [hn] at hp
        by_cases hl : t.length < 4
        · have hd : decide ((t.length : Int) < 4) = true := by simp; omega
          go_wp2_with fail
          go_quiet (fail)
          go_wp2_with fail
          go_roundw
          case rel => exact ⟨2, ⟨y1, y2, y3, y4, yf, yl, yr⟩, rfl, rfl, by omega, by omega, g1.drewN _, g2.drewN _, g3.drewN _, fun h => HQ'.out (by omega), fun h1 h2 => HBF.out h1 (by omega), HB.drewN_ _⟩
          case measure => simp [intOf]
        · have hd : decide ((t.length : Int) < 4) = false := by simp; omega
          have hd3 : ((4 : Nat) : Int) ≤ (t.length : Int) := by omega
          have e0 : S.extract 0 4 = ⟨(t.take 4).toArray⟩ := by rw [← hS, ext_str, List.drop_zero]
          obtain ⟨T, hT⟩ : ∃ T, t.take 4 = T := ⟨_, rfl⟩
          rw [hT] at e0 hp
          have hp2 : (T == [115, 101, 113, 61]) = false := beq_eq_false_iff_ne.2 hp
          have hp3 : (T != [115, 101, 113, 61]) = true := by rw [bne, hp2]; rfl
          clear hp hT
          go_wp2_with fail
          go_quiet (fail)
          go_wp2_with fail
          go_roundw
          case rel => exact ⟨2, ⟨y1, y2, y3, y4, yf, yl, yr⟩, rfl, rfl, by omega, by omega, g1.drewN _, g2.drewN _, g3.drewN _, fun h => HQ'.out (by omega), fun h1 h2 => HBF.out h1 (by omega), HB.drewN_ _⟩
          case measure => simp [intOf]
    · have hn : (keyL 2).length + 1 = 5 := rfl
      by_cases hki : k0 = 2
      · subst hki
        have ht := (pre_iff 2 (by omega) (by omega) t).2 HK0.out
        obtain ⟨hdr, hlen⟩ := pre_drop 2 (by omega) (by omega) t HK0.out
        rw [hn] at ht hdr hlen
        rw [HV.out] at hdr
        have e0 : S.extract 0 5 = ⟨#[116, 105, 99, 107, 61]⟩ := by rw [← hS, ext_str, List.drop_zero, ht]; rfl
        have e1 : S.extract 5 t.length = ⟨v.toArray⟩ := by rw [← hS, ext_str, hdr, List.take_of_length_le (by rw [← hdr, List.length_drop]; omega)]
        have hd : decide ((t.length : Int) < 5) = false := by simp; omega
        have hd2 : ¬ t.length < 5 := by omega
        have hd3 : ((5 : Nat) : Int) ≤ (t.length : Int) := by omega
        obtain ⟨rfl, rfl, rfl, rfl, rfl, rfl, rfl⟩ : y1 = s1 ∧ y2 = s2 ∧ y3 = t1 ∧ y4 = t2 ∧ yf = fd ∧ yl = li ∧ yr = fr := by
          have := HQ'.out (by omega)
          simpa using this
        clear ht hdr
        cases bk
        · have C := fun w => two_any v w (by omega) false HBK.out
          have HC := Lib.hid C
          clear C
          go_wp2_with fail
          go_quiet (fail)
          go_wp2_with fail
          refine (HC.out _).mono ?_
          rintro e w4 ⟨lo, hi, rfl, hok, hb4⟩
          have hb5 : Below wr.heap.size wr w4 := ((Below.refl _ wr).drewN_ _).trans hb4
          clear hb4
          have h1 := g1.below hb5 (by omega)
          have h2 := g2.below hb5 (by omega)
          have h3 := g3.below hb5 (by omega)
          have HB5 := HB.trans (hb5.mono hzr)
          have hz5 := HB5.size
          clear g1 g2 g3 HB hb5 c0 c1 c2 c3 c4 c5 c6 f0 f1 f2 f3 f4 f5 f6 d0 d1 d2 d3 d4 d5 d6 p0 p1 p2 p3 p4 p5 p6 k0' k1 k2 k3 k4 k5
          obtain ⟨c0, c1, c2, c3, c4, c5, c6, f0, f1, f2, f3, f4, f5, f6⟩ := blk7f h1
          obtain ⟨d0, d1, d2, d3, d4, d5, d6, p0, p1, p2, p3, p4, p5, p6⟩ := blk7f h2
          go_wp2_with fail
          go_roundw
          case rel => exact ⟨3, ⟨y1, y2, lo, hi, yf, yl, yr⟩, rfl, rfl, by omega, by omega, ((h1.set 2 (.int .i64 lo)).set 3 (.int .i64 hi)), ((h2.far (p := ⟨w.heap.size, 2, none⟩) (by show w.heap.size + 1 ≠ w.heap.size; omega) (.int .i64 lo)).far (p := ⟨w.heap.size, 3, none⟩) (by show w.heap.size + 1 ≠ w.heap.size; omega) (.int .i64 hi)), ((h3.far (p := ⟨w.heap.size, 2, none⟩) (by show w.heap.size + 2 ≠ w.heap.size; omega) (.int .i64 lo)).far (p := ⟨w.heap.size, 3, none⟩) (by show w.heap.size + 2 ≠ w.heap.size; omega) (.int .i64 hi)), fun h => absurd h (by omega), fun _ _ => by trivial, ((HB5.setCell (p := ⟨w.heap.size, 2, none⟩) (Nat.le_refl _) (.int .i64 lo)).setCell (p := ⟨w.heap.size, 3, none⟩) (Nat.le_refl _) (.int .i64 hi))⟩
          case measure => simp [intOf]
        · have C := fun w => two_any v w (by omega) true HBK.out
          have HC := Lib.hid C
          clear C
          go_wp2_with fail
          go_quiet (fail)
          go_wp2_with fail
          refine (HC.out _).mono ?_
          rintro e w4 ⟨lo, hi, rfl, hok, hb4⟩
          have hb5 : Below wr.heap.size wr w4 := ((Below.refl _ wr).drewN_ _).trans hb4
          clear hb4
          obtain ⟨rfl, rfl⟩ := hok (by trivial)
          have h1 := g1.below hb5 (by omega)
          have h2 := g2.below hb5 (by omega)
          have h3 := g3.below hb5 (by omega)
          have HB5 := HB.trans (hb5.mono hzr)
          have hz5 := HB5.size
          clear g1 g2 g3 HB hb5 c0 c1 c2 c3 c4 c5 c6 f0 f1 f2 f3 f4 f5 f6 d0 d1 d2 d3 d4 d5 d6 p0 p1 p2 p3 p4 p5 p6 k0' k1 k2 k3 k4 k5
          obtain ⟨c0, c1, c2, c3, c4, c5, c6, f0, f1, f2, f3, f4, f5, f6⟩ := blk7f h1
          obtain ⟨d0, d1, d2, d3, d4, d5, d6, p0, p1, p2, p3, p4, p5, p6⟩ := blk7f h2
          go_wp2_with fail
          try rw [Exit.noGoto_ret]
          refine bodyPost_ret (results_rowA rfl _ _ (w.heap.size + 1) (qc ⟨y1, y2, (lo2 v), (hi2 v), yf, yl, yr⟩) _ rfl (((((((((h2.far (p := ⟨w.heap.size, 2, none⟩) (by show w.heap.size + 1 ≠ w.heap.size; omega) (.int .i64 (lo2 v))).far (p := ⟨w.heap.size, 3, none⟩) (by show w.heap.size + 1 ≠ w.heap.size; omega) (.int .i64 (hi2 v))).set 0 (.int .i64 y1)).set 1 (.int .i64 y2)).set 2 (.int .i64 (lo2 v))).set 3 (.int .i64 (hi2 v))).set 4 (str yf)).set 5 (.int .i64 yl)).set 6 (.int .i64 yr)) Tryd.underlying26 rfl (by kernel_rfl)) rfl ?_
          exact ⟨⟨y1, y2, (lo2 v), (hi2 v), yf, yl, yr⟩, rfl, (by first | rfl | (simp only [setW, HX.out]; done) | (intro _; first | rfl | (simp only [setW, HX.out]; done))), (((((((((HB5.setCell (p := ⟨w.heap.size, 2, none⟩) (Nat.le_refl _) (.int .i64 (lo2 v))).setCell (p := ⟨w.heap.size, 3, none⟩) (Nat.le_refl _) (.int .i64 (hi2 v))).setCell (p := ⟨w.heap.size + 1, 0, none⟩) (Nat.le_succ _) (.int .i64 y1)).setCell (p := ⟨w.heap.size + 1, 1, none⟩) (Nat.le_succ _) (.int .i64 y2)).setCell (p := ⟨w.heap.size + 1, 2, none⟩) (Nat.le_succ _) (.int .i64 (lo2 v))).setCell (p := ⟨w.heap.size + 1, 3, none⟩) (Nat.le_succ _) (.int .i64 (hi2 v))).setCell (p := ⟨w.heap.size + 1, 4, none⟩) (Nat.le_succ _) (str yf)).setCell (p := ⟨w.heap.size + 1, 5, none⟩) (Nat.le_succ _) (.int .i64 yl)).setCell (p := ⟨w.heap.size + 1, 6, none⟩) (Nat.le_succ _) (.int .i64 yr))⟩
      · have hp := mt (pre_iff 2 (by omega) (by omega) t).1 (by rw [HK0.out]; exact hki)
        rw [hn] at hp
        by_cases hl : t.length < 5
        · have hd : decide ((t.length : Int) < 5) = true := by simp; omega
          go_wp2_with fail
          go_quiet (fail)
          go_wp2_with fail
          go_roundw
          case rel => exact ⟨3, ⟨y1, y2, y3, y4, yf, yl, yr⟩, rfl, rfl, by omega, by omega, g1.drewN _, g2.drewN _, g3.drewN _, fun h => HQ'.out (by omega), fun h1 h2 => HBF.out h1 (by omega), HB.drewN_ _⟩
          case measure => simp [intOf]
        · have hd : decide ((t.length : Int) < 5) = false := by simp; omega
          have hd3 : ((5 : Nat) : Int) ≤ (t.length : Int) := by omega
          have e0 : S.extract 0 5 = ⟨(t.take 5).toArray⟩ := by rw [← hS, ext_str, List.drop_zero]
          obtain ⟨T, hT⟩ : ∃ T, t.take 5 = T := ⟨_, rfl⟩
          rw [hT] at e0 hp
          have hp2 : (T == [116, 105, 99, 107, 61]) = false := beq_eq_false_iff_ne.2 hp
          have hp3 : (T != [116, 105, 99, 107, 61]) = true := by rw [bne, hp2]; rfl
          clear hp hT
          go_wp2_with fail
          go_quiet (fail)
          go_wp2_with fail
          go_roundw
          case rel => exact ⟨3, ⟨y1, y2, y3, y4, yf, yl, yr⟩, rfl, rfl, by omega, by omega, g1.drewN _, g2.drewN _, g3.drewN _, fun h => HQ'.out (by omega), fun h1 h2 => HBF.out h1 (by omega), HB.drewN_ _⟩
          case measure => simp [intOf]
    · have hn : (keyL 3).length + 1 = 5 := rfl
      by_cases hki : k0 = 3
      · subst hki
        have ht := (pre_iff 3 (by omega) (by omega) t).2 HK0.out
        obtain ⟨hdr, hlen⟩ := pre_drop 3 (by omega) (by omega) t HK0.out
        rw [hn] at ht hdr hlen
        rw [HV.out] at hdr
        have e0 : S.extract 0 5 = ⟨#[102, 105, 110, 100, 61]⟩ := by rw [← hS, ext_str, List.drop_zero, ht]; rfl
        have e1 : S.extract 5 t.length = ⟨v.toArray⟩ := by rw [← hS, ext_str, hdr, List.take_of_length_le (by rw [← hdr, List.length_drop]; omega)]
        have hd : decide ((t.length : Int) < 5) = false := by simp; omega
        have hd2 : ¬ t.length < 5 := by omega
        have hd3 : ((5 : Nat) : Int) ≤ (t.length : Int) := by omega
        obtain ⟨rfl, rfl, rfl, rfl, rfl, rfl, rfl⟩ : y1 = s1 ∧ y2 = s2 ∧ y3 = t1 ∧ y4 = t2 ∧ yf = fd ∧ yl = li ∧ yr = fr := by
          have := HQ'.out (by omega)
          simpa using this
        clear ht hdr
        cases bk
        · obtain ⟨x, hx⟩ : ∃ x, (unhexV v).1 = x := ⟨_, rfl⟩
          have HX := Lib.hid hx
          have C := fun w => refUnhex_any v w x false (Prod.ext hx HBK.out) (by omega)
          clear hx
          have HC := Lib.hid C
          clear C
          go_wp2_with fail
          go_quiet (fail)
          go_wp2_with fail
          refine (HC.out _).mono ?_
          rintro e w4 ⟨rfl, hb4⟩
          have hb5 : Below wr.heap.size wr w4 := ((Below.refl _ wr).drewN_ _).trans hb4
          clear hb4
          have h1 := g1.below hb5 (by omega)
          have h2 := g2.below hb5 (by omega)
          have h3 := g3.below hb5 (by omega)
          have HB5 := HB.trans (hb5.mono hzr)
          have hz5 := HB5.size
          clear g1 g2 g3 HB hb5 c0 c1 c2 c3 c4 c5 c6 f0 f1 f2 f3 f4 f5 f6 d0 d1 d2 d3 d4 d5 d6 p0 p1 p2 p3 p4 p5 p6 k0' k1 k2 k3 k4 k5
          obtain ⟨c0, c1, c2, c3, c4, c5, c6, f0, f1, f2, f3, f4, f5, f6⟩ := blk7f h1
          obtain ⟨d0, d1, d2, d3, d4, d5, d6, p0, p1, p2, p3, p4, p5, p6⟩ := blk7f h2
          go_wp2_with fail
          go_roundw
          case rel => exact ⟨4, ⟨y1, y2, y3, y4, x, yl, yr⟩, rfl, rfl, by omega, by omega, (h1.set 4 (str x)), (h2.far (p := ⟨w.heap.size, 4, none⟩) (by show w.heap.size + 1 ≠ w.heap.size; omega) (str x)), (h3.far (p := ⟨w.heap.size, 4, none⟩) (by show w.heap.size + 2 ≠ w.heap.size; omega) (str x)), fun h => absurd h (by omega), fun _ _ => by trivial, (HB5.setCell (p := ⟨w.heap.size, 4, none⟩) (Nat.le_refl _) (str x))⟩
          case measure => simp [intOf]
        · obtain ⟨x, hx⟩ : ∃ x, (unhexV v).1 = x := ⟨_, rfl⟩
          have HX := Lib.hid hx
          have C := fun w => refUnhex_any v w x true (Prod.ext hx HBK.out) (by omega)
          clear hx
          have HC := Lib.hid C
          clear C
          go_wp2_with fail
          go_quiet (fail)
          go_wp2_with fail
          refine (HC.out _).mono ?_
          rintro e w4 ⟨rfl, hb4⟩
          have hb5 : Below wr.heap.size wr w4 := ((Below.refl _ wr).drewN_ _).trans hb4
          clear hb4
          have h1 := g1.below hb5 (by omega)
          have h2 := g2.below hb5 (by omega)
          have h3 := g3.below hb5 (by omega)
          have HB5 := HB.trans (hb5.mono hzr)
          have hz5 := HB5.size
          clear g1 g2 g3 HB hb5 c0 c1 c2 c3 c4 c5 c6 f0 f1 f2 f3 f4 f5 f6 d0 d1 d2 d3 d4 d5 d6 p0 p1 p2 p3 p4 p5 p6 k0' k1 k2 k3 k4 k5
          obtain ⟨c0, c1, c2, c3, c4, c5, c6, f0, f1, f2, f3, f4, f5, f6⟩ := blk7f h1
          obtain ⟨d0, d1, d2, d3, d4, d5, d6, p0, p1, p2, p3, p4, p5, p6⟩ := blk7f h2
          go_wp2_with fail
          try rw [Exit.noGoto_ret]
          refine bodyPost_ret (results_rowA rfl _ _ (w.heap.size + 1) (qc ⟨y1, y2, y3, y4, x, yl, yr⟩) _ rfl ((((((((h2.far (p := ⟨w.heap.size, 4, none⟩) (by show w.heap.size + 1 ≠ w.heap.size; omega) (str x)).set 0 (.int .i64 y1)).set 1 (.int .i64 y2)).set 2 (.int .i64 y3)).set 3 (.int .i64 y4)).set 4 (str x)).set 5 (.int .i64 yl)).set 6 (.int .i64 yr)) Tryd.underlying26 rfl (by kernel_rfl)) rfl ?_
          exact ⟨⟨y1, y2, y3, y4, x, yl, yr⟩, rfl, (by first | rfl | (simp only [setW, HX.out]; done) | (intro _; first | rfl | (simp only [setW, HX.out]; done))), ((((((((HB5.setCell (p := ⟨w.heap.size, 4, none⟩) (Nat.le_refl _) (str x)).setCell (p := ⟨w.heap.size + 1, 0, none⟩) (Nat.le_succ _) (.int .i64 y1)).setCell (p := ⟨w.heap.size + 1, 1, none⟩) (Nat.le_succ _) (.int .i64 y2)).setCell (p := ⟨w.heap.size + 1, 2, none⟩) (Nat.le_succ _) (.int .i64 y3)).setCell (p := ⟨w.heap.size + 1, 3, none⟩) (Nat.le_succ _) (.int .i64 y4)).setCell (p := ⟨w.heap.size + 1, 4, none⟩) (Nat.le_succ _) (str x)).setCell (p := ⟨w.heap.size + 1, 5, none⟩) (Nat.le_succ _) (.int .i64 yl)).setCell (p := ⟨w.heap.size + 1, 6, none⟩) (Nat.le_succ _) (.int .i64 yr))⟩
      · have hp := mt (pre_iff 3 (by omega) (by omega) t).1 (by rw [HK0.out]; exact hki)
        rw [hn] at hp
        by_cases hl : t.length < 5
        · have hd : decide ((t.length : Int) < 5) = true := by simp; omega
          go_wp2_with fail
          go_quiet (fail)
          go_wp2_with fail
          go_roundw
          case rel => exact ⟨4, ⟨y1, y2, y3, y4, yf, yl, yr⟩, rfl, rfl, by omega, by omega, g1.drewN _, g2.drewN _, g3.drewN _, fun h => HQ'.out (by omega), fun h1 h2 => HBF.out h1 (by omega), HB.drewN_ _⟩
          case measure => simp [intOf]
        · have hd : decide ((t.length : Int) < 5) = false := by simp; omega
          have hd3 : ((5 : Nat) : Int) ≤ (t.length : Int) := by omega
          have e0 : S.extract 0 5 = ⟨(t.take 5).toArray⟩ := by rw [← hS, ext_str, List.drop_zero]
          obtain ⟨T, hT⟩ : ∃ T, t.take 5 = T := ⟨_, rfl⟩
          rw [hT] at e0 hp
          have hp2 : (T == [102, 105, 110, 100, 61]) = false := beq_eq_false_iff_ne.2 hp
          have hp3 : (T != [102, 105, 110, 100, 61]) = true := by rw [bne, hp2]; rfl
          clear hp hT
          go_wp2_with fail
          go_quiet (fail)
          go_wp2_with fail
          go_roundw
          case rel => exact ⟨4, ⟨y1, y2, y3, y4, yf, yl, yr⟩, rfl, rfl, by omega, by omega, g1.drewN _, g2.drewN _, g3.drewN _, fun h => HQ'.out (by omega), fun h1 h2 => HBF.out h1 (by omega), HB.drewN_ _⟩
          case measure => simp [intOf]
    · have hn : (keyL 4).length + 1 = 6 := rfl
      by_cases hki : k0 = 4
      · subst hki
        have ht := (pre_iff 4 (by omega) (by omega) t).2 HK0.out
        obtain ⟨hdr, hlen⟩ := pre_drop 4 (by omega) (by omega) t HK0.out
        rw [hn] at ht hdr hlen
        rw [HV.out] at hdr
        have e0 : S.extract 0 6 = ⟨#[108, 105, 109, 105, 116, 61]⟩ := by rw [← hS, ext_str, List.drop_zero, ht]; rfl
        have e1 : S.extract 6 t.length = ⟨v.toArray⟩ := by rw [← hS, ext_str, hdr, List.take_of_length_le (by rw [← hdr, List.length_drop]; omega)]
        have hd : decide ((t.length : Int) < 6) = false := by simp; omega
        have hd2 : ¬ t.length < 6 := by omega
        have hd3 : ((6 : Nat) : Int) ≤ (t.length : Int) := by omega
        obtain ⟨rfl, rfl, rfl, rfl, rfl, rfl, rfl⟩ : y1 = s1 ∧ y2 = s2 ∧ y3 = t1 ∧ y4 = t2 ∧ yf = fd ∧ yl = li ∧ yr = fr := by
          have := HQ'.out (by omega)
          simpa using this
        clear ht hdr
        cases bk
        · obtain ⟨x, hx⟩ : ∃ x, (numV v).1 = x := ⟨_, rfl⟩
          have HX := Lib.hid hx
          have C := fun w => refNumber_any v w x false (Prod.ext hx HBK.out) (by omega)
          clear hx
          have HC := Lib.hid C
          clear C
          go_wp2_with fail
          go_quiet (fail)
          go_wp2_with fail
          refine (HC.out _).mono ?_
          rintro e w4 ⟨rfl, hq⟩
          have hb5 : Below wr.heap.size wr w4 := by rw [hq]; exact (Below.refl _ wr).drewN_ _
          clear hq
          have h1 := g1.below hb5 (by omega)
          have h2 := g2.below hb5 (by omega)
          have h3 := g3.below hb5 (by omega)
          have HB5 := HB.trans (hb5.mono hzr)
          have hz5 := HB5.size
          clear g1 g2 g3 HB hb5 c0 c1 c2 c3 c4 c5 c6 f0 f1 f2 f3 f4 f5 f6 d0 d1 d2 d3 d4 d5 d6 p0 p1 p2 p3 p4 p5 p6 k0' k1 k2 k3 k4 k5
          obtain ⟨c0, c1, c2, c3, c4, c5, c6, f0, f1, f2, f3, f4, f5, f6⟩ := blk7f h1
          obtain ⟨d0, d1, d2, d3, d4, d5, d6, p0, p1, p2, p3, p4, p5, p6⟩ := blk7f h2
          go_wp2_with fail
          go_roundw
          case rel => exact ⟨5, ⟨y1, y2, y3, y4, yf, x, yr⟩, rfl, rfl, by omega, by omega, (h1.set 5 (.int .i64 x)), (h2.far (p := ⟨w.heap.size, 5, none⟩) (by show w.heap.size + 1 ≠ w.heap.size; omega) (.int .i64 x)), (h3.far (p := ⟨w.heap.size, 5, none⟩) (by show w.heap.size + 2 ≠ w.heap.size; omega) (.int .i64 x)), fun h => absurd h (by omega), fun _ _ => by trivial, (HB5.setCell (p := ⟨w.heap.size, 5, none⟩) (Nat.le_refl _) (.int .i64 x))⟩
          case measure => simp [intOf]
        · obtain ⟨x, hx⟩ : ∃ x, (numV v).1 = x := ⟨_, rfl⟩
          have HX := Lib.hid hx
          have C := fun w => refNumber_any v w x true (Prod.ext hx HBK.out) (by omega)
          clear hx
          have HC := Lib.hid C
          clear C
          go_wp2_with fail
          go_quiet (fail)
          go_wp2_with fail
          refine (HC.out _).mono ?_
          rintro e w4 ⟨rfl, hq⟩
          have hb5 : Below wr.heap.size wr w4 := by rw [hq]; exact (Below.refl _ wr).drewN_ _
          clear hq
          have h1 := g1.below hb5 (by omega)
          have h2 := g2.below hb5 (by omega)
          have h3 := g3.below hb5 (by omega)
          have HB5 := HB.trans (hb5.mono hzr)
          have hz5 := HB5.size
          clear g1 g2 g3 HB hb5 c0 c1 c2 c3 c4 c5 c6 f0 f1 f2 f3 f4 f5 f6 d0 d1 d2 d3 d4 d5 d6 p0 p1 p2 p3 p4 p5 p6 k0' k1 k2 k3 k4 k5
          obtain ⟨c0, c1, c2, c3, c4, c5, c6, f0, f1, f2, f3, f4, f5, f6⟩ := blk7f h1
          obtain ⟨d0, d1, d2, d3, d4, d5, d6, p0, p1, p2, p3, p4, p5, p6⟩ := blk7f h2
          go_wp2_with fail
          try rw [Exit.noGoto_ret]
          refine bodyPost_ret (results_rowA rfl _ _ (w.heap.size + 1) (qc ⟨y1, y2, y3, y4, yf, x, yr⟩) _ rfl ((((((((h2.far (p := ⟨w.heap.size, 5, none⟩) (by show w.heap.size + 1 ≠ w.heap.size; omega) (.int .i64 x)).set 0 (.int .i64 y1)).set 1 (.int .i64 y2)).set 2 (.int .i64 y3)).set 3 (.int .i64 y4)).set 4 (str yf)).set 5 (.int .i64 x)).set 6 (.int .i64 yr)) Tryd.underlying26 rfl (by kernel_rfl)) rfl ?_
          exact ⟨⟨y1, y2, y3, y4, yf, x, yr⟩, rfl, (by first | rfl | (simp only [setW, HX.out]; done) | (intro _; first | rfl | (simp only [setW, HX.out]; done))), ((((((((HB5.setCell (p := ⟨w.heap.size, 5, none⟩) (Nat.le_refl _) (.int .i64 x)).setCell (p := ⟨w.heap.size + 1, 0, none⟩) (Nat.le_succ _) (.int .i64 y1)).setCell (p := ⟨w.heap.size + 1, 1, none⟩) (Nat.le_succ _) (.int .i64 y2)).setCell (p := ⟨w.heap.size + 1, 2, none⟩) (Nat.le_succ _) (.int .i64 y3)).setCell (p := ⟨w.heap.size + 1, 3, none⟩) (Nat.le_succ _) (.int .i64 y4)).setCell (p := ⟨w.heap.size + 1, 4, none⟩) (Nat.le_succ _) (str yf)).setCell (p := ⟨w.heap.size + 1, 5, none⟩) (Nat.le_succ _) (.int .i64 x)).setCell (p := ⟨w.heap.size + 1, 6, none⟩) (Nat.le_succ _) (.int .i64 yr))⟩
      · have hp := mt (pre_iff 4 (by omega) (by omega) t).1 (by rw [HK0.out]; exact hki)
        rw [hn] at hp
        by_cases hl : t.length < 6
        · have hd : decide ((t.length : Int) < 6) = true := by simp; omega
          go_wp2_with fail
          go_quiet (fail)
          go_wp2_with fail
          go_roundw
          case rel => exact ⟨5, ⟨y1, y2, y3, y4, yf, yl, yr⟩, rfl, rfl, by omega, by omega, g1.drewN _, g2.drewN _, g3.drewN _, fun h => HQ'.out (by omega), fun h1 h2 => HBF.out h1 (by omega), HB.drewN_ _⟩
          case measure => simp [intOf]
        · have hd : decide ((t.length : Int) < 6) = false := by simp; omega
          have hd3 : ((6 : Nat) : Int) ≤ (t.length : Int) := by omega
          have e0 : S.extract 0 6 = ⟨(t.take 6).toArray⟩ := by rw [← hS, ext_str, List.drop_zero]
          obtain ⟨T, hT⟩ : ∃ T, t.take 6 = T := ⟨_, rfl⟩
          rw [hT] at e0 hp
          have hp2 : (T == [108, 105, 109, 105, 116, 61]) = false := beq_eq_false_iff_ne.2 hp
          have hp3 : (T != [108, 105, 109, 105, 116, 61]) = true := by rw [bne, hp2]; rfl
          clear hp hT
          go_wp2_with fail
          go_quiet (fail)
          go_wp2_with fail
          go_roundw
          case rel => exact ⟨5, ⟨y1, y2, y3, y4, yf, yl, yr⟩, rfl, rfl, by omega, by omega, g1.drewN _, g2.drewN _, g3.drewN _, fun h => HQ'.out (by omega), fun h1 h2 => HBF.out h1 (by omega), HB.drewN_ _⟩
          case measure => simp [intOf]
    · have hn : (keyL 5).length + 1 = 5 := rfl
      by_cases hki : k0 = 5
      · subst hki
        have ht := (pre_iff 5 (by omega) (by omega) t).2 HK0.out
        obtain ⟨hdr, hlen⟩ := pre_drop 5 (by omega) (by omega) t HK0.out
        rw [hn] at ht hdr hlen
        rw [HV.out] at hdr
        have e0 : S.extract 0 5 = ⟨#[102, 114, 111, 109, 61]⟩ := by rw [← hS, ext_str, List.drop_zero, ht]; rfl
        have e1 : S.extract 5 t.length = ⟨v.toArray⟩ := by rw [← hS, ext_str, hdr, List.take_of_length_le (by rw [← hdr, List.length_drop]; omega)]
        have hd : decide ((t.length : Int) < 5) = false := by simp; omega
        have hd2 : ¬ t.length < 5 := by omega
        have hd3 : ((5 : Nat) : Int) ≤ (t.length : Int) := by omega
        obtain ⟨rfl, rfl, rfl, rfl, rfl, rfl, rfl⟩ : y1 = s1 ∧ y2 = s2 ∧ y3 = t1 ∧ y4 = t2 ∧ yf = fd ∧ yl = li ∧ yr = fr := by
          have := HQ'.out (by omega)
          simpa using this
        clear ht hdr
        cases bk
        · obtain ⟨x, hx⟩ : ∃ x, (numV v).1 = x := ⟨_, rfl⟩
          have HX := Lib.hid hx
          have C := fun w => refNumber_any v w x false (Prod.ext hx HBK.out) (by omega)
          clear hx
          have HC := Lib.hid C
          clear C
          go_wp2_with fail
          go_quiet (fail)
          go_wp2_with fail
          refine (HC.out _).mono ?_
          rintro e w4 ⟨rfl, hq⟩
          have hb5 : Below wr.heap.size wr w4 := by rw [hq]; exact (Below.refl _ wr).drewN_ _
          clear hq
          have h1 := g1.below hb5 (by omega)
          have h2 := g2.below hb5 (by omega)
          have h3 := g3.below hb5 (by omega)
          have HB5 := HB.trans (hb5.mono hzr)
          have hz5 := HB5.size
          clear g1 g2 g3 HB hb5 c0 c1 c2 c3 c4 c5 c6 f0 f1 f2 f3 f4 f5 f6 d0 d1 d2 d3 d4 d5 d6 p0 p1 p2 p3 p4 p5 p6 k0' k1 k2 k3 k4 k5
          obtain ⟨c0, c1, c2, c3, c4, c5, c6, f0, f1, f2, f3, f4, f5, f6⟩ := blk7f h1
          obtain ⟨d0, d1, d2, d3, d4, d5, d6, p0, p1, p2, p3, p4, p5, p6⟩ := blk7f h2
          go_wp2_with fail
          go_roundw
          case rel => exact ⟨6, ⟨y1, y2, y3, y4, yf, yl, x⟩, rfl, rfl, by omega, by omega, (h1.set 6 (.int .i64 x)), (h2.far (p := ⟨w.heap.size, 6, none⟩) (by show w.heap.size + 1 ≠ w.heap.size; omega) (.int .i64 x)), (h3.far (p := ⟨w.heap.size, 6, none⟩) (by show w.heap.size + 2 ≠ w.heap.size; omega) (.int .i64 x)), fun h => absurd h (by omega), fun _ _ => by trivial, (HB5.setCell (p := ⟨w.heap.size, 6, none⟩) (Nat.le_refl _) (.int .i64 x))⟩
          case measure => simp [intOf]
        · obtain ⟨x, hx⟩ : ∃ x, (numV v).1 = x := ⟨_, rfl⟩
          have HX := Lib.hid hx
          have C := fun w => refNumber_any v w x true (Prod.ext hx HBK.out) (by omega)
          clear hx
          have HC := Lib.hid C
          clear C
          go_wp2_with fail
          go_quiet (fail)
          go_wp2_with fail
          refine (HC.out _).mono ?_
          rintro e w4 ⟨rfl, hq⟩
          have hb5 : Below wr.heap.size wr w4 := by rw [hq]; exact (Below.refl _ wr).drewN_ _
          clear hq
          have h1 := g1.below hb5 (by omega)
          have h2 := g2.below hb5 (by omega)
          have h3 := g3.below hb5 (by omega)
          have HB5 := HB.trans (hb5.mono hzr)
          have hz5 := HB5.size
          clear g1 g2 g3 HB hb5 c0 c1 c2 c3 c4 c5 c6 f0 f1 f2 f3 f4 f5 f6 d0 d1 d2 d3 d4 d5 d6 p0 p1 p2 p3 p4 p5 p6 k0' k1 k2 k3 k4 k5
          obtain ⟨c0, c1, c2, c3, c4, c5, c6, f0, f1, f2, f3, f4, f5, f6⟩ := blk7f h1
          obtain ⟨d0, d1, d2, d3, d4, d5, d6, p0, p1, p2, p3, p4, p5, p6⟩ := blk7f h2
          go_wp2_with fail
          try rw [Exit.noGoto_ret]
          refine bodyPost_ret (results_rowA rfl _ _ (w.heap.size + 1) (qc ⟨y1, y2, y3, y4, yf, yl, x⟩) _ rfl ((((((((h2.far (p := ⟨w.heap.size, 6, none⟩) (by show w.heap.size + 1 ≠ w.heap.size; omega) (.int .i64 x)).set 0 (.int .i64 y1)).set 1 (.int .i64 y2)).set 2 (.int .i64 y3)).set 3 (.int .i64 y4)).set 4 (str yf)).set 5 (.int .i64 yl)).set 6 (.int .i64 x)) Tryd.underlying26 rfl (by kernel_rfl)) rfl ?_
          exact ⟨⟨y1, y2, y3, y4, yf, yl, x⟩, rfl, (by first | rfl | (simp only [setW, HX.out]; done) | (intro _; first | rfl | (simp only [setW, HX.out]; done))), ((((((((HB5.setCell (p := ⟨w.heap.size, 6, none⟩) (Nat.le_refl _) (.int .i64 x)).setCell (p := ⟨w.heap.size + 1, 0, none⟩) (Nat.le_succ _) (.int .i64 y1)).setCell (p := ⟨w.heap.size + 1, 1, none⟩) (Nat.le_succ _) (.int .i64 y2)).setCell (p := ⟨w.heap.size + 1, 2, none⟩) (Nat.le_succ _) (.int .i64 y3)).setCell (p := ⟨w.heap.size + 1, 3, none⟩) (Nat.le_succ _) (.int .i64 y4)).setCell (p := ⟨w.heap.size + 1, 4, none⟩) (Nat.le_succ _) (str yf)).setCell (p := ⟨w.heap.size + 1, 5, none⟩) (Nat.le_succ _) (.int .i64 yl)).setCell (p := ⟨w.heap.size + 1, 6, none⟩) (Nat.le_succ _) (.int .i64 x))⟩
      · have hp := mt (pre_iff 5 (by omega) (by omega) t).1 (by rw [HK0.out]; exact hki)
        rw [hn] at hp
        by_cases hl : t.length < 5
        · have hd : decide ((t.length : Int) < 5) = true := by simp; omega
          go_wp2_with fail
          go_quiet (fail)
          go_wp2_with fail
          go_roundw
          case rel => exact ⟨6, ⟨y1, y2, y3, y4, yf, yl, yr⟩, rfl, rfl, by omega, by omega, g1.drewN _, g2.drewN _, g3.drewN _, fun h => HQ'.out (by omega), fun h1 h2 => HBF.out h1 (by omega), HB.drewN_ _⟩
          case measure => simp [intOf]
        · have hd : decide ((t.length : Int) < 5) = false := by simp; omega
          have hd3 : ((5 : Nat) : Int) ≤ (t.length : Int) := by omega
          have e0 : S.extract 0 5 = ⟨(t.take 5).toArray⟩ := by rw [← hS, ext_str, List.drop_zero]
          obtain ⟨T, hT⟩ : ∃ T, t.take 5 = T := ⟨_, rfl⟩
          rw [hT] at e0 hp
          have hp2 : (T == [102, 114, 111, 109, 61]) = false := beq_eq_false_iff_ne.2 hp
          have hp3 : (T != [102, 114, 111, 109, 61]) = true := by rw [bne, hp2]; rfl
          clear hp hT
          go_wp2_with fail
          go_quiet (fail)
          go_wp2_with fail
          go_roundw
          case rel => exact ⟨6, ⟨y1, y2, y3, y4, yf, yl, yr⟩, rfl, rfl, by omega, by omega, g1.drewN _, g2.drewN _, g3.drewN _, fun h => HQ'.out (by omega), fun h1 h2 => HBF.out h1 (by omega), HB.drewN_ _⟩
          case measure => simp [intOf]
    · have hbf : bk = false := by
        by_cases hk : k0 = 0
        · have := HBK.out
          rw [hk] at this
          exact this.symm
        · exact HBF.out hk (by omega)
      subst hbf
      go_wp2_with fail
      try rw [Exit.noGoto_ret]
      refine bodyPost_ret (results_rowA rfl _ _ (w.heap.size + 1) (qc ⟨y1, y2, y3, y4, yf, yl, yr⟩) _ rfl (((((((g2.set 0 (.int .i64 y1)).set 1 (.int .i64 y2)).set 2 (.int .i64 y3)).set 3 (.int .i64 y4)).set 4 (str yf)).set 5 (.int .i64 yl)).set 6 (.int .i64 yr)) Tryd.underlying26 rfl (by kernel_rfl)) rfl ?_
      have HBE := HB.setCell (p := ⟨w.heap.size + 1, 0, none⟩) (Nat.le_succ _) (.int .i64 y1) |>.setCell (p := ⟨w.heap.size + 1, 1, none⟩) (Nat.le_succ _) (.int .i64 y2) |>.setCell (p := ⟨w.heap.size + 1, 2, none⟩) (Nat.le_succ _) (.int .i64 y3) |>.setCell (p := ⟨w.heap.size + 1, 3, none⟩) (Nat.le_succ _) (.int .i64 y4) |>.setCell (p := ⟨w.heap.size + 1, 4, none⟩) (Nat.le_succ _) (str yf) |>.setCell (p := ⟨w.heap.size + 1, 5, none⟩) (Nat.le_succ _) (.int .i64 yl) |>.setCell (p := ⟨w.heap.size + 1, 6, none⟩) (Nat.le_succ _) (.int .i64 yr)
      first
        | exact ⟨⟨y1, y2, y3, y4, yf, yl, yr⟩, rfl, (fun h => absurd h (by decide)), HBE⟩
        | exact ⟨⟨⟨y1, y2, y3, y4, yf, yl, yr⟩, rfl⟩, HBE⟩
end WanW
end Go.Proofs.YtjcbaaabbdcdnaaDoor
