/- The laws of package varint on lists, on what comes back, and on the least bytes: their walks. -/
import Derived.Test.YtjdmbpkabeaccaaVarA
import Derived.Test.YtjdmbpkabeaccaaVarQ
import Derived.Test.YtjdmbpkabeaccaaSame
import Derived.Test.YtjdmbpkabeaccaaOpenI
import Derived.WideKeyArr2
namespace Go.Proofs.Ytjdmbpkabeaccaa
set_option linter.unusedVariables false
set_option linter.unusedSimpArgs false
set_option linter.unnecessarySimpa false
open Go.RowKit Go.ChangeShapes Go.WideShapes
namespace VarW

theorem open_arr2 {H : Type} {enc : TypeId × Value → H} {P : Program} {w : World} {base : Nat} {spare : Nat → Bool} {held : Bool} {r : Reach} {b0 : Nat} {k e : TypeId} {v : Value} {d : DataW H} {p : List MemPlace}
    (hu : P.underlying k = some (.array 2 e)) (he : P.underlying e = some (.int .i64)) (hone : P.cellsOf e = 1) (hsize : P.cellsOf k = 2) (hv : Value.okWide P w r b0 k v) (h : DataW.Trod enc P w base spare held k v d p) :
    ∃ a b, v = .agg #[.int .i64 a, .int .i64 b] ∧ I64 a ∧ I64 b := by
  simp only [Value.okWide, hu] at hv
  obtain ⟨xs, rfl, hx, _⟩ := hv
  rw [hsize] at hx
  obtain ⟨fuel, hf⟩ := h
  cases fuel with
  | zero => simp [DataW.trod] at hf
  | succ m =>
    rw [DataW.trod_step] at hf
    unfold DataW.trodStep at hf
    simp only [hu, Value.cells] at hf
    rw [if_pos (by rw [hsize]; simpa using hx)] at hf
    simp only [Option.map_eq_some_iff] at hf
    obtain ⟨ys, hy, _⟩ := hf
    obtain ⟨l, rfl⟩ : ∃ l : List Value, xs = l.toArray := ⟨xs.toList, by simp⟩
    match l, hx with
    | [x, y], _ =>
      simp only [hone, List.range, List.range.loop, List.mapM_cons, List.mapM_nil, bind, Option.bind_eq_some_iff, pure, Option.some.injEq] at hy
      obtain ⟨y0, h0, _, ⟨y1, h1, _⟩, _⟩ := hy
      obtain ⟨i, e0, _, w0⟩ := DataW.trod_int he h0
      obtain ⟨j, e1, _, w1⟩ := DataW.trod_int he h1
      simp at e0 e1
      subst e0 e1
      exact ⟨i, j, rfl, i64_of w0, i64_of w1⟩

set_option maxRecDepth 100000 in
set_option maxHeartbeats 4000000 in
theorem lists_law (A : Option Addr) (n c : Nat) (l : List Int) (s : ByteArray) (a b : Int) (w : World) (h : Rd w w.heap.size 1 A n (ints l)) (hn : n ≤ maxLen) (h64 : ∀ x ∈ l, I64 x) (hs : s.size ≤ maxLen) :
    Calls Try.prog 5 #[.slice A n c, .string s, .agg #[.int .i64 a, .int .i64 b]] w fun e w' => e = .returned (.bool true) ∧ Below w.heap.size w w' := by
  obtain ⟨m, rfl, hm⟩ := str_of s
  rw [← hm] at hs
  clear hm
  unfold maxLen at hs hn
  have H64 := Lib.hid h64
  clear h64
  by_cases hbig : 1000 < n ∨ 5000 < m.length ∨ 5000 < b
  · have hb' : (1000 : Int) < (n : Int) ∨ (¬ (1000 : Int) < (n : Int) ∧ (5000 : Int) < (m.length : Int)) ∨ (¬ (1000 : Int) < (n : Int) ∧ ¬ (5000 : Int) < (m.length : Int) ∧ 5000 < b) := by omega
    clear hbig
    rcases hb' with hb | ⟨hb, hb2⟩ | ⟨hb, hb2, hb3⟩
    all_goals
      have HB : Below w.heap.size w (w.alloc (.cells #[.int .i64 a, .int .i64 b] 40)) := (by first | exact Below.refl _ _ | (repeat (first | exact Below.refl _ _ | assumption | refine Below.drew ?_ | refine Below.drewN_ ?_ _ | refine Below.alloc ?_ (by first | exact Nat.le_refl _ | (simp; done) | (simp; omega) | omega) _ | refine Below.setCell ?_ (by first | exact Nat.le_refl _ | (simp; done) | (simp; omega) | omega) _ | (refine Below.trans ?_ (Below.mono (by assumption) (by first | exact Nat.le_refl _ | (simp; done) | (simp; omega) | omega))))))
      go_enter Try.func5, Try.ntmps5
      go_wp2_with fail
      refine (awake_any _).mono ?_
      rintro e w7 ⟨rfl, hb7⟩
      have HB7 : Below w.heap.size w w7 := (Below.trans (by first | exact Below.refl _ _ | (repeat (first | exact Below.refl _ _ | assumption | refine Below.drew ?_ | refine Below.drewN_ ?_ _ | refine Below.alloc ?_ (by first | exact Nat.le_refl _ | (simp; done) | (simp; omega) | omega) _ | refine Below.setCell ?_ (by first | exact Nat.le_refl _ | (simp; done) | (simp; omega) | omega) _ | (refine Below.trans ?_ (Below.mono (by assumption) (by first | exact Nat.le_refl _ | (simp; done) | (simp; omega) | omega)))))) (Below.mono hb7 (by first | exact Nat.le_refl _ | (simp only [World.size_alloc, World.size_setCell, World.size_drew]; omega) | (simp; done) | (simp; omega) | omega)))
      go_wp2_with fail
      go_ret
      exact ⟨rfl, HB7⟩
  · have hn1 : ¬ (1000 : Int) < (n : Int) := by omega
    have hn2 : ¬ (5000 : Int) < (m.length : Int) := by omega
    have hn3 : ¬ (5000 : Int) < b := by omega
    clear hbig
    have C1 := fun w HH => list_any A n c l w HH (by omega) H64.out
    have C2 := fun w HH => refList_any A n c l w HH (by omega) H64.out
    have C3 := fun w => unlist_any m a b w (by omega) _ rfl
    have C4 := fun w => refUnlist_any m a b w (by omega) _ rfl
    have hul := unlistV_len m a b
    generalize listV l = x at *
    generalize unlistV m a b = y at *
    have H1 := Lib.hid C1
    have H2 := Lib.hid C2
    have H3 := Lib.hid C3
    have H4 := Lib.hid C4
    clear C1 C2 C3 C4
    go_enter Try.func5, Try.ntmps5
    go_wp2_with fail
    have HB : Below w.heap.size w (w.alloc (.cells #[.int .i64 a, .int .i64 b] 40)) := (by first | exact Below.refl _ _ | (repeat (first | exact Below.refl _ _ | assumption | refine Below.drew ?_ | refine Below.drewN_ ?_ _ | refine Below.alloc ?_ (by first | exact Nat.le_refl _ | (simp; done) | (simp; omega) | omega) _ | refine Below.setCell ?_ (by first | exact Nat.le_refl _ | (simp; done) | (simp; omega) | omega) _ | (refine Below.trans ?_ (Below.mono (by assumption) (by first | exact Nat.le_refl _ | (simp; done) | (simp; omega) | omega))))))
    have g0 : Blk (w.alloc (.cells #[.int .i64 a, .int .i64 b] 40)) w.heap.size 40 #[.int .i64 a, .int .i64 b] := Blk.new _ _ _
    have zz0 : w.heap.size + 1 ≤ (w.alloc (.cells #[.int .i64 a, .int .i64 b] 40)).heap.size := by simp
    generalize w.alloc (.cells #[.int .i64 a, .int .i64 b] 40) = w0 at *
    refine (H1.out _ ((h.below HB).more HB.size)).mono ?_
    rintro e w1 ⟨rfl, hb1⟩
    replace g0 := g0.below hb1 (by omega)
    have z1 := hb1.size; replace HB := HB.trans (hb1.mono HB.size); have zz1 := HB.size
    clear hb1
    go_wp2_with fail
    refine (H2.out _ ((h.below HB).more HB.size)).mono ?_
    rintro e w2 ⟨rfl, hb2⟩
    replace g0 := g0.below hb2 (by omega)
    have z2 := hb2.size; replace HB := HB.trans (hb2.mono HB.size); have zz2 := HB.size
    clear hb2 H1 H2
    have g0' := g0
    obtain ⟨c0, c1, _⟩ := blk2 g0'
    clear g0'
    go_wp2_with fail
    refine (H3.out _).mono ?_
    rintro e w3 ⟨A3, n3, c3, rfl, hc3, r3, hb3⟩
    replace g0 := g0.below hb3 (by omega)
    have z3 := hb3.size; replace HB := HB.trans (hb3.mono HB.size); have zz3 := HB.size
    have hn3' := rd_len r3
    have hn3'' : n3 ≤ 5000 := by omega
    clear hb3 H3 c0 c1 hn3'
    have g0' := g0
    obtain ⟨c0, c1, _⟩ := blk2 g0'
    clear g0'
    go_wp2_with fail
    refine (H4.out _).mono ?_
    rintro e w4 ⟨A4, n4, c4, rfl, hc4, r4, hb4⟩
    have z4 := hb4.size; replace HB := HB.trans (hb4.mono HB.size); have zz4 := HB.size
    have hn4' := rd_len r4
    have hn4'' : n4 ≤ 5000 := by omega
    replace r3 := (r3.below hb4).more hb4.size
    clear hb4 H4 c0 c1 hn4' g0
    go_wp2_with fail
    refine (same_any A3 A4 n3 c3 n4 c4 y.1 y.1 _ r3 r4 (by omega) (by omega)).mono ?_
    rintro e w5 ⟨rfl, hb5⟩
    rw [decide_eq_true (rfl : y.1 = y.1)]
    have z5 := hb5.size; replace HB := HB.trans (hb5.mono HB.size); have zz5 := HB.size
    clear hb5
    go_wp2_with fail
    refine (awake_any _).mono ?_
    rintro e w7 ⟨rfl, hb7⟩
    have z7 := hb7.size; replace HB := HB.trans (hb7.mono HB.size); have zz7 := HB.size
    go_wp2_with fail
    go_ret
    exact ⟨rfl, HB⟩

def bef : List UInt8 := [98, 101, 102, 111, 114, 101]
def beh : List UInt8 := [98, 101, 104, 105, 110, 100]
theorem cat3 (a b c : List UInt8) : ((⟨a.toArray⟩ : ByteArray) ++ ⟨b.toArray⟩ ++ ⟨c.toArray⟩) = ⟨(a ++ (b ++ c)).toArray⟩ := by rw [ba_cat, ba_cat]; simp

theorem catB (b : List UInt8) : (({ data := #[98, 101, 102, 111, 114, 101] } : ByteArray) ++ { data := b.toArray } ++ { data := #[98, 101, 104, 105, 110, 100] }) = ⟨(bef ++ (b ++ beh)).toArray⟩ := cat3 bef b beh
theorem list_back (l : List Int) (n : Nat) (hn : l.length = n) (hm : n ≤ 1000) (h64 : ∀ x ∈ l, I64 x) (hok : okL l = true) : ∃ bs : List UInt8, Hid (listV l = (bs, 0)) ∧ Hid (unlistV (bef ++ (bs ++ beh)) 6 n = (l, 6 + (bs.length : Int), 0)) ∧ bs.length ≤ 9 + 9 * n := by
  have h0 : ∀ z ∈ l, 0 ≤ z := by simpa [okL] using hok
  refine ⟨vbytes l.length ++ lput l, Lib.hid (listV_yes h0), Lib.hid ?_, ?_⟩
  · have := unlistV_put bef beh l (fun z hz => ⟨h0 z hz, (h64 z hz).2⟩) (by omega)
    rw [hn] at this ⊢
    rw [show (6 : Int) = (bef.length : Nat) from rfl, this]
    rw [Int.natCast_add]
  · have h1 := lput_len l
    have h2 := vlen_le l.length
    rw [List.length_append, vbytes_len]
    omega
theorem list_bad (l : List Int) (hok : ¬ okL l = true) : listV l = ([], 2) := by unfold listV; rw [if_neg hok]
theorem getV_bef (x : Nat) (h : x ≤ 9223372036854775807) : getV (bef ++ (vbytes x ++ beh)) 6 = ((x : Int), 6 + (vlen x : Int), 0) := by
  have := getV_put bef beh x h
  rw [show (6 : Int) = (bef.length : Nat) from rfl, this, Int.natCast_add]
theorem unfixV_bef (x k : Nat) (h1 : 1 ≤ k) (h8 : k ≤ 8) (hn : x < 256 ^ k) (hx : x ≤ 9223372036854775807) : unfixV (bef ++ (fbytes k x ++ beh)) 6 k = ((x : Int), 6 + (k : Int), 0) := by
  have := unfixV_put bef beh x k h1 h8 hn hx
  rw [show (6 : Int) = (bef.length : Nat) from rfl, this]
set_option maxRecDepth 100000 in
set_option maxHeartbeats 8000000 in
theorem back_law (n0 width : Int) (A : Option Addr) (n c : Nat) (l : List Int) (w : World) (h : Rd w w.heap.size 1 A n (ints l)) (hn : n ≤ maxLen) (h64 : ∀ x ∈ l, I64 x) (hn0 : I64 n0) :
    Calls Try.prog 6 #[.int .i64 n0, .int .i64 width, .slice A n c] w fun e w' => e = .returned (.bool true) ∧ Below w.heap.size w w' := by
  unfold maxLen at hn
  have H64 := Lib.hid h64
  have HLN := Lib.hid (rd_len h)
  have HB := Below.refl w.heap.size w
  clear h64
  by_cases hbig : 1000 < n
  · go_enter Try.func6, Try.ntmps6
    go_wp2_with fail
    refine (awake_any _).mono ?_
    rintro e w7 ⟨rfl, hb7⟩
    have z7 := hb7.size; replace HB := HB.trans (hb7.mono HB.size); have zz7 := HB.size
    go_wp2_with fail
    go_ret
    exact ⟨rfl, HB⟩
  · by_cases hneg : n0 < 0
    · have HFN := Lib.hid (fixV_no (n := n0) (width := width) (by omega))
      go_enter Try.func6, Try.ntmps6
      go_wp2_with fail
      refine (put_no n0 _ hneg).mono ?_
      rintro e w1 ⟨rfl, hb1⟩
      have z1 := hb1.size; replace HB := HB.trans (hb1.mono HB.size); have zz1 := HB.size
      clear hb1
      go_wp2_with fail
      refine (fix_eq n0 width _ hn0 ([], 2) HFN.out).mono ?_
      rintro e w3 ⟨rfl, hb3⟩
      have z3 := hb3.size; replace HB := HB.trans (hb3.mono HB.size); have zz3 := HB.size
      clear hb3
      by_cases hok : okL l = true
      · obtain ⟨bs, HL, HU, hbs⟩ := list_back l n HLN.out (by omega) H64.out hok
        clear hok
        go_wp2_with fail
        refine (list_eq A n c l _ HL.out _ ((h.below HB).more HB.size) (by omega) H64.out).mono ?_
        rintro e w6 ⟨rfl, hb6⟩
        have z6 := hb6.size; replace HB := HB.trans (hb6.mono HB.size); have zz6 := HB.size
        clear hb6
        go_wp2_with fail
        rw [catB bs]
        refine (unlist_any (bef ++ (bs ++ beh)) 6 n _ (by simp [bef, beh]; omega) _ HU.out).mono ?_
        rintro e w7 ⟨A7, n7, c7, rfl, hc7, r7, hb7⟩
        have hn7 : l.length = n7 := rd_len r7
        have hn7' : n7 ≤ 1000 := by have := HLN.out; omega
        have z7 := hb7.size; replace HB := HB.trans (hb7.mono HB.size); have zz7 := HB.size
        clear hb7 hn7
        go_wp2_with fail
        refine (same_any A7 A n7 c7 n c l l _ r7 ((h.below HB).more HB.size) (by omega) (by omega)).mono ?_
        rintro e w8 ⟨rfl, hb8⟩
        rw [decide_eq_true (rfl : l = l)]
        have z8 := hb8.size; replace HB := HB.trans (hb8.mono HB.size); have zz8 := HB.size
        clear hb8 r7
        go_wp2_with fail
        refine (awake_any _).mono ?_
        rintro e w9 ⟨rfl, hb9⟩
        have z9 := hb9.size; replace HB := HB.trans (hb9.mono HB.size); have zz9 := HB.size
        go_wp2_with fail
        go_ret
        exact ⟨rfl, HB⟩
      · have HL := Lib.hid (list_bad l hok)
        clear hok
        go_wp2_with fail
        refine (list_eq A n c l _ HL.out _ ((h.below HB).more HB.size) (by omega) H64.out).mono ?_
        rintro e w6 ⟨rfl, hb6⟩
        have z6 := hb6.size; replace HB := HB.trans (hb6.mono HB.size); have zz6 := HB.size
        clear hb6
        go_wp2_with fail
        refine (awake_any _).mono ?_
        rintro e w9 ⟨rfl, hb9⟩
        have z9 := hb9.size; replace HB := HB.trans (hb9.mono HB.size); have zz9 := HB.size
        go_wp2_with fail
        go_ret
        exact ⟨rfl, HB⟩
    · obtain ⟨x, rfl⟩ := Int.eq_ofNat_of_zero_le (show 0 ≤ n0 by omega)
      obtain ⟨q1, q2⟩ := id hn0
      have hv := vlen_le x
      have hvl := vbytes_len x
      go_enter Try.func6, Try.ntmps6
      go_wp2_with fail
      refine (put_yes x _ (by omega)).mono ?_
      rintro e w1 ⟨rfl, hb1⟩
      have z1 := hb1.size; replace HB := HB.trans (hb1.mono HB.size); have zz1 := HB.size
      clear hb1
      go_wp2_with fail
      rw [catB (vbytes x)]
      refine (get_any (bef ++ (vbytes x ++ beh)) 6 _ (by simp [bef, beh]; omega) _ (getV_bef x (by omega))).mono ?_
      rintro e w2 ⟨rfl, rfl⟩
      go_wp2_with fail
      refine (RecW.vsize_any x _ (by omega) (by omega)).mono ?_
      rintro e w2 ⟨rfl, rfl⟩
      rw [Int.toNat_natCast]
      by_cases hw : width < 1 ∨ 8 < width ∨ (256 : Int) ^ width.toNat ≤ (x : Int)
      · have HFN := Lib.hid (fixV_no (n := (x : Int)) (width := width) (by omega))
        clear hw
        go_wp2_with fail
        refine (fix_eq x width _ hn0 ([], 2) HFN.out).mono ?_
        rintro e w3 ⟨rfl, hb3⟩
        have z3 := hb3.size; replace HB := HB.trans (hb3.mono HB.size); have zz3 := HB.size
        clear hb3
        by_cases hok : okL l = true
        · obtain ⟨bs, HL, HU, hbs⟩ := list_back l n HLN.out (by omega) H64.out hok
          clear hok
          go_wp2_with fail
          refine (list_eq A n c l _ HL.out _ ((h.below HB).more HB.size) (by omega) H64.out).mono ?_
          rintro e w6 ⟨rfl, hb6⟩
          have z6 := hb6.size; replace HB := HB.trans (hb6.mono HB.size); have zz6 := HB.size
          clear hb6
          go_wp2_with fail
          rw [catB bs]
          refine (unlist_any (bef ++ (bs ++ beh)) 6 n _ (by simp [bef, beh]; omega) _ HU.out).mono ?_
          rintro e w7 ⟨A7, n7, c7, rfl, hc7, r7, hb7⟩
          have hn7 : l.length = n7 := rd_len r7
          have hn7' : n7 ≤ 1000 := by have := HLN.out; omega
          have z7 := hb7.size; replace HB := HB.trans (hb7.mono HB.size); have zz7 := HB.size
          clear hb7 hn7
          go_wp2_with fail
          refine (same_any A7 A n7 c7 n c l l _ r7 ((h.below HB).more HB.size) (by omega) (by omega)).mono ?_
          rintro e w8 ⟨rfl, hb8⟩
          rw [decide_eq_true (rfl : l = l)]
          have z8 := hb8.size; replace HB := HB.trans (hb8.mono HB.size); have zz8 := HB.size
          clear hb8 r7
          go_wp2_with fail
          refine (awake_any _).mono ?_
          rintro e w9 ⟨rfl, hb9⟩
          have z9 := hb9.size; replace HB := HB.trans (hb9.mono HB.size); have zz9 := HB.size
          go_wp2_with fail
          go_ret
          exact ⟨rfl, HB⟩
        · have HL := Lib.hid (list_bad l hok)
          clear hok
          go_wp2_with fail
          refine (list_eq A n c l _ HL.out _ ((h.below HB).more HB.size) (by omega) H64.out).mono ?_
          rintro e w6 ⟨rfl, hb6⟩
          have z6 := hb6.size; replace HB := HB.trans (hb6.mono HB.size); have zz6 := HB.size
          clear hb6
          go_wp2_with fail
          refine (awake_any _).mono ?_
          rintro e w9 ⟨rfl, hb9⟩
          have z9 := hb9.size; replace HB := HB.trans (hb9.mono HB.size); have zz9 := HB.size
          go_wp2_with fail
          go_ret
          exact ⟨rfl, HB⟩
      · obtain ⟨k, rfl⟩ := Int.eq_ofNat_of_zero_le (show 0 ≤ width by omega)
        have hx256 : (x : Int) < (256 : Int) ^ k := by rw [Int.toNat_natCast] at hw; omega
        have HFY := Lib.hid (fixV_yes (n := x) (k := k) (by omega) (by omega) hx256)
        have HUF := Lib.hid (unfixV_bef x k (by omega) (by omega) (by exact_mod_cast hx256) (by omega))
        have hfl := fbytes_len k x
        have hk8 : k ≤ 8 := by omega
        clear hw hx256
        go_wp2_with fail
        refine (fix_eq x k _ hn0 _ HFY.out).mono ?_
        rintro e w3 ⟨rfl, hb3⟩
        have z3 := hb3.size; replace HB := HB.trans (hb3.mono HB.size); have zz3 := HB.size
        clear hb3
        go_wp2_with fail
        rw [catB (fbytes k x)]
        refine (unfix_any (bef ++ (fbytes k x ++ beh)) 6 k _ (by simp [bef, beh]; omega) _ HUF.out).mono ?_
        rintro e w4 ⟨rfl, rfl⟩
        by_cases hok : okL l = true
        · obtain ⟨bs, HL, HU, hbs⟩ := list_back l n HLN.out (by omega) H64.out hok
          clear hok
          go_wp2_with fail
          refine (list_eq A n c l _ HL.out _ ((h.below HB).more HB.size) (by omega) H64.out).mono ?_
          rintro e w6 ⟨rfl, hb6⟩
          have z6 := hb6.size; replace HB := HB.trans (hb6.mono HB.size); have zz6 := HB.size
          clear hb6
          go_wp2_with fail
          rw [catB bs]
          refine (unlist_any (bef ++ (bs ++ beh)) 6 n _ (by simp [bef, beh]; omega) _ HU.out).mono ?_
          rintro e w7 ⟨A7, n7, c7, rfl, hc7, r7, hb7⟩
          have hn7 : l.length = n7 := rd_len r7
          have hn7' : n7 ≤ 1000 := by have := HLN.out; omega
          have z7 := hb7.size; replace HB := HB.trans (hb7.mono HB.size); have zz7 := HB.size
          clear hb7 hn7
          go_wp2_with fail
          refine (same_any A7 A n7 c7 n c l l _ r7 ((h.below HB).more HB.size) (by omega) (by omega)).mono ?_
          rintro e w8 ⟨rfl, hb8⟩
          rw [decide_eq_true (rfl : l = l)]
          have z8 := hb8.size; replace HB := HB.trans (hb8.mono HB.size); have zz8 := HB.size
          clear hb8 r7
          go_wp2_with fail
          refine (awake_any _).mono ?_
          rintro e w9 ⟨rfl, hb9⟩
          have z9 := hb9.size; replace HB := HB.trans (hb9.mono HB.size); have zz9 := HB.size
          go_wp2_with fail
          go_ret
          exact ⟨rfl, HB⟩
        · have HL := Lib.hid (list_bad l hok)
          clear hok
          go_wp2_with fail
          refine (list_eq A n c l _ HL.out _ ((h.below HB).more HB.size) (by omega) H64.out).mono ?_
          rintro e w6 ⟨rfl, hb6⟩
          have z6 := hb6.size; replace HB := HB.trans (hb6.mono HB.size); have zz6 := HB.size
          clear hb6
          go_wp2_with fail
          refine (awake_any _).mono ?_
          rintro e w9 ⟨rfl, hb9⟩
          have z9 := hb9.size; replace HB := HB.trans (hb9.mono HB.size); have zz9 := HB.size
          go_wp2_with fail
          go_ret
          exact ⟨rfl, HB⟩
end VarW
end Go.Proofs.Ytjdmbpkabeaccaa
