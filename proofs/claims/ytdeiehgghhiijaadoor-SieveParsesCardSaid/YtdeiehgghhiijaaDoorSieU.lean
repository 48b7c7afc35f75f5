/- Walks of the reference of package sieve: factors. -/
import Derived.Test.YtdeiehgghhiijaaDoorSieO
namespace Go.Proofs.YtdeiehgghhiijaaDoor
set_option linter.unusedVariables false
set_option linter.unusedSimpArgs false
set_option linter.unnecessarySimpa false
open Go.RowKit
namespace SieW
open WanW (w64k)

theorem hd_r (s : List UInt8) (i : Nat) (hi : i ≤ (wordsP s).length) : (rwords s)[i]? = some (hdW s.length ((wordsP s).drop i)) := by
  unfold rwords hdW
  rcases Nat.lt_or_ge i (wordsP s).length with h | h
  · rw [List.getElem?_append_left h, List.head?_drop, List.getElem?_eq_getElem h]
    rfl
  · have e : i = (wordsP s).length := by omega
    subst e
    simp
/-- The reference's words, as they lie in memory. -/
structure Wds (s : List UInt8) (w : World) (b o nw : Nat) : Prop where
  len : nw = (wordsP s).length + 1
  few : nw ≤ 1001
  lt : b < w.heap.size
  at_ : ∀ i, i ≤ (wordsP s).length → w.cell? ⟨b, o + i * 2, none⟩ = some (str (hdW s.length ((wordsP s).drop i)).1) ∧ w.cell? ⟨b, o + i * 2 + 1, none⟩ = some (.int .i64 (hdW s.length ((wordsP s).drop i)).2)
theorem Wds.below {s : List UInt8} {w w' : World} {b o nw : Nat} (h : Wds s w b o nw) (hb : Below w.heap.size w w') : Wds s w' b o nw :=
  ⟨h.len, h.few, Nat.lt_of_lt_of_le h.lt hb.size, fun i hi => ⟨(hb.cell (p := ⟨b, _, none⟩) h.lt).trans (h.at_ i hi).1, (hb.cell (p := ⟨b, _, none⟩) h.lt).trans (h.at_ i hi).2⟩⟩
/-- What a reading of the reference tells: the sentence with more parts, the word behind it; or the error, and at which word. -/
def RfPost (s : List UInt8) (S : Nat → Prop) (i m : Nat) (ps : List RP) (R : PR) (w : World) (e : Ending) (w' : World) : Prop :=
  match R with
  | .ok n l sz dp => ∃ A z c ext k, e = .returned (.tuple #[.agg #[.slice A z c, .int .i64 sz, .int .i64 dp], .int .i64 (k : Nat), .int .i64 0]) ∧ l = (wordsP s).drop k ∧ i < k ∧ k ≤ (wordsP s).length ∧ z ≤ c ∧
      PsAt w' (fun b => S b ∨ w.heap.size ≤ b) A z (ps ++ ext) ∧ 1 ≤ ext.length ∧ ext.length + (3 - m) ≤ 4 * (k - i) ∧ Rep (ps ++ ext) n (ps.length + ext.length - 1) ∧ Below w.heap.size w w'
  | .err er a => ∃ (A : Option Addr) (m c : Nat) (y z : Int) (k : Nat), e = .returned (.tuple #[.agg #[.slice A m c, .int .i64 y, .int .i64 z], .int .i64 (k : Nat), .int .i64 er]) ∧ k ≤ (wordsP s).length ∧ (hdW s.length ((wordsP s).drop k)).2 = a ∧ (er = 3 ∨ er = 380) ∧ Below w.heap.size w w'
  | .out => False
def FRd (s : List UInt8) (f : Nat) : Prop := ∀ (A : Option Addr) (n c : Nat) (ps : List RP) (sz dp i b o nw cw : Nat) (w : World) (S : Nat → Prop), Wds s w b o nw → PsAt w S A n ps → n ≤ c → n ≤ 4 * i → i ≤ (wordsP s).length → sz ≤ 100 → dp ≤ 20 →
  pG s.length f 0 [] ((wordsP s).drop i) sz dp ≠ .out →
  Calls Tryd.prog 31 #[.agg #[.slice A n c, .int .i64 sz, .int .i64 dp], .slice (some ⟨b, o, none⟩) nw cw, .int .i64 i] w (RfPost s S i 0 ps (pG s.length f 0 [] ((wordsP s).drop i) sz dp) w)
def SRd (s : List UInt8) (f m : Nat) : Prop := ∀ (A : Option Addr) (n c : Nat) (ps : List RP) (sz dp i b o nw cw : Nat) (w : World) (S : Nat → Prop), Wds s w b o nw → PsAt w S A n ps → n ≤ c → n ≤ 4 * i → i ≤ (wordsP s).length → sz ≤ 100 → dp ≤ 20 →
  pG s.length f m [] ((wordsP s).drop i) sz dp ≠ .out →
  ∀ y, y = byW (decide (m = 2)) → Calls Tryd.prog 22 #[.agg #[.slice A n c, .int .i64 sz, .int .i64 dp], .slice (some ⟨b, o, none⟩) nw cw, .int .i64 i, str y] w (RfPost s S i m ps (pG s.length f m [] ((wordsP s).drop i) sz dp) w)
/-- What a fact is, by its word and the next one: the part, and how many words it has. -/
def facR (x y : List UInt8) : Option (Nd × Nat) :=
  if x = sAll then some (.all, 1) else if x = sHas then (bytesP y).map fun b => (.has b, 2) else match kindP x with
    | some k => (numsP y).map fun v => (.within k v.1 v.2, 2)
    | none => none
def isFact (x : List UInt8) : Prop := x = sSeq ∨ x = sTick ∨ x = sSize ∨ x = sHas ∨ x = sAll
theorem facS_fact (en : Int) (fn fs : List Wd → Nat → Nat → PR) (l : List Wd) (sz dp : Nat) (h : isFact (hdW en l).1) :
    facS en fn fs l sz dp = if 100 ≤ sz then .err 3 (hdW en l).2 else match facR (hdW en l).1 (hdW en (l.drop 1)).1 with
      | some (n, k) => .ok n (l.drop k) (sz + 1) dp
      | none => .err 380 (hdW en (l.drop 1)).2 := by
  unfold facS facR
  rw [tail_drop, tail_drop, List.drop_drop]
  have n1 : ¬ sSeq = sAll := by decide
  have n2 : ¬ sSeq = sHas := by decide
  have n3 : ¬ sTick = sAll := by decide
  have n4 : ¬ sTick = sHas := by decide
  have n5 : ¬ sSize = sAll := by decide
  have n6 : ¬ sSize = sHas := by decide
  have n7 : ¬ sHas = sAll := by decide
  have n8 : ¬ sAll = sHas := by decide
  rcases h with h | h | h | h | h
  all_goals
    rw [h]
    simp only [show kindP sSeq = some 0 from rfl, show kindP sTick = some 1 from rfl, show kindP sSize = some 2 from rfl, show kindP sHas = none from rfl, show kindP sAll = none from rfl, n1, n2, n3, n4, n5, n6, n7, n8, if_true, if_false]
    try
      split
      · rfl
      · first
          | rfl
          | (cases numsP (hdW en (l.drop 1)).1 <;> rfl)
          | (cases bytesP (hdW en (l.drop 1)).1 <;> rfl)
theorem nums_of (x : List UInt8) : numsP x = if WanW.ok2 x = true then some (WanW.lo2 x, WanW.hi2 x) else none := by
  unfold numsP WanW.ok2 WanW.lo2 WanW.hi2
  congr 1
  simp only [Bool.and_eq_true, eq_iff_iff]
/-- What a fact's reading tells. -/
def FactS (p : RP) (nx : Nat) (b : Bool) : Option (Nd × Nat) → Prop
  | none => b = false
  | some (n, k) => b = true ∧ nx = k ∧ ∀ ps j, ps[j]? = some p → Rep ps n j
theorem fact_any (x y : List UInt8) (w : World) (hx : isFact x) (hs : y.length ≤ 10000) (r : Option (Nd × Nat)) (hr : facR x y = r) :
    Calls Tryd.prog 43 #[str x, str y] w fun e w' => ∃ (p : RP) (nx : Nat) (b : Bool), e = .returned (.tuple #[.agg (pv p.word p.lo p.hi p.what (.slice none 0 0)), .int .i64 nx, .bool b]) ∧ p.of_ = [] ∧
      FactS p nx b r ∧ Below w.heap.size w w' := by
  subst hr
  rcases hx with rfl | rfl | rfl | rfl | rfl
  · refine (fact_num 0 (by omega) y w hs _ rfl).mono ?_
    rintro e w' ⟨lo, hi, rfl, h1, h2⟩
    refine ⟨⟨sSeq, lo, hi, [], []⟩, 2, _, rfl, rfl, ?_, h2⟩
    have e : facR sSeq y = (numsP y).map fun v => (.within 0 v.1 v.2, 2) := rfl
    rw [e, nums_of]
    cases hb : WanW.ok2 y with
    | false => simp [FactS]
    | true =>
      obtain ⟨rfl, rfl⟩ := h1 hb
      simp only [if_true, Option.map_some]
      exact ⟨rfl, rfl, fun ps j h => h⟩
  · refine (fact_num 1 (by omega) y w hs _ rfl).mono ?_
    rintro e w' ⟨lo, hi, rfl, h1, h2⟩
    refine ⟨⟨sTick, lo, hi, [], []⟩, 2, _, rfl, rfl, ?_, h2⟩
    have e : facR sTick y = (numsP y).map fun v => (.within 1 v.1 v.2, 2) := rfl
    rw [e, nums_of]
    cases hb : WanW.ok2 y with
    | false => simp [FactS]
    | true =>
      obtain ⟨rfl, rfl⟩ := h1 hb
      simp only [if_true, Option.map_some]
      exact ⟨rfl, rfl, fun ps j h => h⟩
  · refine (fact_num 2 (by omega) y w hs _ rfl).mono ?_
    rintro e w' ⟨lo, hi, rfl, h1, h2⟩
    refine ⟨⟨sSize, lo, hi, [], []⟩, 2, _, rfl, rfl, ?_, h2⟩
    have e : facR sSize y = (numsP y).map fun v => (.within 2 v.1 v.2, 2) := rfl
    rw [e, nums_of]
    cases hb : WanW.ok2 y with
    | false => simp [FactS]
    | true =>
      obtain ⟨rfl, rfl⟩ := h1 hb
      simp only [if_true, Option.map_some]
      exact ⟨rfl, rfl, fun ps j h => h⟩
  · refine (fact_has y w hs).mono ?_
    rintro e w' ⟨v, b, rfl, h1, h2⟩
    refine ⟨⟨sHas, 0, 0, v, []⟩, 2, _, rfl, rfl, ?_, h2⟩
    have e : facR sHas y = (bytesP y).map fun b => (.has b, 2) := rfl
    rw [e, h1]
    cases b with
    | false => simp [FactS]
    | true =>
      simp only [if_true, Option.map_some]
      exact ⟨rfl, rfl, fun ps j h => h⟩
  · refine (fact_all y w).mono ?_
    rintro e w' ⟨rfl, h2⟩
    refine ⟨⟨sAll, 0, 0, [], []⟩, 1, _, rfl, rfl, ?_, h2⟩
    exact ⟨rfl, rfl, fun ps j h => h⟩
theorem word_few (s : List UInt8) (hs : s.length ≤ 1000) (i : Nat) : (hdW s.length ((wordsP s).drop i)).1.length ≤ 10000 := by
  unfold hdW
  rw [List.head?_drop]
  cases h : (wordsP s)[i]? with
  | none => simp
  | some z => have := words_each s z (List.mem_of_getElem? h); simp; omega
theorem word_in {s : List UInt8} {i : Nat} (h : (hdW s.length ((wordsP s).drop i)).1 ≠ []) : i < (wordsP s).length := by
  rcases Nat.lt_or_ge i (wordsP s).length with h1 | h1
  · exact h1
  · rw [List.drop_eq_nil_of_le h1] at h
    exact absurd rfl h
theorem fact_ne {x : List UInt8} (h : isFact x) : x ≠ [] := by rcases h with rfl | rfl | rfl | rfl | rfl <;> decide
theorem facR_k {x y : List UInt8} {n : Nd} {k : Nat} (h : facR x y = some (n, k)) : k = 1 ∨ (k = 2 ∧ y ≠ []) := by
  unfold facR at h
  split at h
  · cases h; exact .inl rfl
  · split at h
    · cases hb : bytesP y with
      | none => rw [hb] at h; cases h
      | some b => rw [hb] at h; cases h; exact .inr ⟨rfl, bytes_ne hb⟩
    · split at h
      · cases hb : numsP y with
        | none => rw [hb] at h; cases h
        | some b => rw [hb] at h; cases h; exact .inr ⟨rfl, nums_ne hb⟩
      · cases h
set_option maxRecDepth 100000 in
set_option maxHeartbeats 16000000 in
theorem factor_fact (s : List UInt8) (hs : s.length ≤ 1000) (A : Option Addr) (n c : Nat) (ps : List RP) (sz dp i b o nw cw : Nat) (w : World) (S : Nat → Prop) (hw : Wds s w b o nw) (hp : PsAt w S A n ps) (hc : n ≤ c) (hn : n ≤ 4 * i) (hi : i ≤ (wordsP s).length)
    (hsz : sz ≤ 100) (hdp : dp ≤ 20) (fn fs : List Wd → Nat → Nat → PR) (hf : isFact (hdW s.length ((wordsP s).drop i)).1) :
    Calls Tryd.prog 31 #[.agg #[.slice A n c, .int .i64 sz, .int .i64 dp], .slice (some ⟨b, o, none⟩) nw cw, .int .i64 i] w (RfPost s S i 0 ps (facS s.length fn fs ((wordsP s).drop i) sz dp) w) := by
  rw [facS_fact _ _ _ _ _ _ hf, List.drop_drop]
  have hiw := word_in (fact_ne hf)
  have HB := ((Below.refl w.heap.size w).alloc (Nat.le_refl _) (.cells #[.slice A n c, .int .i64 sz, .int .i64 dp] 29)).alloc (by simp) (.cells #[.slice none 0 0, .int .i64 0, .int .i64 0] 29)
  have b1 := (Blk.new w 29 #[.slice A n c, .int .i64 sz, .int .i64 dp]).alloc (.cells #[.slice none 0 0, .int .i64 0, .int .i64 0] 29)
  have b2 := Blk.new (w.alloc (.cells #[.slice A n c, .int .i64 sz, .int .i64 dp] 29)) 29 #[.slice none 0 0, .int .i64 0, .int .i64 0]
  simp only [World.size_alloc] at b2
  obtain ⟨w0, hw0⟩ : ∃ w0, (w.alloc (.cells #[.slice A n c, .int .i64 sz, .int .i64 dp] 29)).alloc (.cells #[.slice none 0 0, .int .i64 0, .int .i64 0] 29) = w0 := ⟨_, rfl⟩
  have hz0 : w0.heap.size = w.heap.size + 1 + 1 := by rw [← hw0]; simp
  rw [hw0] at HB b1 b2
  have hbB : b < w.heap.size := by have := hw.lt; omega
  have hne : b ≠ w.heap.size := by omega
  have hne2 : w.heap.size ≠ b := by omega
  have hlen1 : nw ≤ (wordsP s).length + 1 := by have := hw.len; omega
  have hlen2 : (wordsP s).length + 1 ≤ nw := by have := hw.len; omega
  have hfew := hw.few
  obtain ⟨⟨x, a⟩, hx⟩ : ∃ z, hdW s.length ((wordsP s).drop i) = z := ⟨_, rfl⟩
  have hii : (i : Int) < (nw : Int) := by omega
  have hi0 : (0 : Int) ≤ (i : Int) := by omega
  have hi01 : (0 : Int) ≤ (i : Int) + 1 := by omega
  have hw1 : IntKind.i64.wrap ((i : Int) + 1) = (i : Int) + 1 := w64k (by omega) (by omega)
  have hwsz : IntKind.i64.wrap ((sz : Int) + 1) = (sz : Int) + 1 := w64k (by omega) (by omega)
  have hyl := word_few s hs (i + 1)
  obtain ⟨⟨y, a2⟩, hy⟩ : ∃ z, hdW s.length ((wordsP s).drop (i + 1)) = z := ⟨_, rfl⟩
  have hij : (i : Int) + 1 < (nw : Int) := by omega
  obtain ⟨ci0, ci1⟩ := (hw.below (w' := w0) HB).at_ i hi
  have HB1 := HB.setCell (p := ⟨w.heap.size, 1, none⟩) (Nat.le_refl _) (.int .i64 ((sz : Int) + 1))
  obtain ⟨ck0, ck1⟩ := (hw.below (w' := w0.setCell ⟨w.heap.size, 1, none⟩ (.int .i64 ((sz : Int) + 1))) HB1).at_ i hi
  obtain ⟨cj0, cj1⟩ := (hw.below (w' := w0.setCell ⟨w.heap.size, 1, none⟩ (.int .i64 ((sz : Int) + 1))) HB1).at_ (i + 1) (by omega)
  rw [hx] at ci0 ci1 ck0 ck1 hf ⊢
  rw [hy] at cj0 cj1 hyl ⊢
  dsimp only at ci0 ci1 ck0 ck1 cj0 cj1 hf hyl ⊢
  have HX := Lib.hid hx
  have HY := Lib.hid hy
  obtain ⟨r, hr⟩ : ∃ r, facR x y = r := ⟨_, rfl⟩
  rw [hr]
  have FC : Hid (∀ w, _) := Lib.hid (fun w => fact_any x y w hf hyl r hr)
  have HR := Lib.hid hr
  clear hx hy
  by_cases h100 : 100 ≤ sz
  · have hI : (100 : Int) ≤ (sz : Int) := by omega
    obtain ⟨c0, c1, c2, _⟩ := blk3 b1
    obtain ⟨d0, d1, d2, f0, f1, f2, _⟩ := blk3 b2
    rw [if_pos h100]
    clear h100 hw
    rcases hf with rfl | rfl | rfl | rfl | rfl
    all_goals
      go_enter Tryd.func31, Tryd.ntmps31
      go_wp2_with fail
      refine bodyPost_ret (WanW.results_rowB rfl _ _ (w.heap.size + 1) #[.slice A n c, .int .i64 sz, .int .i64 dp] _ rfl (blk3_set b2) Tryd.underlying29 rfl (by kernel_rfl)) rfl ?_
      exact ⟨_, _, _, _, _, i, rfl, hi, by rw [HX.out], .inl rfl, below3 HB (by omega)⟩
  · have hI : ¬ (100 : Int) ≤ (sz : Int) := by omega
    rw [if_neg h100]
    have hp1 := hp.below (w' := w0.setCell ⟨w.heap.size, 1, none⟩ (.int .i64 ((sz : Int) + 1))) HB1
    obtain ⟨c0, c1, c2, k0, k1, k2, _⟩ := blk3 b1
    have b1' := b1.set 1 (.int .i64 ((sz : Int) + 1))
    have b1q : Blk (w0.setCell ⟨w.heap.size, 1, none⟩ (.int .i64 ((sz : Int) + 1))) w.heap.size 29 #[.slice A n c, .int .i64 ((sz : Int) + 1), .int .i64 dp] := b1'
    have b2' := b2.far (p := ⟨w.heap.size, 1, none⟩) (by dsimp only; omega) (.int .i64 ((sz : Int) + 1))
    obtain ⟨w1, hw1'⟩ : ∃ w1, w0.setCell ⟨w.heap.size, 1, none⟩ (.int .i64 ((sz : Int) + 1)) = w1 := ⟨_, rfl⟩
    have hz1 : w1.heap.size = w.heap.size + 1 + 1 := by rw [← hw1']; simp [hz0]
    rw [hw1'] at b1q b2' HB1 ck0 ck1 cj0 cj1 hp1
    obtain ⟨e0, e1, e2, _⟩ := blk3 b1q
    have hnps := hp.len
    clear h100 hw b1 b2 b1' hp
    rcases hf with rfl | rfl | rfl | rfl | rfl
    all_goals
      go_enter Tryd.func31, Tryd.ntmps31
      go_wp2_with fail
      refine (FC.out w1).mono ?_
      rintro e w2 ⟨p, nx, bo, rfl, hof, hfr, hb2⟩
      have b12 := b1q.below hb2 b1q.lt
      have b22 := b2'.below hb2 b2'.lt
      have HB2 := HB1.trans (hb2.mono HB1.size)
      have hp2 := (hp1.below hb2).wide (S' := fun b => S b ∧ b < w.heap.size) (fun b h1 _ => h1.1)
      have hz2 := hb2.size
      clear FC hb2 b1q b2' ck0 ck1 cj0 cj1 ci0 ci1 c0 c1 c2 k0 k1 k2 e0 e1 e2 hp1
      have b13 := b12.alloc (.cells (pv p.word p.lo p.hi p.what (.slice none 0 0)) 75)
      have b23 := b22.alloc (.cells (pv p.word p.lo p.hi p.what (.slice none 0 0)) 75)
      have b33 := Blk.new w2 75 (pv p.word p.lo p.hi p.what (.slice none 0 0))
      have HB3 := HB2.alloc (by omega) (.cells (pv p.word p.lo p.hi p.what (.slice none 0 0)) 75)
      have hp3 := (hp2.below (w' := w2.alloc (.cells (pv p.word p.lo p.hi p.what (.slice none 0 0)) 75)) ((Below.refl _ w2).alloc (Nat.le_refl _) _)).wide (S' := fun b => S b ∧ b < w.heap.size) (fun b h1 _ => h1.1)
      have hz3 : (w2.alloc (.cells (pv p.word p.lo p.hi p.what (.slice none 0 0)) 75)).heap.size = w2.heap.size + 1 := by simp
      obtain ⟨q0, q1, q2, _⟩ := blk3 b13
      obtain ⟨d0, d1, d2, f0, f1, f2, _⟩ := blk3 b23
      obtain ⟨v0, v1, v2, v3, v4, _⟩ := blk5 b33
      cases r with
      | none =>
        have hfr : bo = false := hfr
        subst hfr
        go_wp2_with fail
        refine bodyPost_ret (WanW.results_rowB rfl _ _ (w.heap.size + 1) #[.slice A n c, .int .i64 ((sz : Int) + 1), .int .i64 dp] _ rfl (blk3_set b23) Tryd.underlying29 rfl (by kernel_rfl)) rfl ?_
        exact ⟨_, _, _, _, _, i + 1, rfl, by omega, by rw [HY.out], .inr rfl, below3 HB3 (by omega)⟩
      | some nk =>
        obtain ⟨n', k'⟩ := nk
        obtain ⟨rfl, rfl, hrep⟩ := hfr
        have hk := facR_k HR.out
        have hik : i + nx ≤ (wordsP s).length := by
          rcases hk with h | ⟨h, h2⟩
          · omega
          · have := word_in (s := s) (i := i + 1) (by rw [HY.out]; exact h2)
            omega
        have hnx : IntKind.i64.wrap ((i : Int) + (nx : Int)) = (i : Int) + (nx : Int) := w64k (by omega) (by omega)
        have HREP := Lib.hid hrep
        have HOF := Lib.hid hof
        clear hof hrep
        go_wp2_with fail
        refine (add_any A n c ps ((sz : Int) + 1) dp p (.slice none 0 0) _ _ hp3 (by omega) hc (by rw [HOF.out]; exact OfAt.nil _ _)).mono ?_
        rintro e w4 ⟨A', c', rfl, h1, h2, hps, hb4⟩
        have b24 := b23.below hb4 b23.lt
        have HB4 := HB3.trans (hb4.mono HB3.size)
        obtain ⟨d0, d1, d2, f0, f1, f2, _⟩ := blk3 b24
        go_wp2_with fail
        refine bodyPost_ret (WanW.results_rowB rfl _ _ (w.heap.size + 1) #[.slice A' (n + 1) c', .int .i64 ((sz : Int) + 1), .int .i64 dp] _ rfl (blk3_set b24) Tryd.underlying29 rfl (by kernel_rfl)) rfl ?_
        refine ⟨A', n + 1, c', [p], i + nx, rfl, rfl, by omega, hik, h1, ?_, by simp, by simp only [List.length_singleton]; omega, ?_, below3 HB4 (by omega)⟩
        · refine (hps.set3 (g := w.heap.size + 1) (fun b hb => by rcases hb with h | h <;> omega)).wide (fun b hb _ => ?_)
          rcases hb with h | h
          · exact .inl h.1
          · exact .inr (by omega)
        · refine HREP.out _ _ ?_
          simp [hnps]
set_option maxRecDepth 100000 in
set_option maxHeartbeats 16000000 in
theorem factor_not (s : List UInt8) (hs : s.length ≤ 1000) (A : Option Addr) (n c : Nat) (ps : List RP) (sz dp i b o nw cw : Nat) (w : World) (S : Nat → Prop) (hw : Wds s w b o nw) (hp : PsAt w S A n ps) (hc : n ≤ c) (hn : n ≤ 4 * i) (hi : i ≤ (wordsP s).length)
    (hsz : sz ≤ 100) (hdp : dp ≤ 20) (f : Nat) (hF : FRd s f) (fs : List Wd → Nat → Nat → PR) (hf : (hdW s.length ((wordsP s).drop i)).1 = sNot)
    (Q : PR) (hQ : (if 100 ≤ sz then .err 3 (hdW s.length ((wordsP s).drop i)).2 else match pG s.length f 0 [] ((wordsP s).drop (i + 1)) (sz + 1) dp with | .ok n l2 s2 d2 => .ok (.not n) l2 s2 d2 | x => x) = Q) (hno : Q ≠ .out) :
    Calls Tryd.prog 31 #[.agg #[.slice A n c, .int .i64 sz, .int .i64 dp], .slice (some ⟨b, o, none⟩) nw cw, .int .i64 i] w (RfPost s S i 0 ps Q w) := by
  have hiw := word_in (s := s) (i := i) (by rw [hf]; decide)
  have HB := ((Below.refl w.heap.size w).alloc (Nat.le_refl _) (.cells #[.slice A n c, .int .i64 sz, .int .i64 dp] 29)).alloc (by simp) (.cells #[.slice none 0 0, .int .i64 0, .int .i64 0] 29)
  have b1 := (Blk.new w 29 #[.slice A n c, .int .i64 sz, .int .i64 dp]).alloc (.cells #[.slice none 0 0, .int .i64 0, .int .i64 0] 29)
  have b2 := Blk.new (w.alloc (.cells #[.slice A n c, .int .i64 sz, .int .i64 dp] 29)) 29 #[.slice none 0 0, .int .i64 0, .int .i64 0]
  simp only [World.size_alloc] at b2
  obtain ⟨w0, hw0⟩ : ∃ w0, (w.alloc (.cells #[.slice A n c, .int .i64 sz, .int .i64 dp] 29)).alloc (.cells #[.slice none 0 0, .int .i64 0, .int .i64 0] 29) = w0 := ⟨_, rfl⟩
  have hz0 : w0.heap.size = w.heap.size + 1 + 1 := by rw [← hw0]; simp
  rw [hw0] at HB b1 b2
  have hbB : b < w.heap.size := by have := hw.lt; omega
  have hne : b ≠ w.heap.size := by omega
  have hne2 : w.heap.size ≠ b := by omega
  have hlen1 : nw ≤ (wordsP s).length + 1 := by have := hw.len; omega
  have hlen2 : (wordsP s).length + 1 ≤ nw := by have := hw.len; omega
  have hfew := hw.few
  obtain ⟨⟨x, a⟩, hx⟩ : ∃ z, hdW s.length ((wordsP s).drop i) = z := ⟨_, rfl⟩
  have hii : (i : Int) < (nw : Int) := by omega
  have hi0 : (0 : Int) ≤ (i : Int) := by omega
  have hi01 : (0 : Int) ≤ (i : Int) + 1 := by omega
  have hw1 : IntKind.i64.wrap ((i : Int) + 1) = (i : Int) + 1 := w64k (by omega) (by omega)
  have hwsz : IntKind.i64.wrap ((sz : Int) + 1) = (sz : Int) + 1 := w64k (by omega) (by omega)
  obtain ⟨ci0, ci1⟩ := (hw.below (w' := w0) HB).at_ i hi
  rw [hx] at ci0 ci1 hf hQ
  dsimp only at ci0 ci1 hf hQ
  subst hf
  have HX := Lib.hid hx
  clear hx
  by_cases h100 : 100 ≤ sz
  · have hI : (100 : Int) ≤ (sz : Int) := by omega
    obtain ⟨c0, c1, c2, _⟩ := blk3 b1
    obtain ⟨d0, d1, d2, f0, f1, f2, _⟩ := blk3 b2
    rw [if_pos h100] at hQ
    subst hQ
    clear h100 hw hno
    go_enter Tryd.func31, Tryd.ntmps31
    go_wp2_with fail
    refine bodyPost_ret (WanW.results_rowB rfl _ _ (w.heap.size + 1) #[.slice A n c, .int .i64 sz, .int .i64 dp] _ rfl (blk3_set b2) Tryd.underlying29 rfl (by kernel_rfl)) rfl ?_
    exact ⟨_, _, _, _, _, i, rfl, hi, by rw [HX.out], .inl rfl, below3 HB (by omega)⟩
  · have hI : ¬ (100 : Int) ≤ (sz : Int) := by omega
    rw [if_neg h100] at hQ
    have HB1 := HB.setCell (p := ⟨w.heap.size, 1, none⟩) (Nat.le_refl _) (.int .i64 ((sz : Int) + 1))
    have hp1 := hp.below (w' := w0.setCell ⟨w.heap.size, 1, none⟩ (.int .i64 ((sz : Int) + 1))) HB1
    have hW1 := hw.below (w' := w0.setCell ⟨w.heap.size, 1, none⟩ (.int .i64 ((sz : Int) + 1))) HB1
    obtain ⟨c0, c1, c2, k0, k1, k2, _⟩ := blk3 b1
    have b1' := b1.set 1 (.int .i64 ((sz : Int) + 1))
    have b1q : Blk (w0.setCell ⟨w.heap.size, 1, none⟩ (.int .i64 ((sz : Int) + 1))) w.heap.size 29 #[.slice A n c, .int .i64 ((sz : Int) + 1), .int .i64 dp] := b1'
    have b2' := b2.far (p := ⟨w.heap.size, 1, none⟩) (by dsimp only; omega) (.int .i64 ((sz : Int) + 1))
    obtain ⟨w1, hw1'⟩ : ∃ w1, w0.setCell ⟨w.heap.size, 1, none⟩ (.int .i64 ((sz : Int) + 1)) = w1 := ⟨_, rfl⟩
    have hz1 : w1.heap.size = w.heap.size + 1 + 1 := by rw [← hw1']; simp [hz0]
    rw [hw1'] at b1q b2' HB1 hp1 hW1
    obtain ⟨e0, e1, e2, _⟩ := blk3 b1q
    have hnps := hp.len
    obtain ⟨R, hR⟩ : ∃ R, pG s.length f 0 [] ((wordsP s).drop (i + 1)) (sz + 1) dp = R := ⟨_, rfl⟩
    rw [hR] at hQ
    have C := hF A n c ps (sz + 1) dp (i + 1) b o nw cw w1 _ hW1 hp1 hc (by omega) (by omega) (by omega) hdp (by rw [hR]; intro e; rw [e] at hQ; exact hno hQ.symm)
    rw [hR] at C
    rw [show ((sz + 1 : Nat) : Int) = (sz : Int) + 1 from rfl, show ((i + 1 : Nat) : Int) = (i : Int) + 1 from rfl] at C
    have HQ := Lib.hid hQ
    clear h100 hw b1 b2 b1' hp hR hF hQ
    go_enter Tryd.func31, Tryd.ntmps31
    go_wp2_with fail
    refine C.mono ?_
    clear C
    rintro e w2 hP
    cases R with
    | out => exact hP.elim
    | err er at_ =>
      obtain ⟨A9, m9, c9, y', z', k, rfl, hk, ha, her, hb2⟩ := hP
      have hQ : PR.err er at_ = Q := HQ.out
      subst hQ
      have b22 := b2'.below hb2 b2'.lt
      have HB2 := HB1.trans (hb2.mono HB1.size)
      have hz2 := HB2.size
      have b23 := b22.alloc (.cells #[.slice A9 m9 c9, .int .i64 y', .int .i64 z'] 29)
      have b33 := Blk.new w2 29 #[.slice A9 m9 c9, .int .i64 y', .int .i64 z']
      have HB3 := HB2.alloc (by omega) (.cells #[.slice A9 m9 c9, .int .i64 y', .int .i64 z'] 29)
      obtain ⟨d0, d1, d2, f0, f1, f2, _⟩ := blk3 b23
      obtain ⟨v0, v1, v2, _⟩ := blk3 b33
      have heb : (er != 0) = true := by rcases her with rfl | rfl <;> decide
      clear hb2 b1q b2' e0 e1 e2 c0 c1 c2 k0 k1 k2 ci0 ci1
      go_wp2_with fail
      refine bodyPost_ret (WanW.results_rowB rfl _ _ (w.heap.size + 1) #[.slice A9 m9 c9, .int .i64 y', .int .i64 z'] _ rfl (blk3_set b23) Tryd.underlying29 rfl (by kernel_rfl)) rfl ?_
      exact ⟨_, _, _, _, _, k, rfl, hk, ha, her, below3 HB3 (by omega)⟩
    | ok n2 l2 s2 d2 =>
      obtain ⟨A2, m2, c2', ext, k, rfl, rfl, hik, hkl, hmc, hps, hx1, hxk, hrep, hb2⟩ := hP
      have hQ : PR.ok (.not n2) ((wordsP s).drop k) s2 d2 = Q := HQ.out
      subst hQ
      have hml := hps.len
      rw [List.length_append, hnps] at hml
      obtain ⟨j, rfl⟩ : ∃ j, m2 = j + 1 := ⟨m2 - 1, by omega⟩
      have hj1 : IntKind.i64.wrap ((j : Int) + 1 - 1) = (j : Int) := by rw [Int.add_sub_cancel]; exact w64k (by omega) (by omega)
      have hj2 : IntKind.i64.wrap (j : Int) = (j : Int) := w64k (by omega) (by omega)
      have b22 := b2'.below hb2 b2'.lt
      have HB2 := HB1.trans (hb2.mono HB1.size)
      have hz2 := HB2.size
      have hz12 := hb2.size
      have b23 := b22.alloc (.cells #[.slice A2 (j + 1) c2', .int .i64 s2, .int .i64 d2] 29)
      have b33 := Blk.new w2 29 #[.slice A2 (j + 1) c2', .int .i64 s2, .int .i64 d2]
      have HB3 := HB2.alloc (by omega) (.cells #[.slice A2 (j + 1) c2', .int .i64 s2, .int .i64 d2] 29)
      have hp3 := hps.below (w' := w2.alloc (.cells #[.slice A2 (j + 1) c2', .int .i64 s2, .int .i64 d2] 29)) ((Below.refl _ w2).alloc (Nat.le_refl _) _)
      have hz3 : (w2.alloc (.cells #[.slice A2 (j + 1) c2', .int .i64 s2, .int .i64 d2] 29)).heap.size = w2.heap.size + 1 := by simp
      obtain ⟨w3, hw3⟩ : ∃ w3, w2.alloc (.cells #[.slice A2 (j + 1) c2', .int .i64 s2, .int .i64 d2] 29) = w3 := ⟨_, rfl⟩
      rw [hw3] at b23 b33 HB3 hp3 hz3
      obtain ⟨v0, v1, v2, _⟩ := blk3 b33
      have b24 := b23.alloc (.cells #[.int .i64 (j : Int)] 3)
      have HB4 := HB3.alloc (by omega) (.cells #[.int .i64 (j : Int)] 3)
      have g4 := Blk.new w3 3 #[.int .i64 (j : Int)]
      have hp4 := (hp3.below (w' := w3.alloc (.cells #[.int .i64 (j : Int)] 3)) ((Below.refl _ w3).alloc (Nat.le_refl _) _)).wide (S' := fun b => ((S b ∧ b < w.heap.size) ∨ w1.heap.size ≤ b)) (fun b h1 _ => h1.1.1)
      have hz4 : (w3.alloc (.cells #[.int .i64 (j : Int)] 3)).heap.size = w3.heap.size + 1 := by simp
      have hof : OfAt (w3.alloc (.cells #[.int .i64 (j : Int)] 3)) (fun b => ((S b ∧ b < w.heap.size) ∨ w1.heap.size ≤ b)) (.slice (some ⟨w3.heap.size, 0, none⟩) 1 1) [j] :=
        ⟨_, 1, 1, rfl, Nat.le_refl _, by unfold maxLen; omega, rfl, fun _ => ⟨w3.heap.size, 0, rfl, .inr (by omega), by omega, fun i hi => by
          have : i = 0 := by simp [nats, ints] at hi; omega
          subst this
          exact g4.cell_ 0 rfl⟩⟩
      have HREP := Lib.hid hrep
      have HML := Lib.hid hml
      have C := add_any A2 (j + 1) c2' (ps ++ ext) s2 d2 ⟨sNot, 0, 0, [], [j]⟩ (.slice (some ⟨w3.heap.size, 0, none⟩) 1 1) _ _ hp4 (by omega) hmc hof
      rw [hz3] at C
      clear hb2 b1q b2' e0 e1 e2 c0 c1 c2 k0 k1 k2 ci0 ci1 hrep hof hp3 g4 hml
      go_wp2_with fail
      refine C.mono ?_
      clear C
      rintro e w5 ⟨A', c', rfl, h1, h2, hps5, hb5⟩
      have b25 := b24.below hb5 b24.lt
      have HB5 := HB4.trans (hb5.mono HB4.size)
      obtain ⟨d0, d1, d2', f0, f1, f2, _⟩ := blk3 b25
      go_wp2_with fail
      refine bodyPost_ret (WanW.results_rowB rfl _ _ (w.heap.size + 1) #[.slice A' (j + 1 + 1) c', .int .i64 s2, .int .i64 d2] _ rfl (blk3_set b25) Tryd.underlying29 rfl (by kernel_rfl)) rfl ?_
      refine ⟨A', j + 1 + 1, c', ext ++ [⟨sNot, 0, 0, [], [j]⟩], k, rfl, rfl, by omega, hkl, h1, ?_, by simp, by simp only [List.length_append, List.length_singleton]; omega, ?_, below3 HB5 (by omega)⟩
      · rw [← List.append_assoc]
        refine (hps5.set3 (g := w.heap.size + 1) (fun b hb => by rcases hb with (h | h) | h <;> omega)).wide (fun b hb _ => ?_)
        rcases hb with (h | h) | h
        · exact .inl h.1
        · exact .inr (by omega)
        · exact .inr (by omega)
      · have hl := HML.out
        refine ⟨j, ?_, ?_, ?_⟩
        · rw [← List.append_assoc, List.getElem?_append_right (by simp)]
          simp
        · simp; omega
        · rw [← List.append_assoc]
          have e : ps.length + ext.length - 1 = j := by omega
          have := HREP.out
          rw [e] at this
          exact this.more _ _ _ _
set_option maxRecDepth 100000 in
set_option maxHeartbeats 16000000 in
theorem factor_paren (s : List UInt8) (hs : s.length ≤ 1000) (A : Option Addr) (n c : Nat) (ps : List RP) (sz dp i b o nw cw : Nat) (w : World) (S : Nat → Prop) (hw : Wds s w b o nw) (hp : PsAt w S A n ps) (hc : n ≤ c) (hn : n ≤ 4 * i) (hi : i ≤ (wordsP s).length)
    (hsz : sz ≤ 100) (hdp : dp ≤ 20) (f : Nat) (hS : SRd s f 2) (hf : (hdW s.length ((wordsP s).drop i)).1 = [40])
    (Q : PR) (hQ : (if 20 ≤ dp then .err 3 (hdW s.length ((wordsP s).drop i)).2 else match pG s.length f 2 [] ((wordsP s).drop (i + 1)) sz (dp + 1) with | .ok n l2 s2 d2 => if (hdW s.length l2).1 = [41] then .ok n l2.tail s2 (d2 - 1) else .err 380 (hdW s.length l2).2 | x => x) = Q) (hno : Q ≠ .out) :
    Calls Tryd.prog 31 #[.agg #[.slice A n c, .int .i64 sz, .int .i64 dp], .slice (some ⟨b, o, none⟩) nw cw, .int .i64 i] w (RfPost s S i 0 ps Q w) := by
  have hiw := word_in (s := s) (i := i) (by rw [hf]; decide)
  have HB := ((Below.refl w.heap.size w).alloc (Nat.le_refl _) (.cells #[.slice A n c, .int .i64 sz, .int .i64 dp] 29)).alloc (by simp) (.cells #[.slice none 0 0, .int .i64 0, .int .i64 0] 29)
  have b1 := (Blk.new w 29 #[.slice A n c, .int .i64 sz, .int .i64 dp]).alloc (.cells #[.slice none 0 0, .int .i64 0, .int .i64 0] 29)
  have b2 := Blk.new (w.alloc (.cells #[.slice A n c, .int .i64 sz, .int .i64 dp] 29)) 29 #[.slice none 0 0, .int .i64 0, .int .i64 0]
  simp only [World.size_alloc] at b2
  obtain ⟨w0, hw0⟩ : ∃ w0, (w.alloc (.cells #[.slice A n c, .int .i64 sz, .int .i64 dp] 29)).alloc (.cells #[.slice none 0 0, .int .i64 0, .int .i64 0] 29) = w0 := ⟨_, rfl⟩
  have hz0 : w0.heap.size = w.heap.size + 1 + 1 := by rw [← hw0]; simp
  rw [hw0] at HB b1 b2
  have hbB : b < w.heap.size := by have := hw.lt; omega
  have hne : b ≠ w.heap.size := by omega
  have hne2 : w.heap.size ≠ b := by omega
  have hlen1 : nw ≤ (wordsP s).length + 1 := by have := hw.len; omega
  have hlen2 : (wordsP s).length + 1 ≤ nw := by have := hw.len; omega
  have hfew := hw.few
  obtain ⟨⟨x, a⟩, hx⟩ : ∃ z, hdW s.length ((wordsP s).drop i) = z := ⟨_, rfl⟩
  have hii : (i : Int) < (nw : Int) := by omega
  have hi0 : (0 : Int) ≤ (i : Int) := by omega
  have hi01 : (0 : Int) ≤ (i : Int) + 1 := by omega
  have hw1 : IntKind.i64.wrap ((i : Int) + 1) = (i : Int) + 1 := w64k (by omega) (by omega)
  have hwsz : IntKind.i64.wrap ((sz : Int) + 1) = (sz : Int) + 1 := w64k (by omega) (by omega)
  obtain ⟨ci0, ci1⟩ := (hw.below (w' := w0) HB).at_ i hi
  rw [hx] at ci0 ci1 hf hQ
  dsimp only at ci0 ci1 hf hQ
  subst hf
  have HX := Lib.hid hx
  clear hx
  by_cases h20 : 20 ≤ dp
  · have hI : (20 : Int) ≤ (dp : Int) := by omega
    obtain ⟨c0, c1, c2, _⟩ := blk3 b1
    obtain ⟨d0, d1, d2, f0, f1, f2, _⟩ := blk3 b2
    rw [if_pos h20] at hQ
    subst hQ
    clear h20 hw hno
    go_enter Tryd.func31, Tryd.ntmps31
    go_wp2_with fail
    refine bodyPost_ret (WanW.results_rowB rfl _ _ (w.heap.size + 1) #[.slice A n c, .int .i64 sz, .int .i64 dp] _ rfl (blk3_set b2) Tryd.underlying29 rfl (by kernel_rfl)) rfl ?_
    exact ⟨_, _, _, _, _, i, rfl, hi, by rw [HX.out], .inl rfl, below3 HB (by omega)⟩
  · have hI : ¬ (20 : Int) ≤ (dp : Int) := by omega
    rw [if_neg h20] at hQ
    have hwdp : IntKind.i64.wrap ((dp : Int) + 1) = (dp : Int) + 1 := w64k (by omega) (by omega)
    have hwdq : IntKind.i64.wrap ((dp : Int) + 1 - 1) = (dp : Int) := by rw [Int.add_sub_cancel]; exact w64k (by omega) (by omega)
    have hwdr : IntKind.i64.wrap (dp : Int) = (dp : Int) := w64k (by omega) (by omega)
    have HB1 := HB.setCell (p := ⟨w.heap.size, 2, none⟩) (Nat.le_refl _) (.int .i64 ((dp : Int) + 1))
    have hp1 := hp.below (w' := w0.setCell ⟨w.heap.size, 2, none⟩ (.int .i64 ((dp : Int) + 1))) HB1
    have hW1 := hw.below (w' := w0.setCell ⟨w.heap.size, 2, none⟩ (.int .i64 ((dp : Int) + 1))) HB1
    obtain ⟨c0, c1, c2, k0, k1, k2, _⟩ := blk3 b1
    have b1' := b1.set 2 (.int .i64 ((dp : Int) + 1))
    have b1q : Blk (w0.setCell ⟨w.heap.size, 2, none⟩ (.int .i64 ((dp : Int) + 1))) w.heap.size 29 #[.slice A n c, .int .i64 sz, .int .i64 ((dp : Int) + 1)] := b1'
    have b2' := b2.far (p := ⟨w.heap.size, 2, none⟩) (by dsimp only; omega) (.int .i64 ((dp : Int) + 1))
    obtain ⟨w1, hw1'⟩ : ∃ w1, w0.setCell ⟨w.heap.size, 2, none⟩ (.int .i64 ((dp : Int) + 1)) = w1 := ⟨_, rfl⟩
    have hz1 : w1.heap.size = w.heap.size + 1 + 1 := by rw [← hw1']; simp [hz0]
    rw [hw1'] at b1q b2' HB1 hp1 hW1
    obtain ⟨e0, e1, e2, _⟩ := blk3 b1q
    have hnps := hp.len
    obtain ⟨R, hR⟩ : ∃ R, pG s.length f 2 [] ((wordsP s).drop (i + 1)) sz (dp + 1) = R := ⟨_, rfl⟩
    rw [hR] at hQ
    have C := hS A n c ps sz (dp + 1) (i + 1) b o nw cw w1 _ hW1 hp1 hc (by omega) (by omega) hsz (by omega) (by rw [hR]; intro e; rw [e] at hQ; exact hno hQ.symm) [111, 114] rfl
    rw [hR] at C
    rw [show ((dp + 1 : Nat) : Int) = (dp : Int) + 1 from rfl, show ((i + 1 : Nat) : Int) = (i : Int) + 1 from rfl] at C
    have HQ := Lib.hid hQ
    have HD : Hid (∀ n2 l2 s2 d2, R = .ok n2 l2 s2 d2 → d2 = dp + 1) := Lib.hid (fun n2 l2 s2 d2 e => by
      obtain ⟨_, _, _, _, h, _⟩ := pG_left _ _ _ _ _ _ _ _ _ _ _ (hR.trans e)
      exact h)
    clear h20 hw b1 b2 b1' hp hR hS hQ
    go_enter Tryd.func31, Tryd.ntmps31
    go_wp2_with fail
    refine C.mono ?_
    clear C
    rintro e w2 hP
    cases R with
    | out => exact hP.elim
    | err er at_ =>
      obtain ⟨A9, m9, c9, y', z', k, rfl, hk, ha, her, hb2⟩ := hP
      have hQ : PR.err er at_ = Q := HQ.out
      subst hQ
      have b22 := b2'.below hb2 b2'.lt
      have HB2 := HB1.trans (hb2.mono HB1.size)
      have hz2 := HB2.size
      have b23 := b22.alloc (.cells #[.slice A9 m9 c9, .int .i64 y', .int .i64 z'] 29)
      have b33 := Blk.new w2 29 #[.slice A9 m9 c9, .int .i64 y', .int .i64 z']
      have HB3 := HB2.alloc (by omega) (.cells #[.slice A9 m9 c9, .int .i64 y', .int .i64 z'] 29)
      obtain ⟨d0, d1, d2, f0, f1, f2, _⟩ := blk3 b23
      obtain ⟨v0, v1, v2, _⟩ := blk3 b33
      have heb : (er != 0) = true := by rcases her with rfl | rfl <;> decide
      clear hb2 b1q b2' e0 e1 e2 c0 c1 c2 k0 k1 k2 ci0 ci1
      go_wp2_with fail
      refine bodyPost_ret (WanW.results_rowB rfl _ _ (w.heap.size + 1) #[.slice A9 m9 c9, .int .i64 y', .int .i64 z'] _ rfl (blk3_set b23) Tryd.underlying29 rfl (by kernel_rfl)) rfl ?_
      exact ⟨_, _, _, _, _, k, rfl, hk, ha, her, below3 HB3 (by omega)⟩
    | ok n2 l2 s2 d2 =>
      obtain ⟨A2, m2, c2', ext, k, rfl, rfl, hik, hkl, hmc, hps, hx1, hxk, hrep, hb2⟩ := hP
      obtain rfl := HD.out _ _ _ _ rfl
      have b22 := b2'.below hb2 b2'.lt
      have HB2 := HB1.trans (hb2.mono HB1.size)
      have hz2 := HB2.size
      have hz12 := hb2.size
      have hW3 := (hW1.below hb2).below (w' := w2.alloc (.cells #[.slice A2 m2 c2', .int .i64 s2, .int .i64 ((dp : Int) + 1)] 29)) ((Below.refl _ w2).alloc (Nat.le_refl _) _)
      have b23 := b22.alloc (.cells #[.slice A2 m2 c2', .int .i64 s2, .int .i64 ((dp : Int) + 1)] 29)
      have b33 := Blk.new w2 29 #[.slice A2 m2 c2', .int .i64 s2, .int .i64 ((dp : Int) + 1)]
      have HB3 := HB2.alloc (by omega) (.cells #[.slice A2 m2 c2', .int .i64 s2, .int .i64 ((dp : Int) + 1)] 29)
      have hp3 := hps.below (w' := w2.alloc (.cells #[.slice A2 m2 c2', .int .i64 s2, .int .i64 ((dp : Int) + 1)] 29)) ((Below.refl _ w2).alloc (Nat.le_refl _) _)
      have hz3 : (w2.alloc (.cells #[.slice A2 m2 c2', .int .i64 s2, .int .i64 ((dp : Int) + 1)] 29)).heap.size = w2.heap.size + 1 := by simp
      obtain ⟨w3, hw3⟩ : ∃ w3, w2.alloc (.cells #[.slice A2 m2 c2', .int .i64 s2, .int .i64 ((dp : Int) + 1)] 29) = w3 := ⟨_, rfl⟩
      rw [hw3] at b23 b33 HB3 hp3 hz3 hW3
      obtain ⟨v0, v1, v2, g0, g1, g2, _⟩ := blk3 b33
      obtain ⟨d0, d1, d2, f0, f1, f2, _⟩ := blk3 b23
      obtain ⟨y0, y1⟩ := hW3.at_ k hkl
      have hQ := HQ.out
      dsimp only at hQ
      obtain ⟨⟨y, a3⟩, hy⟩ : ∃ z, hdW s.length ((wordsP s).drop k) = z := ⟨_, rfl⟩
      rw [hy] at y0 y1 hQ
      dsimp only at y0 y1 hQ
      have HY := Lib.hid hy
      have hkI : (k : Int) < (nw : Int) := by omega
      have hk0 : (0 : Int) ≤ (k : Int) := by omega
      have hwk : IntKind.i64.wrap ((k : Int) + 1) = (k : Int) + 1 := w64k (by omega) (by omega)
      have hbw2 : b ≠ w2.heap.size := by omega
      have hbw3 : w2.heap.size ≠ b := by omega
      clear hb2 b1q b2' e0 e1 e2 c0 c1 c2 k0 k1 k2 ci0 ci1 hy HQ
      by_cases hyc : y = [41]
      · rw [if_pos hyc] at hQ
        subst hyc
        subst hQ
        have hkw := word_in (s := s) (i := k) (by rw [HY.out]; exact List.cons_ne_nil _ _)
        have b34' := b33.set 2 (.int .i64 (dp : Int))
        have b34 : Blk (w3.setCell ⟨w2.heap.size, 2, none⟩ (.int .i64 (dp : Int))) w2.heap.size 29 #[.slice A2 m2 c2', .int .i64 s2, .int .i64 (dp : Int)] := b34'
        have b24 := b23.far (p := ⟨w2.heap.size, 2, none⟩) (by dsimp only; omega) (.int .i64 (dp : Int))
        have HB4 := HB3.setCell (p := ⟨w2.heap.size, 2, none⟩) (by dsimp only; omega) (.int .i64 (dp : Int))
        have hp4 := hp3.keep (w' := w3.setCell ⟨w2.heap.size, 2, none⟩ (.int .i64 (dp : Int))) (S' := fun b => (S b ∧ b < w.heap.size) ∨ w1.heap.size ≤ b) (fun b' h1 h2 => ⟨Below.heap_setCell _ ⟨w2.heap.size, 2, none⟩ _ b' (by have := h1.2; dsimp only; omega), h1.1⟩)
        obtain ⟨w4, hw4⟩ : ∃ w4, w3.setCell ⟨w2.heap.size, 2, none⟩ (.int .i64 (dp : Int)) = w4 := ⟨_, rfl⟩
        rw [hw4] at b34 b24 HB4 hp4
        obtain ⟨u0, u1, u2, _⟩ := blk3 b34
        obtain ⟨q0, q1, q2, r0, r1, r2, _⟩ := blk3 b24
        have HREP := Lib.hid hrep
        clear hrep
        go_wp2_with fail
        refine bodyPost_ret (WanW.results_rowB rfl _ _ (w.heap.size + 1) #[.slice A2 m2 c2', .int .i64 s2, .int .i64 dp] _ rfl (blk3_set b24) Tryd.underlying29 rfl (by kernel_rfl)) rfl ?_
        refine ⟨A2, m2, c2', ext, k + 1, rfl, by rw [tail_drop, List.drop_drop], by omega, by omega, hmc, ?_, hx1, by omega, HREP.out, below3 HB4 (by omega)⟩
        refine (hp4.set3 (g := w.heap.size + 1) (fun b' hb => by rcases hb with h | h <;> omega)).wide (fun b' hb _ => ?_)
        rcases hb with h | h
        · exact .inl h.1
        · exact .inr (by omega)
      · rw [if_neg hyc] at hQ
        subst hQ
        obtain ⟨p1, p1'⟩ := str_ne hyc
        clear hyc
        go_wp2_with fail
        refine bodyPost_ret (WanW.results_rowB rfl _ _ (w.heap.size + 1) #[.slice A2 m2 c2', .int .i64 s2, .int .i64 ((dp : Int) + 1)] _ rfl (blk3_set b23) Tryd.underlying29 rfl (by kernel_rfl)) rfl ?_
        exact ⟨_, _, _, _, _, k, rfl, hkl, by rw [HY.out], .inr rfl, below3 HB3 (by omega)⟩
set_option maxRecDepth 100000 in
set_option maxHeartbeats 16000000 in
theorem factor_else (s : List UInt8) (hs : s.length ≤ 1000) (A : Option Addr) (n c : Nat) (ps : List RP) (sz dp i b o nw cw : Nat) (w : World) (S : Nat → Prop) (hw : Wds s w b o nw) (hp : PsAt w S A n ps) (hc : n ≤ c) (hn : n ≤ 4 * i) (hi : i ≤ (wordsP s).length)
    (hsz : sz ≤ 100) (hdp : dp ≤ 20) (hf : ¬ isFact (hdW s.length ((wordsP s).drop i)).1) (h6 : (hdW s.length ((wordsP s).drop i)).1 ≠ sNot) (h7 : (hdW s.length ((wordsP s).drop i)).1 ≠ [40]) :
    Calls Tryd.prog 31 #[.agg #[.slice A n c, .int .i64 sz, .int .i64 dp], .slice (some ⟨b, o, none⟩) nw cw, .int .i64 i] w (RfPost s S i 0 ps (.err 380 (hdW s.length ((wordsP s).drop i)).2) w) := by
  have HB := ((Below.refl w.heap.size w).alloc (Nat.le_refl _) (.cells #[.slice A n c, .int .i64 sz, .int .i64 dp] 29)).alloc (by simp) (.cells #[.slice none 0 0, .int .i64 0, .int .i64 0] 29)
  have b1 := (Blk.new w 29 #[.slice A n c, .int .i64 sz, .int .i64 dp]).alloc (.cells #[.slice none 0 0, .int .i64 0, .int .i64 0] 29)
  have b2 := Blk.new (w.alloc (.cells #[.slice A n c, .int .i64 sz, .int .i64 dp] 29)) 29 #[.slice none 0 0, .int .i64 0, .int .i64 0]
  simp only [World.size_alloc] at b2
  obtain ⟨w0, hw0⟩ : ∃ w0, (w.alloc (.cells #[.slice A n c, .int .i64 sz, .int .i64 dp] 29)).alloc (.cells #[.slice none 0 0, .int .i64 0, .int .i64 0] 29) = w0 := ⟨_, rfl⟩
  have hz0 : w0.heap.size = w.heap.size + 1 + 1 := by rw [← hw0]; simp
  rw [hw0] at HB b1 b2
  have hbB : b < w.heap.size := by have := hw.lt; omega
  have hne : b ≠ w.heap.size := by omega
  have hne2 : w.heap.size ≠ b := by omega
  have hlen1 : nw ≤ (wordsP s).length + 1 := by have := hw.len; omega
  have hlen2 : (wordsP s).length + 1 ≤ nw := by have := hw.len; omega
  have hfew := hw.few
  obtain ⟨⟨x, a⟩, hx⟩ : ∃ z, hdW s.length ((wordsP s).drop i) = z := ⟨_, rfl⟩
  have hii : (i : Int) < (nw : Int) := by omega
  have hi0 : (0 : Int) ≤ (i : Int) := by omega
  have hi01 : (0 : Int) ≤ (i : Int) + 1 := by omega
  have hw1 : IntKind.i64.wrap ((i : Int) + 1) = (i : Int) + 1 := w64k (by omega) (by omega)
  have hwsz : IntKind.i64.wrap ((sz : Int) + 1) = (sz : Int) + 1 := w64k (by omega) (by omega)
  obtain ⟨ci0, ci1⟩ := (hw.below (w' := w0) HB).at_ i hi
  rw [hx] at ci0 ci1 hf h6 h7 ⊢
  dsimp only at ci0 ci1 hf h6 h7 ⊢
  have HX := Lib.hid hx
  have h1 : x ≠ sSeq := fun e => hf (.inl e)
  have h2 : x ≠ sTick := fun e => hf (.inr (.inl e))
  have h3 : x ≠ sSize := fun e => hf (.inr (.inr (.inl e)))
  have h4 : x ≠ sHas := fun e => hf (.inr (.inr (.inr (.inl e))))
  have h5 : x ≠ sAll := fun e => hf (.inr (.inr (.inr (.inr e))))
  obtain ⟨p1, p1'⟩ := str_ne h1
  obtain ⟨p2, p2'⟩ := str_ne h2
  obtain ⟨p3, p3'⟩ := str_ne h3
  obtain ⟨p4, p4'⟩ := str_ne h4
  obtain ⟨p5, p5'⟩ := str_ne h5
  obtain ⟨p6, p6'⟩ := str_ne h6
  obtain ⟨p7, p7'⟩ := str_ne h7
  unfold sSeq at p1 p1'
  unfold sTick at p2 p2'
  unfold sSize at p3 p3'
  unfold sHas at p4 p4'
  unfold sAll at p5 p5'
  unfold sNot at p6 p6'
  obtain ⟨c0, c1, c2, _⟩ := blk3 b1
  obtain ⟨d0, d1, d2, f0, f1, f2, _⟩ := blk3 b2
  clear hx hf h1 h2 h3 h4 h5 h6 h7 hw
  go_enter Tryd.func31, Tryd.ntmps31
  go_wp2_with fail
  refine bodyPost_ret (WanW.results_rowB rfl _ _ (w.heap.size + 1) #[.slice A n c, .int .i64 sz, .int .i64 dp] _ rfl (blk3_set b2) Tryd.underlying29 rfl (by kernel_rfl)) rfl ?_
  exact ⟨_, _, _, _, _, i, rfl, hi, by rw [HX.out], .inr rfl, below3 HB (by omega)⟩
theorem factor_rd (s : List UInt8) (hs : s.length ≤ 1000) (f : Nat) (hF : FRd s f) (hS : SRd s f 2) : FRd s (f + 1) := by
  intro A n c ps sz dp i b o nw cw w S hw hp hc hn hi hsz hdp hno
  rw [pG] at hno ⊢
  by_cases hf : isFact (hdW s.length ((wordsP s).drop i)).1
  · exact factor_fact s hs A n c ps sz dp i b o nw cw w S hw hp hc hn hi hsz hdp _ _ hf
  have hk : kindP (hdW s.length ((wordsP s).drop i)).1 = none := by
    unfold kindP
    rw [if_neg (fun e => hf (.inl e)), if_neg (fun e => hf (.inr (.inl e))), if_neg (fun e => hf (.inr (.inr (.inl e))))]
  have h4 : ¬ (hdW s.length ((wordsP s).drop i)).1 = sHas := fun e => hf (.inr (.inr (.inr (.inl e))))
  have h5 : ¬ (hdW s.length ((wordsP s).drop i)).1 = sAll := fun e => hf (.inr (.inr (.inr (.inr e))))
  have hu : ∀ fn fs, facS s.length fn fs ((wordsP s).drop i) sz dp = if (hdW s.length ((wordsP s).drop i)).1 = sNot then (if 100 ≤ sz then .err 3 (hdW s.length ((wordsP s).drop i)).2 else
      match fn ((wordsP s).drop i).tail (sz + 1) dp with
      | .ok n l2 s2 d2 => .ok (.not n) l2 s2 d2
      | x => x)
    else if (hdW s.length ((wordsP s).drop i)).1 = [40] then (if 20 ≤ dp then .err 3 (hdW s.length ((wordsP s).drop i)).2 else
      match fs ((wordsP s).drop i).tail sz (dp + 1) with
      | .ok n l2 s2 d2 => if (hdW s.length l2).1 = [41] then .ok n l2.tail s2 (d2 - 1) else .err 380 (hdW s.length l2).2
      | x => x)
    else .err 380 (hdW s.length ((wordsP s).drop i)).2 := by
    intro fn fs
    unfold facS
    rw [hk]
    simp only [if_neg h4, if_neg h5]
    rfl
  rw [hu] at hno ⊢
  rw [tail_drop, List.drop_drop] at hno ⊢
  by_cases h6 : (hdW s.length ((wordsP s).drop i)).1 = sNot
  · rw [if_pos h6] at hno ⊢
    exact factor_not s hs A n c ps sz dp i b o nw cw w S hw hp hc hn hi hsz hdp f hF (fun _ _ _ => .out) h6 _ rfl hno
  rw [if_neg h6] at hno ⊢
  by_cases h7 : (hdW s.length ((wordsP s).drop i)).1 = [40]
  · rw [if_pos h7] at hno ⊢
    exact factor_paren s hs A n c ps sz dp i b o nw cw w S hw hp hc hn hi hsz hdp f hS h7 _ rfl hno
  rw [if_neg h7]
  exact factor_else s hs A n c ps sz dp i b o nw cw w S hw hp hc hn hi hsz hdp hf h6 h7
end SieW
end Go.Proofs.YtdeiehgghhiijaaDoor
