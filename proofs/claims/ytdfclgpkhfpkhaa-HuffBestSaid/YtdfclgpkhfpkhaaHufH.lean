/- Plain: by no other lengths have symbols fewer bits. Walks over the laws of package huff: awake; Encodes; Back; Best. -/
import Derived.Test.YtdfclgpkhfpkhaaHufE
import Derived.Test.YtdfclgpkhfpkhaaLfN
import Derived.Test.YtdfclgpkhfpkhaaOpen
namespace Go.Proofs.Ytdfclgpkhfpkhaa
set_option linter.unusedVariables false
set_option linter.unusedSimpArgs false
set_option linter.unnecessarySimpa false
open Go.RowKit
namespace HufW
open LenW (chkL sumL partL okL_at chk0 ownK ownK_len ownK_succ ownK_at costK costW costN winW best_least bestW)

theorem own_sum (a o : List Int) : ∀ k, sumL (ownK a o k) ≤ sumL (o.take k) := by
  intro k
  induction k with
  | zero => simp [ownK, sumL]
  | succ k ih =>
    rw [ownK_succ]
    unfold sumL at ih ⊢
    rw [List.map_append, List.sum_append]
    simp only [List.map_cons, List.map_nil, List.sum_cons, List.sum_nil, Nat.add_zero]
    by_cases hk : k < o.length
    · rw [List.take_succ_eq_append_getElem hk, List.map_append, List.sum_append, List.getElem?_eq_getElem hk, Option.getD_some]
      simp only [List.map_cons, List.map_nil, List.sum_cons, List.sum_nil, Nat.add_zero]
      by_cases h0 : a[k]?.getD 0 = 0
      · rw [if_pos h0]
        have : partL 0 = 0 := rfl
        omega
      · rw [if_neg h0]
        omega
    · have hon : o[k]? = none := List.getElem?_eq_none (by omega)
      rw [hon, Option.getD_none, List.take_of_length_le (by omega)]
      rw [List.take_of_length_le (by omega)] at ih
      have : partL (if a[k]?.getD 0 = 0 then 0 else 0) = 0 := by split <;> rfl
      omega
theorem own_cost (a o : List Int) : ∀ k, costK a (ownK a o 257) (min k 257) = costK a o (min (min k 257) o.length) := by
  intro k
  induction k with
  | zero => simp [costK]
  | succ k ih =>
    by_cases hk : k < 257
    · rw [show min (k + 1) 257 = k + 1 by omega, costK]
      rw [show min k 257 = k by omega] at ih
      rw [ih, ownK_at a o 257 k hk]
      by_cases ho : k < o.length
      · rw [show min (k + 1) o.length = k + 1 by omega, costK, show min k o.length = k by omega]
        by_cases h0 : a[k]?.getD 0 = 0
        · rw [if_pos h0, h0]
          have : winW 0 1000000 = 0 := rfl
          rw [this, Int.zero_mul, Int.zero_mul]
        · rw [if_neg h0]
      · rw [show min (k + 1) o.length = o.length by omega, show min k o.length = o.length by omega]
        have : (if a[k]?.getD 0 = 0 then 0 else o[k]?.getD 0) = (0 : Int) := by
          have hon : o[k]? = none := List.getElem?_eq_none (by omega)
          rw [hon]
          split <;> rfl
        rw [this]
        have : winW 0 15 = 0 := rfl
        rw [this, Int.mul_zero, Int.add_zero]
    · rw [show min (k + 1) 257 = min k 257 by omega]
      exact ih
theorem huf_least (r o : List Int) (h5 : r.length ≤ 100000) (hb : r.any badS = false) (hk : chkL o = 0) (ho : ∀ x ∈ r, ∃ y, o[x.toNat]? = some y ∧ y ≠ 0) : costW (ctsL r) (bL r) ≤ costW (ctsL r) o := by
  obtain ⟨h257, hok, hsum⟩ := chk0 hk
  have hl := ctsL_len r
  have hcl : (ownK (ctsL r) o 257).length = (ctsL r).length := by rw [ownK_len, hl]
  have hs : sumL o ≤ 32768 := by
    unfold LenW.chkL at hk
    rw [if_neg (by omega), if_neg (by simp [hok])] at hk
    split at hk
    · omega
    · exact absurd hk (by decide)
  have h1 := best_least (ctsL r) (ownK (ctsL r) o 257) 15 (refuse_cts r h5) hcl (fun s hs => by
    rw [ownK_at _ _ 257 s (by omega), List.getElem?_eq_getElem hs, Option.getD_some, ctsL_at]
    refine ⟨fun hp => ?_, fun hn => ?_⟩
    · have hm : (s : Int) ∈ r := by
        refine List.count_pos_iff.1 ?_
        omega
      obtain ⟨y, hy, hy0⟩ := ho _ hm
      rw [Int.toNat_natCast] at hy
      obtain ⟨hlt, e⟩ := List.getElem?_eq_some_iff.1 hy
      have := okL_at o s hlt hok
      rw [if_neg (by omega), hy, Option.getD_some]
      omega
    · rw [if_pos (by omega)])
    (by have := own_sum (ctsL r) o 257; rw [List.take_of_length_le (by omega)] at this; omega)
  have h2 : costW (ctsL r) (ownK (ctsL r) o 257) = costW (ctsL r) o := by
    unfold LenW.costW LenW.costN
    rw [ownK_len, hl]
    have := own_cost (ctsL r) o 257
    rw [show min 257 257 = 257 from rfl] at this
    rw [show min (min 257 257) 257 = 257 from rfl, show min (min 257 o.length) 257 = min 257 o.length by omega]
    exact this
  rw [h2] at h1
  exact h1
theorem bits_some (r : List Int) (h5 : r.length ≤ 100000) : 0 < (hufB r).length := by
  rcases Nat.eq_zero_or_pos (hufB r).length with h | h
  · exfalso
    have h1 : TabW.tabB (bL r) = [] := by
      unfold hufB at h
      rw [List.length_append] at h
      exact List.eq_nil_of_length_eq_zero (by omega)
    have h2 := dec_tab (s := []) (l := bL r) (rest := []) (bL_chk r h5) (bL_len r h5) (by rw [h1]; rfl)
    have h3 : (TabW.tabG [] 257).2.2 ≠ 0 := by decide +kernel
    rw [h2] at h3
    exact h3 rfl
  · exact h
end HufW
end Go.Proofs.Ytdfclgpkhfpkhaa

namespace Go.Proofs.Ytdfclgpkhfpkhaa
set_option linter.unusedVariables false
set_option linter.unusedSimpArgs false
set_option linter.unnecessarySimpa false
open Go.RowKit
namespace HufW
open LenW (chkL symsB symsOk)

theorem counts_rd (A : Option Addr) (n c : Nat) (r : List Int) (w : World) (h : Rd w w.heap.size 1 A n (ints r)) (hn : n ≤ 100000) (hr64 : ∀ x ∈ r, I64 x) (x : List Int × Int) (hx : ctsV r = x) :
    Calls Try.prog 9 #[.slice A n c] w fun e w' => ∃ A2 n2, e = .returned (.tuple #[.slice A2 n2 n2, .int .i64 x.2]) ∧ n2 ≤ 257 ∧ Rd w' w'.heap.size 1 A2 n2 (ints x.1) ∧ Below w.heap.size w w' := by
  refine (counts_any A n c r w h hn hr64).mono ?_
  rintro e w1 ⟨⟨hc, rfl⟩ | ⟨hc, rfl, g1⟩, hb⟩
  · rw [hc] at hx
    subst hx
    exact ⟨none, 0, rfl, by omega, Rd.nil _ _ _ _, hb⟩
  · rw [hc] at hx
    subst hx
    exact ⟨_, 257, rfl, by omega, (Rd.of_blk (size := 1) (m := 257) g1 (by rw [ints_len, ctsL_len])).more g1.lt, hb⟩
theorem refCounts_rd (A : Option Addr) (n c : Nat) (r : List Int) (w : World) (h : Rd w w.heap.size 1 A n (ints r)) (hn : n ≤ 100000) (hr64 : ∀ x ∈ r, I64 x) (x : List Int × Int) (hx : ctsV r = x) :
    Calls Try.prog 10 #[.slice A n c] w fun e w' => ∃ A2 n2, e = .returned (.tuple #[.slice A2 n2 n2, .int .i64 x.2]) ∧ n2 ≤ 257 ∧ Rd w' w'.heap.size 1 A2 n2 (ints x.1) ∧ Below w.heap.size w w' := by
  refine (refCounts_any A n c r w h hn hr64).mono ?_
  rintro e w1 ⟨⟨hc, rfl⟩ | ⟨hc, rfl, g1⟩, hb⟩
  · rw [hc] at hx
    subst hx
    exact ⟨none, 0, rfl, by omega, Rd.nil _ _ _ _, hb⟩
  · rw [hc] at hx
    subst hx
    exact ⟨_, 257, rfl, by omega, (Rd.of_blk (size := 1) (m := 257) g1 (by rw [ints_len, ctsL_len])).more g1.lt, hb⟩
theorem cts1 : (ints (ctsL [1, 0, 1])).toArray[1]? = some (.int .i64 2) := by first | kernel_rfl | rfl
set_option maxRecDepth 100000 in
set_option maxHeartbeats 4000000 in
theorem hawake_any (w : World) :
    Calls Try.prog 6 #[] w fun e w' => e = .returned (.bool true) ∧ Below w.heap.size w w' := by
  obtain ⟨t, ht⟩ : ∃ t, textB (hufB [1, 0, 1]) = t := ⟨_, rfl⟩
  have e3 : encV [1, 0, 1] = (t, 0) := by unfold encV; rw [cts_101, if_pos rfl, ht]
  have d3 : decV t 3 = ([1, 0, 1], 0) := by rw [← ht]; exact dec_back [1, 0, 1] (by simp) (by decide)
  have tl : t.length ≤ 100000 := by
    rw [← ht, textB_len]
    have := hufB_len [1, 0, 1] (by simp) (by decide)
    omega
  have d0 : decV [0, 8, 8] 0 = ([], 0) := by
    have h := dec_back [] (by simp) (by decide)
    have h2 : textB (hufB []) = [0, 8, 8] := by
      have := enc_nil
      unfold encV at this
      rw [if_pos (by decide +kernel)] at this
      exact (Prod.mk.inj this).1
    rw [h2] at h
    exact h
  have h64 : ∀ x ∈ ([1, 0, 1] : List Int), I64 x := by intro x hx; unfold I64; simp at hx; omega
  have h64b : ∀ x ∈ ([257] : List Int), I64 x := by intro x hx; unfold I64; simp at hx; omega
  clear ht
  go_enter Try.func6, Try.ntmps6
  go_wp2_with fail
  refine (encode_any none 0 0 [] w (Rd.nil _ _ _ _) (by omega) (fun _ h => by cases h) _ enc_nil).mono ?_
  rintro e w1 ⟨rfl, HB⟩
  go_wp2_with fail
  refine (decode_any [0, 8, 8] 0 w1 (by omega) (by decide) _ d0).mono ?_
  rintro e w2 ⟨A2, n2, c2, rfl, hc2, r2, hb2⟩
  replace HB := HB.trans (hb2.mono HB.size)
  obtain rfl : 0 = n2 := rd_len r2
  clear hb2 r2
  go_wp2_with fail
  replace HB := HB.alloc HB.size (.cells (ints [1, 0, 1]).toArray 3)
  have r1 := rd_new (W0 := w2) (t := 3) (cs := ints [1, 0, 1]) (size := 1) (m := 3) rfl rfl
  refine (encode_any (some ⟨w2.heap.size, 0, none⟩) 3 3 [1, 0, 1] _ (r1.more (by simp)) (by omega) h64 _ e3).mono ?_
  rintro e w3 ⟨rfl, hb3⟩
  replace HB := HB.trans (hb3.mono HB.size)
  clear hb3 r1
  go_wp2_with fail
  refine (decode_any t 3 w3 (by omega) tl _ d3).mono ?_
  rintro e w4 ⟨A4, n4, c4, rfl, hc4, r4, hb4⟩
  replace HB := HB.trans (hb4.mono HB.size)
  clear hb4
  obtain rfl : 3 = n4 := rd_len r4
  go_wp2_with fail
  have hA5 := (Below.refl w4.heap.size w4).alloc (Nat.le_refl _) (.cells (ints [257]).toArray 3)
  have r5 := rd_new (W0 := w4) (t := 3) (cs := ints [257]) (size := 1) (m := 1) rfl rfl
  refine (encode_any (some ⟨w4.heap.size, 0, none⟩) 1 1 [257] _ (r5.more (by simp)) (by omega) h64b _ enc_bad).mono ?_
  rintro e w5 ⟨rfl, hb5⟩
  replace hA5 := hA5.trans (hb5.mono hA5.size)
  clear hb5 r5
  go_wp2_with fail
  replace hA5 := hA5.alloc hA5.size (.cells (ints [1, 0, 1]).toArray 3)
  have r6 := rd_new (W0 := w5) (t := 3) (cs := ints [1, 0, 1]) (size := 1) (m := 3) rfl rfl
  refine (counts_any (some ⟨w5.heap.size, 0, none⟩) 3 3 [1, 0, 1] _ (r6.more (by simp)) (by omega) h64).mono ?_
  rintro e w6 ⟨⟨hc, rfl⟩ | ⟨hc, rfl, g6⟩, hb6⟩
  · rw [cts_101] at hc
    cases (Prod.mk.inj hc).2
  replace hA5 := hA5.trans (hb6.mono hA5.size)
  clear hb6 r6 hc
  have d6 : w6.cell? ⟨(w5.alloc (.cells (ints [1, 0, 1]).toArray 3)).heap.size, 1, none⟩ = some (.int .i64 2) := g6.cell_ 1 cts1
  rw [World.size_alloc] at d6 g6
  have r7 := (r4.below hA5).more hA5.size
  replace HB := HB.trans (hA5.mono HB.size)
  clear hA5 r4
  go_wp2_with fail
  have hA8 := (Below.refl w6.heap.size w6).alloc (Nat.le_refl _) (.cells (ints [1, 0, 1]).toArray 3)
  have r8 := rd_new (W0 := w6) (t := 3) (cs := ints [1, 0, 1]) (size := 1) (m := 3) rfl rfl
  have C9 := same_any A4 (some ⟨w6.heap.size, 0, none⟩) 3 c4 3 3 [1, 0, 1] [1, 0, 1] _ ((r7.below hA8).more (by simp)) (r8.more (by simp)) (by omega) (by omega)
  refine C9.mono ?_
  rintro e w9 ⟨rfl, hb9⟩
  replace hA8 := hA8.trans (hb9.mono hA8.size)
  have d9 := (g6.below hA8 g6.lt).cell_ 1 cts1
  replace HB := HB.trans (hA8.mono HB.size)
  clear C9 r8 r7 hb9 hA8 d6 g6
  go_wp2_with fail
  refine (size_any none 0 0 [] w9 (Rd.nil _ _ _ _) (by omega) (fun _ h => by cases h) _ siz_nil).mono ?_
  rintro e w10 ⟨rfl, hb10⟩
  go_wp2_with fail
  go_ret
  exact ⟨rfl, HB.trans (hb10.mono HB.size)⟩
end HufW
end Go.Proofs.Ytdfclgpkhfpkhaa
