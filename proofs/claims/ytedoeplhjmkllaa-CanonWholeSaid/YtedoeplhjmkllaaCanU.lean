/- The walks of package canon: Unpack. -/
import Derived.Test.YtedoeplhjmkllaaCanF
import Derived.Test.YtedoeplhjmkllaaBitC
namespace Go.Proofs.Ytedoeplhjmkllaa
set_option linter.unusedVariables false
set_option linter.unusedSimpArgs false
set_option linter.unnecessarySimpa false
open Go.RowKit
namespace LenW
open BitW (rdr RLeft El_int2 left_any)

/-- Symbols one behind the other, of what a symbol's getting tells at a bit. -/
def unpG (get : Nat → Int × Nat × Int) : Nat → Nat → List Int × Nat × Int
  | 0, p => ([], p, 0)
  | n + 1, p => if (get p).2.2 = 0 then ((get p).1 :: (unpG get n (p + (get p).2.1)).1, (unpG get n (p + (get p).2.1)).2) else ([], p, (get p).2.2)
theorem unpG_congr (get get' : Nat → Int × Nat × Int) (L : Nat) (h : ∀ p, p ≤ L → get p = get' p) (h2 : ∀ p, p ≤ L → (get p).2.2 = 0 → p + (get p).2.1 ≤ L) : ∀ (n p : Nat), p ≤ L → unpG get n p = unpG get' n p := by
  intro n
  induction n with
  | zero => intro p _; rfl
  | succ n ih =>
    intro p hp
    unfold unpG
    rw [← h p hp]
    by_cases h0 : (get p).2.2 = 0
    · rw [if_pos h0, if_pos h0, ih _ (h2 p hp h0)]
    · rw [if_neg h0, if_neg h0]
theorem unpG_len (get : Nat → Int × Nat × Int) : ∀ (n p : Nat), (unpG get n p).1.length ≤ n := by
  intro n
  induction n with
  | zero => intro p; simp [unpG]
  | succ n ih =>
    intro p
    unfold unpG
    have := ih (p + (get p).2.1)
    split <;> simp <;> omega
theorem getGo_len (l : List Int) : ∀ (f : Nat) (bs : List Nat) (n w : Nat), (getGo l bs n w f).2.2 = 0 → (getGo l bs n w f).2.1 ≤ w + bs.length := by
  intro f
  induction f with
  | zero => intro bs n w h; simp [getGo] at h
  | succ f ih =>
    intro bs n w h
    cases bs with
    | nil => simp [getGo]
    | cons b r =>
      unfold getGo at h ⊢
      split
      · simp <;> omega
      · rename_i hh
        rw [if_neg hh] at h
        have := ih r (2 * n + b) (w + 1) h
        simp only [List.length_cons]
        omega
theorem getC_len (l : List Int) (bs : List Nat) (p : Nat) (hp : p ≤ bs.length) (h : (getC l (bs.drop p)).2.2 = 0) : p + (getC l (bs.drop p)).2.1 ≤ bs.length := by
  have := getGo_len l 15 (bs.drop p) 0 0 h
  unfold getC
  rw [List.length_drop] at this
  omega
theorem getGo_zero (l : List Int) : ∀ (f : Nat) (bs : List Nat) (n w : Nat), (getGo l bs n w f).2.2 ≠ 0 → (getGo l bs n w f).2.1 = 0 := by
  intro f
  induction f with
  | zero => intro bs n w h; simp [getGo]
  | succ f ih =>
    intro bs n w h
    cases bs with
    | nil => rfl
    | cons b r =>
      unfold getGo at h ⊢
      split
      · rename_i hh
        rw [if_pos hh] at h
        exact absurd rfl h
      · rename_i hh
        rw [if_neg hh] at h
        exact ih r _ _ h
theorem getC_zero (l : List Int) (bs : List Nat) (h : (getC l bs).2.2 ≠ 0) : (getC l bs).2.1 = 0 := getGo_zero l 15 bs 0 0 h
set_option maxRecDepth 100000 in
set_option maxHeartbeats 4000000 in
theorem unpack_no (A : Option Addr) (n c : Nat) (l : List Int) (s : List UInt8) (N : Int) (w : World) (h : Rd w w.heap.size 1 A n (ints l)) (hn : n ≤ 1000000) (v : Int) (hk : chkL l = v) (hv : ¬ v = 0) :
    Calls Try.prog 18 #[.slice A n c, str s, .int .i64 N] w fun e w' => e = .returned (.tuple #[.slice none 0 0, .int .i64 0, .int .i64 v]) ∧ w' = w := by
  have C := new_no A n c l w h hn v hk hv
  have hvI : (v != 0) = true := by simp [hv]
  go_enter Try.func18, Try.ntmps18
  go_wp2_with fail
  refine C.mono ?_
  rintro e w1 ⟨rfl, rfl⟩
  go_wp2_with fail
  go_ret3
  exact ⟨rfl, rfl⟩
set_option maxRecDepth 100000 in
set_option maxHeartbeats 4000000 in
theorem unpack_arg (A : Option Addr) (n c : Nat) (l : List Int) (s : List UInt8) (N : Int) (w : World) (h : Rd w w.heap.size 1 A n (ints l)) (hn : n ≤ 1000000) (hk : chkL l = 0) (hN : N < 0 ∨ 100000 < N) :
    Calls Try.prog 18 #[.slice A n c, str s, .int .i64 N] w fun e w' => e = .returned (.tuple #[.slice none 0 0, .int .i64 0, .int .i64 2]) ∧ Below w.heap.size w w' := by
  have C := new_any A n c l w h hn hk
  have hN' : N < 0 ∨ (¬ N < 0 ∧ N > 100000) := by omega
  clear hN
  rcases hN' with h1 | ⟨h1, h2⟩
  all_goals
    go_enter Try.func18, Try.ntmps18
    go_wp2_with fail
    refine C.mono ?_
    rintro e w1 ⟨g, rfl, hC, HB⟩
    go_wp2_with fail
    go_ret3
    exact ⟨rfl, HB⟩
set_option maxRecDepth 100000 in
set_option maxHeartbeats 4000000 in
theorem unpack_yes (A : Option Addr) (n c : Nat) (l : List Int) (s : List UInt8) (N : Nat) (w : World) (h : Rd w w.heap.size 1 A n (ints l)) (hn : n ≤ 1000000) (hk : chkL l = 0) (hN : N ≤ 100000) (hs : s.length ≤ 100000) (x : List Int × Nat × Int) (hx : unpG (fun p => getC l ((bitsB s).drop p)) N 0 = x) :
    Calls Try.prog 18 #[.slice A n c, str s, .int .i64 N] w fun e w' => ∃ A2 n2 c2, e = .returned (.tuple #[.slice A2 n2 c2, .int .i64 x.2.1, .int .i64 x.2.2]) ∧ n2 ≤ c2 ∧ Rd w' w'.heap.size 1 A2 n2 (ints x.1) ∧ Below w.heap.size w w' := by
  have C := new_any A n c l w h hn hk
  have HK := Lib.hid hk
  have HX := Lib.hid (show x = ([] ++ (unpG (fun p => getC l ((bitsB s).drop p)) (N - 0) 0).1, (unpG (fun p => getC l ((bitsB s).drop p)) (N - 0) 0).2) by rw [← hx]; rfl)
  clear hx hk h
  go_enter Try.func18, Try.ntmps18
  go_wp2_with fail
  refine C.mono ?_
  rintro e w1 ⟨g, rfl, hC, HB⟩
  clear C
  have C := BitW.new_any s w1
  go_wp2_with fail
  refine C.mono ?_
  rintro e w2 ⟨rfl, rfl⟩
  clear C
  have HB1 : Below w1.heap.size w1 (w1.alloc (.cells (rdr s 0) 86)) := (Below.refl _ _).alloc (Nat.le_refl _) _
  have hR := Blk.new w1 86 (rdr s 0)
  have hz1 : w1.heap.size + 1 ≤ (w1.alloc (.cells (rdr s 0) 86)).heap.size := by simp
  go_wp2_with fail
  go_loopw [6, 30] (fun out i wr => ∃ (j q : Nat) (acc : List Int) (A2 : Option Addr) (c2 : Nat), i = .int .i64 j ∧ out = .slice A2 j c2 ∧ j ≤ N ∧ q ≤ 8 * s.length ∧ x = (acc ++ (unpG (fun p => getC l ((bitsB s).drop p)) (N - j) q).1, (unpG (fun p => getC l ((bitsB s).drop p)) (N - j) q).2) ∧
    Own wr (w1.heap.size + 1) 3 1 A2 j c2 (ints acc) ∧ Blk wr w1.heap.size 86 (rdr s q) ∧ w1.heap.size + 1 ≤ wr.heap.size ∧ Below w1.heap.size w1 wr) (fun _ i _ => N - (intOf i).toNat)
  case atStart => exact ⟨0, 0, [], none, 0, rfl, rfl, by omega, by omega, HX.out, Own.nil _ _ _ _, hR, hz1, HB1⟩
  case round =>
    obtain ⟨j, q, acc, A2, c2, rfl, rfl, hj, hq, hr, o2, bR, hz, hbw⟩ := hrel
    clear hR HB1 hz1
    have HR := Lib.hid hr
    clear hr
    have hsz := hbw.size
    have hbw0 : Below w.heap.size w wr := HB.trans (hbw.mono HB.size)
    have hzw := HB.size
    have hLe : (8 : Int) * (s.length : Int) - ((8 * s.length - q : Nat) : Int) = (q : Int) := by omega
    have HLE := Lib.hid hLe
    clear hLe
    by_cases hlt : j < N
    · obtain ⟨m, hm⟩ : ∃ m, N - j = m + 1 := ⟨N - j - 1, by omega⟩
      obtain ⟨v, hv⟩ : ∃ v, getC l ((bitsB s).drop q) = v := ⟨_, rfl⟩
      have C := cget_any l HK.out w.heap.size g w1.heap.size s q wr (hC.below hbw) bR hq (by omega) v hv
      have hRR := HR.out
      rw [hm, unpG, hv] at hRR
      have HR2 := Lib.hid hRR
      have hgl := getC_len l (bitsB s) q (by rw [bitsB_len]; exact hq)
      rw [hv, bitsB_len] at hgl
      have HGL := Lib.hid hgl
      clear hRR hgl
      have H0 := Lib.hid (getC_zero l ((bitsB s).drop q))
      rw [hv] at H0
      clear hv
      obtain ⟨v1, v2, v3⟩ := v
      go_wp2_with fail
      refine C.mono ?_
      clear C
      rintro e w3 ⟨rfl, bR3, hg3⟩
      have hb3 : Below w1.heap.size w1 w3 := hbw.trans (grown_below hg3 bR.lt)
      have o3 := o2.grown hg3 (.inr fun e => by have := (o2.blk _ e).1; omega)
      have hz3 := hg3.size
      by_cases he : v3 = 0
      · subst he
        have HXX := Lib.hid (show x = (acc ++ [v1] ++ (unpG (fun p => getC l ((bitsB s).drop p)) m (q + v2)).1, (unpG (fun p => getC l ((bitsB s).drop p)) m (q + v2)).2) by rw [HR2.out, if_pos rfl]; simp)
        have hqv := HGL.out rfl
        have hrn : Rd (w3.alloc (.cells #[.int .i64 v1] 3)) (w3.heap.size + 1) 1 (some ⟨w3.heap.size, 0, none⟩) 1 (ints [v1]) := rd_new (W0 := w3) (t := 3) (cs := ints [v1]) (size := 1) (m := 1) rfl rfl
        have hne : ∀ b, b < w1.heap.size + 1 → some b ≠ blkOf A2 := fun b hb e => by have := (o2.blk b e.symm).1; omega
        go_wp2_with (at_builtin; with_reducible refine wp_append El_int2 rfl (s := .tmp 48) (x := .tmp 50) rfl rfl (o3.alloc _) rfl hrn (ints_one _) (by unfold maxLen; omega) (by omega) (by simp; omega) ?_; intro A4 c4 w4 o4 hg4 hat4; clear hrn; have hbX := below_grown (hb3.alloc hb3.size (.cells #[.int .i64 v1] 3)) hg4 (o3.alloc _) (by simp); have bR4 := (bR3.alloc (.cells #[.int .i64 v1] 3)).grown hg4 (hne _ (by omega)); have hs4 := hg4.size)
        rw [World.size_alloc] at hs4
        have e1 : ints acc ++ ints [v1] = ints (acc ++ [v1]) := by simp [ints]
        rw [e1] at o4
        go_roundw
        case rel => exact ⟨j + 1, q + v2, acc ++ [v1], A4, c4, by go_num, rfl, by omega, hqv, by rw [show N - (j + 1) = m by omega]; exact HXX.out, o4, bR4, by omega, hbX⟩
        case measure => simp [intOf]; omega
      · have heI : (v3 != 0) = true := by simp [he]
        have hx : x = (acc, q, v3) := by rw [HR2.out, if_neg he, List.append_nil]
        subst hx
        have C := left_any w1.heap.size s q w3 (by have := H0.out he; have h2 : v2 = 0 := this; subst h2; exact bR3) hq (by omega)
        have HE := Lib.hid he
        clear he
        go_wp2_with fail
        refine C.mono ?_
        clear C
        rintro e w4 ⟨rfl, nq, rfl⟩
        go_wp2_with fail
        try rw [HLE.out]
        go_ret3
        exact ⟨A2, j, c2, rfl, o3.cap, (o3.below ((Below.refl _ w3).drewN_ nq)).rd, (HB.trans (hb3.mono hzw)).drewN_ nq⟩
    · have hx : x = (acc, q, 0) := by rw [HR.out, show N - j = 0 by omega, unpG, List.append_nil]
      subst hx
      have C := left_any w1.heap.size s q wr bR hq (by omega)
      go_wp2_with fail
      refine C.mono ?_
      clear C
      rintro e w3 ⟨rfl, nq, rfl⟩
      go_wp2_with fail
      try rw [HLE.out]
      go_ret3
      exact ⟨A2, j, c2, rfl, o2.cap, (o2.below ((Below.refl _ wr).drewN_ nq)).rd, hbw0.drewN_ nq⟩
end LenW
end Go.Proofs.Ytedoeplhjmkllaa
