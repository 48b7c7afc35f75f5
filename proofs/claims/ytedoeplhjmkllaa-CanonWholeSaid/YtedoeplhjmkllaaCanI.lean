/- The walks of canon's reference: Pack, Unpack. -/
import Derived.Test.YtedoeplhjmkllaaCanT
namespace Go.Proofs.Ytedoeplhjmkllaa
set_option linter.unusedVariables false
set_option linter.unusedSimpArgs false
set_option linter.unnecessarySimpa false
open Go.RowKit
namespace LenW
open BitW (bc bc_app bc_one bc_len El_int2 refText_any rd_bclen refBits_any)

theorem dgs_lt (l : List Int) (r : List Int) : ∀ d ∈ symsB l r, d < 2 := by
  induction r with
  | nil => intro d h; simp [symsB] at h
  | cons s r ih =>
    intro d h
    rw [symsB, List.mem_append] at h
    exact h.elim (dg_lt _ _ d) (ih d)
set_option maxRecDepth 100000 in
set_option maxHeartbeats 4000000 in
theorem refPack_no (A A2 : Option Addr) (n c n2 c2 : Nat) (l : List Int) (w : World) (h : Rd w w.heap.size 1 A n (ints l)) (hn : n ≤ 1000000) (v : Int) (hk : chkL l = v) (hv : ¬ v = 0) :
    Calls Try.prog 16 #[.slice A n c, .slice A2 n2 c2] w fun e w' => e = .returned (.tuple #[str [], .int .i64 v]) ∧ w' = w := by
  have C := refWords_no A n c l w h hn v hk hv
  have hvI : (v != 0) = true := by simp [hv]
  go_enter Try.func16, Try.ntmps16
  go_wp2_with fail
  refine C.mono ?_
  rintro e w1 ⟨rfl, rfl⟩
  go_wp2_with fail
  go_ret2
  exact ⟨rfl, rfl⟩
theorem words_rd {w : World} {g : Nat} {l : List Int} {n : Nat} (h : Blk w g 47 (fcells (wordsF l)).toArray) (hl : l.length = n) : Rd w w.heap.size 2 (some ⟨g, 0, none⟩) n (fcells (wordsF l)) :=
  (Rd.of_blk (m := n) h (by rw [fcells_len, wordsF_len, hl])).more h.lt
set_option maxRecDepth 100000 in
set_option maxHeartbeats 4000000 in
theorem refPack_yes (A A2 : Option Addr) (n c n2 c2 : Nat) (l r : List Int) (w : World) (h : Rd w w.heap.size 1 A n (ints l)) (h2 : Rd w w.heap.size 1 A2 n2 (ints r)) (hn : n ≤ 1000000) (hn2 : n2 ≤ 30000) (hr64 : ∀ x ∈ r, I64 x) (hk : chkL l = 0) (x : List UInt8 × Int) (hx : packC l r = x) :
    Calls Try.prog 16 #[.slice A n c, .slice A2 n2 c2] w fun e w' => e = .returned (.tuple #[str x.1, .int .i64 x.2]) ∧ Below w.heap.size w w' := by
  have hl : r.length = n2 := rd_len h2
  have hll : l.length = n := rd_len h
  have C := refWords_yes A n c l w h hn hk
  have HX := Lib.hid hx
  have HK := Lib.hid hk
  have H64 := Lib.hid hr64
  clear hx hk hr64 h
  go_enter Try.func16, Try.ntmps16
  go_wp2_with fail
  refine C.mono ?_
  rintro e w1 ⟨rfl, bF, HB⟩
  clear C
  go_wp2_with fail
  go_loopw [8, 9] (fun out i wr => ∃ (k n3 c3 : Nat) (A3 : Option Addr), i = .int .i64 k ∧ out = .slice A3 n3 c3 ∧ k ≤ n2 ∧ n3 ≤ 32 * k ∧ symsOk l (r.take k) = true ∧ Own wr w1.heap.size 3 1 A3 n3 c3 (bc (symsB l (r.take k))) ∧ Below w1.heap.size w1 wr) (fun _ i _ => n2 - (intOf i).toNat)
  case atStart => exact ⟨0, 0, 0, none, rfl, rfl, by omega, by omega, by simp [symsOk], Own.nil _ _ _ _, Below.refl _ _⟩
  case round =>
    obtain ⟨k, n3, c3, A3, rfl, rfl, hkn, hn3, hall, o3, hbw⟩ := hrel
    have HA := Lib.hid hall
    clear hall
    have hsz := hbw.size
    have hszw := HB.size
    have hbw0 : Below w.heap.size w wr := HB.trans (hbw.mono hszw)
    have hRd := words_rd (bF.below hbw bF.lt) hll
    by_cases hlt : k < n2
    · have hkl : k < r.length := by omega
      obtain ⟨b, o, rfl, hb, hc⟩ := rd_ints (h2.below hbw0) (by omega)
      have d0 : wr.cell? ⟨b, o + k, none⟩ = some (.int .i64 r[k]) := hc k hkl
      have h6 := H64.out r[k] (List.getElem_mem hkl)
      have HS := Lib.hid (symsB_snoc l r k hkl)
      have HT := Lib.hid (symsOk_take l r k hkl)
      have HN := Lib.hid (symsOk_no l r k hkl)
      generalize hr : r[k] = y at *
      clear hc hr
      by_cases hv : (wordV l y).2 = 0
      · have C := refWord_yes (some ⟨w.heap.size, 0, none⟩) n n l HK.out y wr hRd h6 hv
        have HV := Lib.hid hv
        clear hv h6
        go_wp2_with fail
        refine C.mono ?_
        clear C
        rintro e w2 ⟨A4, k4, rfl, hk4, o4, hb4⟩
        have o3' := o3.below hb4
        have hbw2 := hbw.trans (hb4.mono hsz)
        have hz2 := hbw2.size
        go_wp2_with (at_builtin; with_reducible refine wp_append El_int2 rfl (s := .tmp 38) (x := .tmp 39) rfl rfl o3' rfl o4.rd (bc_one _) (by unfold maxLen; omega) (by omega) (by omega) ?_; intro A5 c5 w5 o5 hg5 hat5)
        have hb5 := below_grown hbw2 hg5 o3' (Nat.le_refl _)
        rw [← bc_app] at o5
        go_roundw
        case rel => exact ⟨k + 1, n3 + k4, c5, A5, by go_num, rfl, by omega, by omega, by rw [HT.out, HA.out]; simp [HV.out], by rw [HS.out]; exact o5, hb5⟩
        case measure => simp [intOf]; omega
      · have C := refWord_no (some ⟨w.heap.size, 0, none⟩) n n l y wr hRd h6 hv
        have hx := HN.out hv
        have hx2 : x = ([], 70) := by rw [← HX.out]; unfold packC; rw [if_pos HK.out, if_neg (by simp [hx])]
        subst hx2
        clear hv h6 hx
        go_wp2_with fail
        refine C.mono ?_
        clear C
        rintro e w2 ⟨rfl, rfl⟩
        go_wp2_with fail
        go_ret2
        exact ⟨rfl, hbw0⟩
    · have hz' := Lib.hid (show r.take k = r from List.take_of_length_le (by omega))
      have hall := HA.out
      rw [hz'.out] at hall o3
      have hx2 : x = (textB (symsB l r), 0) := by rw [← HX.out]; unfold packC; rw [if_pos HK.out, if_pos hall]
      subst hx2
      have C := refText_any A3 n3 c3 _ wr o3.rd (by omega) (dgs_lt l r)
      clear hall
      go_wp2_with fail
      refine C.mono ?_
      clear C
      rintro e w2 ⟨rfl, hb2⟩
      go_wp2_with fail
      go_ret2
      exact ⟨rfl, hbw0.trans (hb2.mono (Nat.le_trans hszw hsz))⟩

set_option maxRecDepth 100000 in
set_option maxHeartbeats 4000000 in
theorem refUnpack_no (A : Option Addr) (n c : Nat) (l : List Int) (s : List UInt8) (N : Int) (w : World) (h : Rd w w.heap.size 1 A n (ints l)) (hn : n ≤ 1000000) (v : Int) (hk : chkL l = v) (hv : ¬ v = 0) :
    Calls Try.prog 19 #[.slice A n c, str s, .int .i64 N] w fun e w' => e = .returned (.tuple #[.slice none 0 0, .int .i64 0, .int .i64 v]) ∧ w' = w := by
  have C := refWords_no A n c l w h hn v hk hv
  have hvI : (v != 0) = true := by simp [hv]
  go_enter Try.func19, Try.ntmps19
  go_wp2_with fail
  refine C.mono ?_
  rintro e w1 ⟨rfl, rfl⟩
  go_wp2_with fail
  go_ret3
  exact ⟨rfl, rfl⟩
set_option maxRecDepth 100000 in
set_option maxHeartbeats 4000000 in
theorem refUnpack_arg (A : Option Addr) (n c : Nat) (l : List Int) (s : List UInt8) (N : Int) (w : World) (h : Rd w w.heap.size 1 A n (ints l)) (hn : n ≤ 1000000) (hk : chkL l = 0) (hN : N < 0 ∨ 100000 < N) :
    Calls Try.prog 19 #[.slice A n c, str s, .int .i64 N] w fun e w' => e = .returned (.tuple #[.slice none 0 0, .int .i64 0, .int .i64 2]) ∧ Below w.heap.size w w' := by
  have C := refWords_yes A n c l w h hn hk
  have hN' : N < 0 ∨ (¬ N < 0 ∧ N > 100000) := by omega
  clear hN
  rcases hN' with h1 | ⟨h1, h2⟩
  all_goals
    go_enter Try.func19, Try.ntmps19
    go_wp2_with fail
    refine C.mono ?_
    rintro e w1 ⟨rfl, bF, HB⟩
    go_wp2_with fail
    go_ret3
    exact ⟨rfl, HB⟩
theorem begF_len (D : List Nat) : ∀ (L : List Nat), (begF L D).2 = true → D.length ≤ L.length := by
  induction D with
  | nil => simp
  | cons y D ih =>
    intro L
    cases L with
    | nil => simp [begF]
    | cons x L =>
      unfold begF
      by_cases hxy : x = y
      · rw [if_pos hxy]
        intro h
        have := ih L h
        simp only [List.length_cons]; omega
      · rw [if_neg hxy]; simp
theorem rgo_len (l : List Int) (L : List Nat) : ∀ (f s : Nat) (e : Int), (rgo l L f s e).2.2 = 0 → e = 0 ∨ (rgo l L f s e).2.1 ≤ L.length := by
  intro f
  induction f with
  | zero => intro s e h; exact .inl h
  | succ f ih =>
    intro s e h
    unfold rgo at h ⊢
    by_cases h1 : (wordV l s).2 = 0
    · rw [if_pos h1] at h ⊢
      by_cases h2 : (begF L (dgs l s)).2 = true
      · rw [if_pos h2]
        refine .inr ?_
        clear h
        exact begF_len _ _ h2
      · rw [if_neg h2] at h ⊢
        by_cases h3 : (begF L (dgs l s)).1 = true
        · rw [if_pos h3] at h ⊢
          rcases ih _ _ h with h4 | h4
          · exact absurd h4 (by decide)
          · exact .inr h4
        · rw [if_neg h3] at h ⊢
          exact ih _ _ h
    · rw [if_neg h1] at h ⊢
      exact ih _ _ h
theorem refC_len (l : List Int) (bs : List Nat) (p : Nat) (hp : p ≤ bs.length) (h : (refC l (bs.drop p)).2.2 = 0) : p + (refC l (bs.drop p)).2.1 ≤ bs.length := by
  unfold refC at h ⊢
  obtain ⟨e, he⟩ : ∃ e : Int, (if (bs.drop p).length = 0 then (4 : Int) else 40) = e := ⟨_, rfl⟩
  rw [he] at h ⊢
  rcases rgo_len l (bs.drop p) l.length 0 e h with h1 | h1
  · subst h1
    split at he <;> exact absurd he (by decide)
  · have := List.length_drop (l := bs) (i := p)
    omega
set_option maxRecDepth 100000 in
set_option maxHeartbeats 4000000 in
theorem refUnpack_yes (A : Option Addr) (n c : Nat) (l : List Int) (s : List UInt8) (N : Nat) (w : World) (h : Rd w w.heap.size 1 A n (ints l)) (hn : n ≤ 1000000) (hk : chkL l = 0) (hN : N ≤ 100000) (hs : s.length ≤ 100000) (x : List Int × Nat × Int) (hx : unpG (fun p => refC l ((bitsB s).drop p)) N 0 = x) :
    Calls Try.prog 19 #[.slice A n c, str s, .int .i64 N] w fun e w' => ∃ A2 n2 c2, e = .returned (.tuple #[.slice A2 n2 c2, .int .i64 x.2.1, .int .i64 x.2.2]) ∧ n2 ≤ c2 ∧ Rd w' w'.heap.size 1 A2 n2 (ints x.1) ∧ Below w.heap.size w w' := by
  have C := refWords_yes A n c l w h hn hk
  have hll : l.length = n := rd_len h
  have HK := Lib.hid hk
  have hbl := bitsB_len s
  have CB := fun w => refBits_any s w hs
  obtain ⟨bl, hbe⟩ : ∃ bl, bitsB s = bl := ⟨_, rfl⟩
  rw [hbe] at hbl hx CB
  clear hbe
  have HX := Lib.hid (show x = ([] ++ (unpG (fun p => refC l (bl.drop p)) (N - 0) 0).1, (unpG (fun p => refC l (bl.drop p)) (N - 0) 0).2) by rw [← hx]; rfl)
  have hbl2 : bl.length ≤ 800000 := by omega
  clear hx hk h hbl
  go_enter Try.func19, Try.ntmps19
  go_wp2_with fail
  refine C.mono ?_
  rintro e w1 ⟨rfl, bF, HB⟩
  clear C
  have C := CB w1
  clear CB
  go_wp2_with fail
  refine C.mono ?_
  clear C
  rintro e w2 ⟨A1, n1, c1, rfl, hc1, r1, hb1⟩
  have hn1 := rd_bclen r1
  have hn1a : n1 ≤ bl.length := by omega
  have hn1b : bl.length ≤ n1 := by omega
  have bF2 := bF.below hb1 bF.lt
  have HB2 : Below w.heap.size w w2 := HB.trans (hb1.mono HB.size)
  clear hn1 bF hb1 HB
  go_wp2_with fail
  go_loopw [12, 13, 14] (fun out at_ i wr => ∃ (j q : Nat) (acc : List Int) (A2 : Option Addr) (c2 : Nat), i = .int .i64 j ∧ at_ = .int .i64 q ∧ out = .slice A2 j c2 ∧ j ≤ N ∧ q ≤ n1 ∧ x = (acc ++ (unpG (fun p => refC l (bl.drop p)) (N - j) q).1, (unpG (fun p => refC l (bl.drop p)) (N - j) q).2) ∧
    Own wr w2.heap.size 3 1 A2 j c2 (ints acc) ∧ Below w2.heap.size w2 wr) (fun _ _ i _ => N - (intOf i).toNat)
  case atStart => exact ⟨0, 0, [], none, 0, rfl, rfl, rfl, by omega, by omega, HX.out, Own.nil _ _ _ _, Below.refl _ _⟩
  case round =>
    obtain ⟨j, q, acc, A2, c2, rfl, rfl, rfl, hj, hq, hr, o2, hbw⟩ := hrel
    have HR := Lib.hid hr
    clear hr
    have hsz := hbw.size
    have hzw := HB2.size
    have hbw0 : Below w.heap.size w wr := HB2.trans (hbw.mono hzw)
    by_cases hlt : j < N
    · obtain ⟨m, hm⟩ : ∃ m, N - j = m + 1 := ⟨N - j - 1, by omega⟩
      have hm2 : N - (j + 1) = m := by omega
      obtain ⟨v, hv⟩ : ∃ v, refC l (bl.drop q) = v := ⟨_, rfl⟩
      have C := refGet_any (some ⟨w.heap.size, 0, none⟩) A1 n n n1 c1 l HK.out bl q wr (words_rd (bF2.below hbw bF2.lt) hll) ((r1.below hbw).more hsz) (by omega) hq v hv
      have hRR := HR.out
      rw [hm, unpG, hv] at hRR
      have HR2 := Lib.hid hRR
      have hgl := refC_len l bl q (by omega)
      rw [hv] at hgl
      have HGL := Lib.hid hgl
      clear hRR hgl hv
      obtain ⟨v1, v2, v3⟩ := v
      go_wp2_with fail
      refine C.mono ?_
      clear C
      rintro e w3 ⟨rfl, hb3⟩
      have o3 := o2.below hb3
      have hbw3 := hbw.trans (hb3.mono hsz)
      have hz3 := hb3.size
      by_cases he : v3 = 0
      · subst he
        have HXX := Lib.hid (show x = (acc ++ [v1] ++ (unpG (fun p => refC l (bl.drop p)) m (q + v2)).1, (unpG (fun p => refC l (bl.drop p)) m (q + v2)).2) by rw [HR2.out, if_pos rfl]; simp)
        have hqv : q + v2 ≤ bl.length := HGL.out rfl
        have hrn : Rd (w3.alloc (.cells #[.int .i64 v1] 3)) (w3.heap.size + 1) 1 (some ⟨w3.heap.size, 0, none⟩) 1 (ints [v1]) := rd_new (W0 := w3) (t := 3) (cs := ints [v1]) (size := 1) (m := 1) rfl rfl
        go_wp2_with (at_builtin; with_reducible refine wp_append El_int2 rfl (s := .tmp 52) (x := .tmp 54) rfl rfl (o3.alloc _) rfl hrn (ints_one _) (by unfold maxLen; omega) (by omega) (by simp; omega) ?_; intro A4 c4 w4 o4 hg4 hat4; clear hrn; have hbX := below_grown (hbw3.alloc hbw3.size (.cells #[.int .i64 v1] 3)) hg4 (o3.alloc _) (Nat.le_refl _))
        have e1 : ints acc ++ ints [v1] = ints (acc ++ [v1]) := by simp [ints]
        rw [e1] at o4
        go_roundw
        case rel => exact ⟨j + 1, q + v2, acc ++ [v1], A4, c4, by go_num, by go_num, rfl, by omega, by omega, by rw [hm2]; exact HXX.out, o4, hbX⟩
        case measure => simp [intOf]; omega
      · have heI : (v3 != 0) = true := by simp [he]
        have hx : x = (acc, q, v3) := by rw [HR2.out, if_neg he, List.append_nil]
        subst hx
        clear he
        go_wp2_with fail
        go_ret3
        exact ⟨A2, j, c2, rfl, o3.cap, o3.rd, HB2.trans (hbw3.mono hzw)⟩
    · have hx : x = (acc, q, 0) := by rw [HR.out, show N - j = 0 by omega, unpG, List.append_nil]
      subst hx
      go_wp2_with fail
      go_ret3
      exact ⟨A2, j, c2, rfl, o2.cap, o2.rd, hbw0⟩
end LenW
end Go.Proofs.Ytedoeplhjmkllaa
