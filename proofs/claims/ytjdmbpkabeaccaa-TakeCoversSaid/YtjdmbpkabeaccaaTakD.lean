/- The law of package take on parts: its walk. -/
import Derived.Test.YtjdmbpkabeaccaaTakB
namespace Go.Proofs.Ytjdmbpkabeaccaa
set_option linter.unusedVariables false
set_option linter.unusedSimpArgs false
set_option linter.unnecessarySimpa false
open Go.RowKit Go.ChangeShapes Go.WideShapes Go.Deep
namespace TakW

theorem El_want : El Try.prog 50 62 2 16 := El.mk' Try.underlying50 (z := .agg #[.int .i64 0, .int .i64 0]) (by kernel_rfl) rfl (by decide)
theorem small_or3 (n k m : Nat) : (¬ n ≤ 200) ∨ (n ≤ 200 ∧ ¬ k ≤ 200) ∨ (n ≤ 200 ∧ k ≤ 200 ∧ 10000 < m) ∨ (n ≤ 200 ∧ k ≤ 200 ∧ m ≤ 10000) := by omega
theorem ext_from (l : List UInt8) (p : Nat) : (⟨l.toArray⟩ : ByteArray).extract p l.length = ⟨(l.drop p).toArray⟩ := by
  apply ByteArray.ext
  simp
  exact List.take_of_length_le (by simp)
/-- An empty row of the call's own. -/
theorem own_empty (w : World) (t size : Nat) : Own (w.alloc (.cells #[] t)) w.heap.size t size (some ⟨w.heap.size, 0, none⟩) 0 0 [] :=
  own_new (W0 := w) (cs := []) rfl (by simp) (Nat.le_refl _) (by decide)

set_option maxRecDepth 100000 in
set_option maxHeartbeats 4000000 in
theorem parts_law (s : ByteArray) (A1 : Option Addr) (n1 c1 : Nat) (a : List (Int × Int)) (A2 : Option Addr) (n2 c2 : Nat) (b : List (Int × Int)) (w : World) (ha : Rd w w.heap.size 2 A1 n1 (wcells a)) (hn1 : n1 ≤ maxLen)
    (hb : Rd w w.heap.size 2 A2 n2 (wcells b)) (hn2 : n2 ≤ maxLen) (hs : s.size ≤ maxLen) :
    Calls Try.prog 10 #[.string s, .slice A1 n1 c1, .slice A2 n2 c2] w fun e w' => e = .returned (.bool true) ∧ Below w.heap.size w w' := by
  obtain ⟨m, rfl, hm⟩ := str_of s
  rw [← hm] at hs
  clear hm
  unfold maxLen at hs hn1 hn2
  rcases small_or3 n1 n2 m.length with h1 | ⟨h1, h2⟩ | ⟨h1, h2, h3⟩ | ⟨h1, h2, h3⟩
  · go_enter Try.func10, Try.ntmps10
    go_wp2_with fail
    refine (few_any A1 n1 c1 false _ (decide_eq_false h1)).mono ?_
    rintro e w1 ⟨rfl, rfl⟩
    go_wp2_with fail
    refine (awake_any _).mono ?_
    rintro e w7 ⟨rfl, hb7⟩
    go_wp2_with fail
    go_ret
    exact ⟨rfl, hb7⟩
  · go_enter Try.func10, Try.ntmps10
    go_wp2_with fail
    refine (few_any A1 n1 c1 true _ (decide_eq_true h1)).mono ?_
    rintro e w1 ⟨rfl, rfl⟩
    go_wp2_with fail
    refine (few_any A2 n2 c2 false _ (decide_eq_false h2)).mono ?_
    rintro e w1 ⟨rfl, rfl⟩
    go_wp2_with fail
    refine (awake_any _).mono ?_
    rintro e w7 ⟨rfl, hb7⟩
    go_wp2_with fail
    go_ret
    exact ⟨rfl, hb7⟩
  · have h3 : (10000 : Int) < (m.length : Int) := by omega
    go_enter Try.func10, Try.ntmps10
    go_wp2_with fail
    refine (few_any A1 n1 c1 true _ (decide_eq_true h1)).mono ?_
    rintro e w1 ⟨rfl, rfl⟩
    go_wp2_with fail
    refine (few_any A2 n2 c2 true _ (decide_eq_true h2)).mono ?_
    rintro e w1 ⟨rfl, rfl⟩
    go_wp2_with fail
    refine (awake_any _).mono ?_
    rintro e w7 ⟨rfl, hb7⟩
    go_wp2_with fail
    go_ret
    exact ⟨rfl, hb7⟩
  · have h4 : ¬ (10000 : Int) < (m.length : Int) := by omega
    have C1 := fun w HH => run_any m A1 n1 c1 a w HH (by omega) (by omega) _ rfl
    have hal := rd_wlen ha
    have hbl := rd_wlen hb
    by_cases he : (runV m a 0).2.2 = 0
    · have hpl := runV_place (s := m) a 0 (by omega) (by omega)
      have hfull := runV_full m a 0 he
      obtain ⟨x, hx⟩ : ∃ x, runV m a 0 = x := ⟨_, rfl⟩
      rw [hx] at C1 he hpl hfull
      obtain ⟨xs, at_, er⟩ := x
      obtain ⟨p, rfl⟩ := Int.eq_ofNat_of_zero_le (show 0 ≤ at_ from hpl.1)
      dsimp only at he hpl hfull
      subst he
      have hpm : p ≤ m.length := by omega
      have C2 := fun w HH => run_any (m.drop p) A2 n2 c2 b w HH (by rw [List.length_drop]; omega) (by omega) _ rfl
      obtain ⟨y, hy⟩ : ∃ y, runV (m.drop p) b 0 = y := ⟨_, rfl⟩
      have hyl := runV_len (s := m.drop p) b 0
      have hyp := runV_place (s := m.drop p) b 0 (by omega) (by omega)
      rw [List.length_drop] at hyp
      rw [hy] at C2 hyl hyp
      obtain ⟨ys, to, f⟩ := y
      have hab := runV_parts hx hpm hy
      have C3 := fun A n c w HH hn => run_any m A n c (a ++ b) w HH (by omega) hn _ hab
      have H1 := Lib.hid C1
      have H2 := Lib.hid C2
      have H3 := Lib.hid C3
      have HF := Lib.hid hfull
      have HAL := Lib.hid hal
      have HBL := Lib.hid hbl
      clear C1 C2 C3 hx hy hab hfull hal hbl
      dsimp only at hyl hyp
      have hto1 : 0 ≤ to := hyp.1
      have hto2 : to ≤ 10000 := by omega
      have hw1 : IntKind.i64.wrap ((p : Int) + to) = (p : Int) + to := IntWalk.i64_in _ (by omega)
      have hp1 : ¬ (p : Int) < 0 := by omega
      have hp2 : ¬ (m.length : Int) < (p : Int) := by omega
      have hyl2 : ys.length ≤ 200 := by have := HBL.out; omega
      clear hyl hyp hpl
      go_enter Try.func10, Try.ntmps10
      go_wp2_with fail
      refine (few_any A1 n1 c1 true _ (decide_eq_true h1)).mono ?_
      rintro e w1 ⟨rfl, rfl⟩
      go_wp2_with fail
      refine (few_any A2 n2 c2 true _ (decide_eq_true h2)).mono ?_
      rintro e w1 ⟨rfl, rfl⟩
      go_wp2_with fail
      refine (H1.out _ ha).mono ?_
      rintro e w1 ⟨A3, n3, c3, rfl, hc3, r3, hb1⟩
      go_wp2_with fail
      rw [ext_from]
      refine (H2.out _ ((hb.below hb1).more hb1.size)).mono ?_
      rintro e w2 ⟨A4, n4, c4, rfl, hc4, r4, hb2⟩
      have HB := hb1.trans (hb2.mono hb1.size)
      have hn3 : n3 = n1 := by have := rd_glen r3; have := HF.out; have := HAL.out; omega
      have hn4 : n4 ≤ 200 := by have := rd_glen r4; omega
      subst hn3
      replace r3 := (r3.below hb2).more hb2.size
      clear hb1 hb2 hw1
      have z2 := HB.size
      have ha' := (ha.below HB).below ((Below.refl _ _).alloc HB.size (.cells #[] 62))
      have hb' := (hb.below HB).below ((Below.refl _ _).alloc HB.size (.cells #[] 62))
      have HBa := HB.alloc HB.size (.cells #[] 62)
      go_wp2_with (at_builtin; first | (with_reducible refine wp_append El_want rfl (s := .tmp 72) (x := .tmp 73) rfl rfl (own_empty _ _ _) rfl ha' (wcells_one _) (by unfold maxLen; omega) (by omega) (by simp) ?_; intro A5 c5 w5 o5 hg5 hat5; simp only [Nat.zero_add, List.nil_append] at o5; have hb5 := below_grown HBa hg5 (own_empty w2 62 2) z2; have hbR := hb'.grown hg5 (by simp; omega) (by intro k hk; simp [blkOf] at hk; omega)) | (with_reducible refine wp_append El_want rfl (s := .tmp 74) (x := .tmp 75) rfl rfl o5 rfl hbR (wcells_one _) (by unfold maxLen; omega) (by omega) (by have := hg5.size; simp only [World.size_alloc] at this; omega) ?_; intro A6 c6 w6 o6 hg6 hat6))
      rw [← wcells_append] at o6
      have hb6 := below_grown hb5 hg6 o5 z2
      refine (H3.out A6 (n3 + n2) c6 _ o6.rd (by omega)).mono ?_
      rintro e w7 ⟨A7, n7, c7, rfl, hc7, r7, hb7⟩
      have HB7 := hb6.trans (hb7.mono hb6.size)
      have z7 := HB7.size
      have k3 : Below w2.heap.size w2 w7 := by
        have q1 : Below w2.heap.size w2 (w2.alloc (.cells #[] 62)) := (Below.refl _ _).alloc (Nat.le_refl _) _
        have q2 := below_grown q1 hg5 (own_empty w2 62 2) (Nat.le_refl _)
        have q3 := below_grown q2 hg6 o5 (Nat.le_refl _)
        exact q3.trans (hb7.mono q3.size)
      have zk := k3.size
      have s3 := (r3.below k3).below ((Below.refl w2.heap.size w7).alloc zk (.cells #[] 68))
      have s4 := (r4.below k3).below ((Below.refl w2.heap.size w7).alloc zk (.cells #[] 68))
      have s7 := r7.below ((Below.refl w7.heap.size w7).alloc (Nat.le_refl _) (.cells #[] 68))
      have hn7 : n7 ≤ 9223372036854775807 := by have := rd_glen r7; have := HF.out; have := HAL.out; simp only [List.length_append] at *; omega
      have HBb := HB7.alloc HB7.size (.cells #[] 68)
      have HXS := Lib.hid (show gcells (xs ++ ys) = gcells xs ++ gcells ys from gcells_append _ _)
      clear hb5 hbR hb' ha' HBa hat5 hat6 hg5 hg6 o5 o6 hb6 hb7 r3 r4 r7 k3
      go_wp2_with (at_builtin; first | (with_reducible refine wp_append El_got' rfl (s := .tmp 82) (x := .tmp 83) rfl rfl (own_empty _ _ _) rfl s3 (gcells_one _) (by unfold maxLen; omega) (by omega) (by simp) ?_; intro A5 c5 w5 o5 hg5 hat5; simp only [Nat.zero_add, List.nil_append] at o5; have hb5 := below_grown HBb hg5 (own_empty w7 68 2) z7; have t4 := s4.grown hg5 (by simp; omega) (by intro k hk; simp [blkOf] at hk; omega); have t7 := s7.grown hg5 (by simp) (by intro k hk; simp [blkOf] at hk; omega)) | (with_reducible refine wp_append El_got' rfl (s := .tmp 84) (x := .tmp 85) rfl rfl o5 rfl t4 (gcells_one _) (by unfold maxLen; omega) (by omega) (by have := hg5.size; simp only [World.size_alloc] at this; omega) ?_; intro A6 c6 w6 o6 hg6 hat6))
      have hb6 := below_grown hb5 hg6 o5 z7
      have z5 := hg5.size
      have z6 := hg6.size
      rw [World.size_alloc] at z5
      have u7 := (t7.grown hg6 (by omega) (fun k hk => (o5.blk k hk).1)).more (show w7.heap.size ≤ w6.heap.size by omega)
      have o6r := o6.rd
      rw [← HXS.out] at o6r
      have C9 := same_any A7 A6 n7 c7 (n3 + n4) c6 (xs ++ ys) (xs ++ ys) w6 u7 o6r hn7 (by omega)
      rw [decide_eq_true (rfl : xs ++ ys = xs ++ ys)] at C9
      clear u7 o6r t7 t4 s3 s4 s7 o5 o6 hg5 hg6 hat5 hat6 HBb
      have hw1 : IntKind.i64.wrap ((p : Int) + to) = (p : Int) + to := IntWalk.i64_in _ (by omega)
      refine C9.mono ?_
      clear C9
      rintro e w8 ⟨rfl, nq, rfl⟩
      replace hb6 := hb6.drewN_ nq
      generalize w6.drewN nq = w8 at *
      go_wp2_with fail
      refine (awake_any _).mono ?_
      rintro e w9 ⟨rfl, hb9⟩
      go_wp2_with fail
      go_ret
      exact ⟨rfl, hb6.trans (hb9.mono hb6.size)⟩
    · have hsh := runV_short m a 0 he
      obtain ⟨x, hx⟩ : ∃ x, runV m a 0 = x := ⟨_, rfl⟩
      rw [hx] at C1 he hsh
      obtain ⟨xs, at_, er⟩ := x
      dsimp only at he hsh
      have heI : (er != 0) = true := by simp [he]
      have H1 := Lib.hid C1
      have HS := Lib.hid hsh
      have HAL := Lib.hid hal
      clear C1 hx hal hsh he
      go_enter Try.func10, Try.ntmps10
      go_wp2_with fail
      refine (few_any A1 n1 c1 true _ (decide_eq_true h1)).mono ?_
      rintro e w1 ⟨rfl, rfl⟩
      go_wp2_with fail
      refine (few_any A2 n2 c2 true _ (decide_eq_true h2)).mono ?_
      rintro e w1 ⟨rfl, rfl⟩
      go_wp2_with fail
      refine (H1.out _ ha).mono ?_
      rintro e w1 ⟨A3, n3, c3, rfl, hc3, r3, hb1⟩
      have hlt : (n3 : Int) < (n1 : Int) := by have := rd_glen r3; have := HS.out; have := HAL.out; omega
      clear r3
      go_wp2_with fail
      refine (awake_any _).mono ?_
      rintro e w9 ⟨rfl, hb9⟩
      go_wp2_with fail
      go_ret
      exact ⟨rfl, hb1.trans (hb9.mono hb1.size)⟩
end TakW
end Go.Proofs.Ytjdmbpkabeaccaa
