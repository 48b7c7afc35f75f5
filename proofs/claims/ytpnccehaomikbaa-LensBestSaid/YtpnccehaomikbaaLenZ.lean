/- The walks of package lens: things are sorted, however many. -/
import Derived.Test.YtpnccehaomikbaaLenY
namespace Go.Proofs.Ytpnccehaomikbaa
set_option linter.unusedVariables false
set_option linter.unusedSimpArgs false
set_option linter.unnecessarySimpa false
open Go.RowKit
namespace LenW

theorem sym_all (base : Nat) (A0 : Option Addr) (N c : Nat) (hN3 : N ≤ 1000) : ∀ K, MergeAll base A0 N c K := by
  intro K
  induction K with
  | zero => intro P M1 M2 T w a m b _ _ _ _ _ _ h; omega
  | succ K ih =>
    intro P M1 M2 T w a m b ha hm hb hN h1 h2 hK u1 u2 ho hbs
    by_cases e1 : M1.length = 1
    · obtain ⟨x, rfl⟩ := List.length_eq_one_iff.1 e1
      exact sym_one base A0 N c P M2 T x w a m b ha (by simpa using hm) hb (by simp at hN; omega) hN3 u2 (by simpa using ho) hbs
    · by_cases e2 : M2.length = 1
      · obtain ⟨y, rfl⟩ := List.length_eq_one_iff.1 e2
        exact sym_end base A0 N c P M1 T y w a m b ha hm (by simpa using hb) (by simp at hN; omega) hN3 (by omega) u1 (by simpa using ho) hbs
      · have IH : MergeAll base A0 N c (M1.length + M2.length) := fun P' M1' M2' T' w' a' m' b' q1 q2 q3 q4 q5 q6 q7 => ih P' M1' M2' T' w' a' m' b' q1 q2 q3 q4 q5 q6 (by omega)
        by_cases hmm : (a + b) / 2 < m
        · exact sym_stepA base A0 N c P M1 M2 T w a m b _ _ _ rfl rfl ha hm hb hN hN3 (by omega) (by omega) u1 u2 ho hbs rfl hmm IH
        · exact sym_stepB base A0 N c P M1 M2 T w a m b _ _ _ rfl rfl ha hm hb hN hN3 (by omega) (by omega) u1 u2 ho hbs rfl (Nat.le_of_not_lt hmm) IH
theorem sym_any (base : Nat) (A0 : Option Addr) (N c : Nat) (P M1 M2 T : List (Int × Int)) (w : World) (a m b : Nat) (hN3 : N ≤ 1000) (ha : P.length = a) (hm : a + M1.length = m) (hb : m + M2.length = b) (hN : P.length + M1.length + M2.length + T.length = N) (h1 : 1 ≤ M1.length) (h2 : 1 ≤ M2.length) (u1 : upW M1) (u2 : upW M2)
    (ho : Own w base 39 2 A0 N c (fcells (P ++ (M1 ++ (M2 ++ T))))) (hbs : base ≤ w.heap.size) : MergeOk base A0 N c P M1 M2 T w a m b :=
  sym_all base A0 N c hN3 _ P M1 M2 T w a m b ha hm hb hN h1 h2 (Nat.lt_succ_self _) u1 u2 ho hbs
/-- Blocks of so many are sorted, each by itself. -/
def fullW (bs : Nat) (M : List (Int × Int)) : List (Int × Int) :=
  if h : M.length ≤ bs ∨ bs = 0 then sortW M else sortW (M.take bs) ++ fullW bs (M.drop bs)
termination_by M.length
decreasing_by simp only [List.length_drop]; omega
theorem full_few {bs : Nat} {M : List (Int × Int)} (h : M.length ≤ bs) : fullW bs M = sortW M := by rw [fullW, dif_pos (.inl h)]
theorem full_many {bs : Nat} {M : List (Int × Int)} (h0 : 0 < bs) (h : bs ≤ M.length) : fullW bs M = sortW (M.take bs) ++ fullW bs (M.drop bs) := by
  rcases Nat.lt_or_ge bs M.length with h1 | h1
  · rw [fullW, dif_neg (by omega)]
  · have e : bs = M.length := by omega
    subst e
    rw [full_few (Nat.le_refl _), List.take_of_length_le (Nat.le_refl _), List.drop_of_length_le (Nat.le_refl _), full_few (by simp)]
    show sortW M = sortW M ++ []
    simp
theorem full_two {bs : Nat} {M : List (Int × Int)} (h0 : 0 < bs) (h : 2 * bs ≤ M.length) : fullW bs M = sortW (M.take bs) ++ (sortW ((M.drop bs).take bs) ++ fullW bs (M.drop (2 * bs))) := by
  rw [full_many h0 (by omega), full_many (M := M.drop bs) h0 (by rw [List.length_drop]; omega), List.drop_drop, show bs + bs = 2 * bs by omega]
theorem full_join {bs : Nat} {M : List (Int × Int)} : sortW (sortW (M.take bs) ++ sortW ((M.drop bs).take bs)) = sortW (M.take (2 * bs)) := by
  rw [sort_two]
  congr 1
  rw [show 2 * bs = bs + bs by omega, List.take_add]
theorem full_last {bs : Nat} {M : List (Int × Int)} (h0 : 0 < bs) (h : bs ≤ M.length) (h2 : M.length ≤ 2 * bs) : fullW bs M = sortW (M.take bs) ++ sortW (M.drop bs) := by
  rw [full_many h0 h, full_few (by rw [List.length_drop]; omega)]
theorem full_len (bs : Nat) (M : List (Int × Int)) : (fullW bs M).length = M.length := by
  suffices ∀ n (M : List (Int × Int)), M.length ≤ n → (fullW bs M).length = M.length from this _ M (Nat.le_refl _)
  intro n
  induction n with
  | zero => intro M h; rw [full_few (by omega), sortW_len]
  | succ n ih =>
    intro M h
    rw [fullW]
    split
    · rw [sortW_len]
    · rw [List.length_append, sortW_len, ih _ (by rw [List.length_drop]; omega), List.length_take, List.length_drop]
      omega
set_option maxRecDepth 100000 in
set_option maxHeartbeats 8000000 in
theorem stable_any (n : Nat) (hn : n ≤ 1000) (base : Nat) (A0 : Option Addr) (c : Nat) (M : List (Int × Int)) (w : World) (hM : M.length = n) (ho : Own w base 39 2 A0 n c (fcells M)) (hbs : base ≤ w.heap.size) :
    Calls Try.prog 33 #[.slice A0 n c, .int .i64 n, .func (.func 30) #[] #[]] w fun e w' => e = .returned (.tuple #[]) ∧ Own w' base 39 2 A0 n c (fcells (sortW M)) ∧ Below base w w' := by
  have HMl := Lib.hid hM
  clear hM
  go_enter Try.func33, Try.ntmps33
  go_wp2_with fail
  go_loopw [7, 8] (fun s r wr => ∃ (a b : Nat) (Z R : List (Int × Int)), s = .int .i64 a ∧ r = .int .i64 b ∧ a + 20 ≤ b ∧ b ≤ a + 20 ∧ a ≤ n ∧ Z.length = a ∧ a + R.length = n ∧ Z ++ fullW 20 R = fullW 20 M ∧ Own wr base 39 2 A0 n c (fcells (Z ++ R)) ∧ Below base w wr) (fun s _ _ => n - (intOf s).toNat)
  case atStart => exact ⟨0, 20, [], M, rfl, rfl, by omega, by omega, by omega, rfl, by rw [HMl.out]; omega, rfl, ho, Below.refl _ _⟩
  case round =>
    clear ho
    obtain ⟨a, b, Z, R, rfl, rfl, hab, hba, han, hZ, hR, hE, o2, HB⟩ := hrel
    have hz := HB.size
    have HZ := Lib.hid hZ
    have HR := Lib.hid hR
    have HE := Lib.hid hE
    clear hZ hR hE
    by_cases hlt : b ≤ n
    · have hltI : (b : Int) ≤ (n : Int) := by omega
      have hb20 : IntKind.i64.wrap ((b : Int) + 20) = (b : Int) + 20 := w64k (by omega) (by omega)
      have C := insSort_any base A0 n c Z (R.take 20) (R.drop 20) wr a b HZ.out (by rw [List.length_take]; have := HR.out; omega) (by rw [List.length_take, List.length_drop, HZ.out]; have := HR.out; omega) hn (by rw [List.append_assoc, List.take_append_drop]; exact o2) (by omega)
      go_wp2_with fail
      refine C.mono ?_
      rintro e w1 ⟨rfl, o3, hb3⟩
      go_wp2_with fail
      go_roundw
      case rel => exact ⟨b, b + 20, Z ++ sortW (R.take 20), R.drop 20, rfl, by go_num, by omega, by omega, by omega, by rw [List.length_append, sortW_len, List.length_take, HZ.out]; have := HR.out; omega, by rw [List.length_drop]; have := HR.out; omega, by rw [← HE.out, full_many (bs := 20) (M := R) (by omega) (by have := HR.out; omega), List.append_assoc], o3, HB.trans hb3⟩
      case measure => simp [intOf]; omega
    · have hltI : ¬ (b : Int) ≤ (n : Int) := by omega
      have C := insSort_any base A0 n c Z R [] wr a n HZ.out (by have := HR.out; omega) (by rw [HZ.out]; have := HR.out; simp; omega) hn (by simpa using o2) (by omega)
      go_wp2_with fail
      refine C.mono ?_
      rintro e w1 ⟨rfl, o3, hb3⟩
      have o4 : Own w1 base 39 2 A0 n c (fcells (fullW 20 M)) := by
        rw [← HE.out, full_few (by have := HR.out; omega)]
        simpa using o3
      have HB1 := HB.trans hb3
      clear o3 hb3 C o2 HE HZ HR hz HB
      go_wp2_with fail
      go_loopw [6] (fun s wr => ∃ bs : Nat, s = .int .i64 bs ∧ 20 ≤ bs ∧ bs ≤ 2000 ∧ Own wr base 39 2 A0 n c (fcells (fullW bs M)) ∧ Below base w wr) (fun s _ => n - (intOf s).toNat)
      case atStart => exact ⟨20, rfl, by omega, by omega, o4, HB1⟩
      case round =>
        clear o4 HB1
        obtain ⟨bs, rfl, hb1, hb2, o2, HB⟩ := hrel
        have hz := HB.size
        by_cases hlt2 : bs < n
        · have hlt2I : (bs : Int) < (n : Int) := by omega
          have h2b : IntKind.i64.wrap (2 * (bs : Int)) = ((2 * bs : Nat) : Int) := (w64k (by omega) (by omega)).trans (by omega)
          have h2b' : IntKind.i64.wrap ((bs : Int) * 2) = ((2 * bs : Nat) : Int) := (w64k (by omega) (by omega)).trans (by omega)
          obtain ⟨tb, htb⟩ : ∃ tb, 2 * bs = tb := ⟨_, rfl⟩
          rw [htb] at h2b h2b'
          have htb1 : tb ≤ 2 * bs := by omega
          have htb2 : 2 * bs ≤ tb := by omega
          have HTB := Lib.hid htb
          clear htb
          go_wp2_with fail
          go_loopw [7, 8] (fun s r wr' => ∃ (a b : Nat) (Z R : List (Int × Int)), s = .int .i64 a ∧ r = .int .i64 b ∧ a + tb ≤ b ∧ b ≤ a + tb ∧ a ≤ n ∧ Z.length = a ∧ a + R.length = n ∧ Z ++ fullW tb R = fullW tb M ∧ Own wr' base 39 2 A0 n c (fcells (Z ++ fullW bs R)) ∧ Below base w wr') (fun s _ _ => n - (intOf s).toNat)
          case atStart => exact ⟨0, tb, [], M, rfl, rfl, by omega, by omega, by omega, rfl, by rw [HMl.out]; omega, rfl, o2, HB⟩
          case round =>
            clear o2 HB hz
            obtain ⟨a, b, Z, R, rfl, rfl, hab, hba, han, hZ, hR, hE, o2, HB⟩ := hrel
            have hz := HB.size
            have HZ := Lib.hid hZ
            have HR := Lib.hid hR
            have HE := Lib.hid hE
            clear hZ hR hE
            have ham : IntKind.i64.wrap ((a : Int) + (bs : Int)) = ((a + bs : Nat) : Int) := (w64k (by omega) (by omega)).trans (by omega)
            obtain ⟨m, hm⟩ : ∃ m, a + bs = m := ⟨_, rfl⟩
            rw [hm] at ham
            have hm1 : m ≤ a + bs := by omega
            have hm2 : a + bs ≤ m := by omega
            clear hm
            by_cases hlt3 : b ≤ n
            · have hlt3I : (b : Int) ≤ (n : Int) := by omega
              have hbt : IntKind.i64.wrap ((b : Int) + (tb : Int)) = ((b + tb : Nat) : Int) := (w64k (by omega) (by omega)).trans (by omega)
              have hF := full_two (bs := bs) (M := R) (by omega) (by have := HR.out; omega)
              rw [hF] at o2
              have C := sym_any base A0 n c Z (sortW (R.take bs)) (sortW ((R.drop bs).take bs)) (fullW bs (R.drop (2 * bs))) wr a m b hn HZ.out (by rw [sortW_len, List.length_take]; have := HR.out; omega) (by rw [sortW_len, List.length_take, List.length_drop]; have := HR.out; omega) (by rw [sortW_len, sortW_len, full_len, List.length_take, List.length_take, List.length_drop, List.length_drop, HZ.out]; have := HR.out; omega) (by rw [sortW_len, List.length_take]; have := HR.out; omega) (by rw [sortW_len, List.length_take, List.length_drop]; have := HR.out; omega) (sortW_up _) (sortW_up _) o2 (by omega)
              unfold MergeOk at C
              rw [full_join] at C
              have HTB2 := HTB.out
              rw [HTB2] at C
              clear hF HTB2
              go_wp2_with fail
              refine C.mono ?_
              rintro e w2 ⟨rfl, o3, hb3⟩
              go_wp2_with fail
              go_roundw
              case rel => exact ⟨b, b + tb, Z ++ sortW (R.take tb), R.drop tb, rfl, by go_num, by omega, by omega, by omega, by rw [List.length_append, sortW_len, List.length_take, HZ.out]; have := HR.out; omega, by rw [List.length_drop]; have := HR.out; omega, by rw [← HE.out, full_many (bs := tb) (M := R) (by omega) (by have := HR.out; omega), List.append_assoc], by rw [List.append_assoc]; exact o3, HB.trans hb3⟩
              case measure => simp [intOf]; omega
            · have hlt3I : ¬ (b : Int) ≤ (n : Int) := by omega
              by_cases hmn : m < n
              · have hmnI : (m : Int) < (n : Int) := by omega
                have hF := full_last (bs := bs) (M := R) (by omega) (by have := HR.out; omega) (by have := HR.out; omega)
                rw [hF] at o2
                have C := sym_any base A0 n c Z (sortW (R.take bs)) (sortW (R.drop bs)) [] wr a m n hn HZ.out (by rw [sortW_len, List.length_take]; have := HR.out; omega) (by rw [sortW_len, List.length_drop]; have := HR.out; omega) (by rw [sortW_len, sortW_len, List.length_take, List.length_drop, HZ.out]; have := HR.out; simp; omega) (by rw [sortW_len, List.length_take]; have := HR.out; omega) (by rw [sortW_len, List.length_drop]; have := HR.out; omega) (sortW_up _) (sortW_up _) (by simpa using o2) (by omega)
                unfold MergeOk at C
                rw [sort_two, List.take_append_drop] at C
                have HF := Lib.hid (show Z ++ (sortW R ++ []) = fullW tb M by rw [← HE.out, full_few (bs := tb) (M := R) (by have := HR.out; omega)]; simp)
                rw [HF.out] at C
                clear hF
                go_wp2_with fail
                refine C.mono ?_
                rintro e w2 ⟨rfl, o3, hb3⟩
                go_wp2_with fail
                go_roundw
                case rel => exact ⟨tb, rfl, by omega, by omega, o3, HB.trans hb3⟩
                case measure => simp [intOf]; omega
              · have hmnI : ¬ (m : Int) < (n : Int) := by omega
                have HF := Lib.hid (show Z ++ fullW bs R = fullW tb M by rw [← HE.out, full_few (bs := tb) (M := R) (by have := HR.out; omega), full_few (bs := bs) (M := R) (by have := HR.out; omega)])
                rw [HF.out] at o2
                go_wp2_with fail
                go_roundw
                case rel => exact ⟨tb, rfl, by omega, by omega, o2, HB⟩
                case measure => simp [intOf]; omega
        · have hlt2I : ¬ (bs : Int) < (n : Int) := by omega
          rw [full_few (by rw [HMl.out]; omega)] at o2
          go_wp2_with fail
          go_end0
          exact ⟨rfl, o2, HB⟩
set_option maxRecDepth 100000 in
theorem sort_ok (n : Nat) (hn : n ≤ 1000) : SortOk n := by
  intro base A0 c M w hM ho hbs
  have C := stable_any n hn base A0 c M w hM ho hbs
  go_enter Try.func29, Try.ntmps29
  go_wp2_with fail
  refine C.mono ?_
  rintro e w1 ⟨rfl, o1, hb1⟩
  go_wp2_with fail
  go_end0
  exact ⟨rfl, o1, hb1⟩
end LenW
end Go.Proofs.Ytpnccehaomikbaa
