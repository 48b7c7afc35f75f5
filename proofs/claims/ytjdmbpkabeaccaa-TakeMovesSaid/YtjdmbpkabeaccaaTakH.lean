/- Walks over take's reference: a row of pieces. -/
import Derived.Test.YtjdmbpkabeaccaaTakG
import Derived.Test.YtjdmbpkabeaccaaTakQ
namespace Go.Proofs.Ytjdmbpkabeaccaa
set_option linter.unusedVariables false
set_option linter.unusedSimpArgs false
set_option linter.unnecessarySimpa false
open Go.RowKit
namespace TakW

theorem El_got : El Try.prog 52 68 2 24 := El.mk' Try.underlying52 (z := .agg #[.int .i64 0, .string ⟨#[]⟩]) (by kernel_rfl) rfl (by decide)

set_option maxRecDepth 100000 in
set_option maxHeartbeats 2000000 in
theorem refRun_any (s : List UInt8) (A : Option Addr) (n c : Nat) (l : List (Int × Int)) (w : World) (h : Rd w w.heap.size 2 A n (wcells l)) (hs : s.length ≤ 1000000) (hn : n ≤ 1000000) (x : List (Int × List UInt8) × Int × Int) (hx : runV s l 0 = x) :
    Calls Try.prog 34 #[str s, .slice A n c] w fun e w' => ∃ A2 n2 c2, e = .returned (.tuple #[.slice A2 n2 c2, .int .i64 x.2.1, .int .i64 x.2.2]) ∧ n2 ≤ c2 ∧ Rd w' w'.heap.size 2 A2 n2 (gcells x.1) ∧ Below w.heap.size w w' := by
  have hl := rd_wlen h
  have HOK := Lib.hid (fun p k n => @oneV_ok s p k n)
  have hX0 : x = ([] ++ (runV s (l.drop 0) 0).1, (runV s (l.drop 0) 0).2) := by rw [← hx]; rfl
  have HX := Lib.hid hX0
  clear hX0
  have HL := Lib.hid hl
  have hl1 : l.length ≤ n := by omega
  have hl2 : n ≤ l.length := by omega
  clear hx hl
  go_enter Try.func34, Try.ntmps34
  go_wp2_with fail
  go_loopw [7, 8, 9] (fun out at_ i wr => ∃ (j : Nat) (q : Int) (acc : List (Int × List UInt8)) (A2 : Option Addr) (c2 : Nat), i = .int .i64 j ∧ at_ = .int .i64 q ∧ out = .slice A2 j c2 ∧ j ≤ n ∧ 0 ≤ q ∧ q ≤ s.length ∧ x = (acc ++ (runV s (l.drop j) q).1, (runV s (l.drop j) q).2) ∧
    Own wr w.heap.size 68 2 A2 j c2 (gcells acc) ∧ Below w.heap.size w wr) (fun _ _ i _ => n - (intOf i).toNat)
  case atStart => exact ⟨0, 0, [], none, 0, rfl, rfl, rfl, by omega, by omega, by omega, HX.out, Own.nil _ _ _ _, (by first | exact Below.refl _ _ | (repeat (first | exact Below.refl _ _ | assumption | refine Below.drew ?_ | refine Below.drewN_ ?_ _ | refine Below.alloc ?_ (by first | exact Nat.le_refl _ | (simp; done) | (simp; omega) | omega) _ | refine Below.setCell ?_ (by first | exact Nat.le_refl _ | (simp; done) | (simp; omega) | omega) _ | (refine Below.trans ?_ (Below.mono (by assumption) (by first | exact Nat.le_refl _ | (simp; done) | (simp; omega) | omega))))))⟩
  case round =>
    obtain ⟨j, q, acc, A2, c2, rfl, rfl, rfl, hj, hq0, hqs, hr, o2, hbw⟩ := hrel
    have HR := Lib.hid hr
    have hsz := hbw.size
    clear hr
    by_cases hlt : j < n
    · have hjl : j < l.length := by omega
      obtain ⟨b, o, rfl, hb, hc⟩ := rd_wcells (h.below hbw) (by omega)
      obtain ⟨c0, c1⟩ := hc j hjl
      have HY := Lib.hid (runV_yes (s := s) (p := q) hjl)
      have HN := Lib.hid (runV_no (s := s) (p := q) hjl)
      have HO := Lib.hid (HOK.out q l[j].1 l[j].2 hq0 hqs)
      obtain ⟨z, hz⟩ : ∃ z, oneV s q l[j].1 l[j].2 = z := ⟨_, rfl⟩
      rw [hz] at HY HN HO
      have C := fun w => one_any s q l[j].1 l[j].2 w hq0 hqs (by omega) z hz
      clear hc hz
      obtain ⟨⟨zn, zt⟩, to, er⟩ := z
      go_wp2_with fail
      refine (C _).mono ?_
      clear C
      rintro e w1 ⟨rfl, hb1⟩
      have hbw1 : Below w.heap.size w w1 := hbw.trans (hb1.mono hsz)
      have o3 := o2.below hb1
      clear c0 c1 hb1 o2 hbw
      have hz1 := hbw1.size
      by_cases he : er = 0
      · subst he
        obtain ⟨f1, f2⟩ := HO.out rfl
        have hx : x = (acc ++ [(zn, zt)] ++ (runV s (l.drop (j + 1)) to).1, (runV s (l.drop (j + 1)) to).2) := by rw [HR.out, HY.out rfl]; simp
        have HXX := Lib.hid hx
        clear hx
        try dsimp only at f1 f2
        have hrn : Rd ((w1.alloc (.cells #[.int .i64 zn, str zt] 68)).alloc (.cells #[.int .i64 zn, str zt] 68)) (w1.heap.size + 1 + 1) 2 (some ⟨w1.heap.size + 1, 0, none⟩) 1 (gcells [(zn, zt)]) := by
          have := rd_new (W0 := w1.alloc (.cells #[.int .i64 zn, str zt] 68)) (t := 68) (cs := gcells [(zn, zt)]) (size := 2) (m := 1) rfl rfl
          rw [World.size_alloc] at this
          exact this
        go_wp2_with (at_builtin; with_reducible refine wp_append El_got rfl (s := .tmp 35) (x := .tmp 37) rfl rfl ((o3.alloc _).alloc _) rfl hrn (gcells_one _) (by unfold maxLen; omega) (by omega) (by simp; omega) ?_; intro A4 c4 w4 o4 hg4 hat4; clear hrn)
        have hb4 := below_grown (hbw1.alloc hbw1.size _) (grown_alloc hg4) (o3.alloc _) (Nat.le_refl _)
        rw [← gcells_append] at o4
        go_roundw
        case rel => exact ⟨j + 1, to, acc ++ [(zn, zt)], A4, c4, by go_num, rfl, rfl, by omega, by omega, by omega, HXX.out, o4, hb4⟩
        case measure => simp [intOf]; omega
      · have heI : (er != 0) = true := by simp [he]
        have hx : x = (acc, q, er) := by rw [HR.out, HN.out he, List.append_nil]
        subst hx
        clear he
        go_wp2_with fail
        go_ret3
        exact ⟨A2, j, c2, rfl, o3.cap, (o3.alloc _).rd, hbw1.alloc hbw1.size _⟩
    · have hx : x = (acc, q, 0) := by rw [HR.out, List.drop_of_length_le (by omega), runV, List.append_nil]
      subst hx
      go_wp2_with fail
      go_ret3
      exact ⟨A2, j, c2, rfl, o2.cap, o2.rd, hbw⟩
end TakW
end Go.Proofs.Ytjdmbpkabeaccaa
