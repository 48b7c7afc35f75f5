/- Walks over package record and its reference: records of bytes, bytes of records. -/
import Derived.Test.YtnghmcadhjneeaaRecY
import Derived.Test.YtnghmcadhjneeaaRecJ
namespace Go.Proofs.Ytnghmcadhjneeaa
set_option linter.unusedVariables false
set_option linter.unusedSimpArgs false
set_option linter.unnecessarySimpa false
open Go.RowKit
namespace RecW

theorem El_rec' : El Try.prog 22 26 3 32 := El.mk' Try.underlying22 (z := .agg #[.int .i64 0, .int .i64 0, .string ⟨#[]⟩]) (by kernel_rfl) rfl (by decide)

set_option maxRecDepth 100000 in
set_option maxHeartbeats 4000000 in
theorem split_any (s : List UInt8) (w : World) (hs : s.length ≤ 1000000) (x : List Rc × Int) (hx : splitV s = x) :
    Calls Try.prog 51 #[str s] w fun e w' => ∃ A n c, e = .returned (.tuple #[.slice A n c, .int .i64 x.2]) ∧ n ≤ c ∧ Rd w' w'.heap.size 3 A n (rcells x.1) ∧ Below w.heap.size w w' := by
  by_cases hbig : 20000 < s.length
  · have hx2 : x = ([], 3) := by rw [← hx]; unfold splitV; rw [if_pos hbig]
    subst hx2
    have hI : (20000 : Int) < (s.length : Int) := by omega
    clear hx
    go_enter Try.func51, Try.ntmps51
    go_wp2_with fail
    go_ret2
    exact ⟨none, 0, 0, rfl, Nat.le_refl _, Rd.nil _ _ _ _, Below.refl _ _⟩
  · have hI : ¬ (20000 : Int) < (s.length : Int) := by omega
    have hx2 : x = splitR ([] ++ (splitF s (s.length + 1) (0 : Nat)).1, (splitF s (s.length + 1) (0 : Nat)).2) := by rw [← hx]; unfold splitV; rw [if_neg hbig]; rfl
    have HX := Lib.hid hx2
    clear hx hx2 hbig
    go_enter Try.func51, Try.ntmps51
    go_wp2_with fail
    go_loopw [4, 5] (fun out at_ wr => ∃ (j q f : Nat) (acc : List Rc) (A2 : Option Addr) (c2 : Nat), at_ = .int .i64 q ∧ out = .slice A2 j c2 ∧ j ≤ q ∧ q ≤ s.length ∧ s.length < q + f ∧ x = splitR (acc ++ (splitF s f q).1, (splitF s f q).2) ∧
      Own wr w.heap.size 26 3 A2 j c2 (rcells acc) ∧ Below w.heap.size w wr) (fun _ i _ => s.length - (intOf i).toNat)
    case atStart => exact ⟨0, 0, s.length + 1, [], none, 0, rfl, rfl, by omega, by omega, by omega, HX.out, Own.nil _ _ _ _, (by first | exact Below.refl _ _ | (repeat (first | exact Below.refl _ _ | assumption | refine Below.drew ?_ | refine Below.drewN_ ?_ _ | refine Below.alloc ?_ (by first | exact Nat.le_refl _ | (simp; done) | (simp; omega) | omega) _ | refine Below.setCell ?_ (by first | exact Nat.le_refl _ | (simp; done) | (simp; omega) | omega) _ | (refine Below.trans ?_ (Below.mono (by assumption) (by first | exact Nat.le_refl _ | (simp; done) | (simp; omega) | omega))))))⟩
    case round =>
      obtain ⟨j, q, f, acc, A2, c2, rfl, rfl, hj, hq, hf, hr, o2, hbw⟩ := hrel
      have HR := Lib.hid hr
      have hsz := hbw.size
      clear hr
      by_cases hlt : q < s.length
      · obtain ⟨f, rfl⟩ : ∃ f', f = f' + 1 := ⟨f - 1, by omega⟩
        have hqI : (q : Int) < (s.length : Int) := by omega
        have HY := Lib.hid (fun h => splitF_yes (s := s) (f := f) (a := q) hqI h)
        have HN := Lib.hid (fun h => splitF_no (s := s) (f := f) (a := q) hqI h)
        have HO := Lib.hid (fun h => getR_ok (s := s) (a := q) h)
        obtain ⟨z, hz⟩ : ∃ z, getR s q = z := ⟨_, rfl⟩
        rw [hz] at HY HN HO
        have C := fun w => getR_any s q w (by omega) z hz
        clear hz
        obtain ⟨⟨ra, rb, rd⟩, to, er⟩ := z
        dsimp only at HY HN HO
        go_wp2_with fail
        refine (C _).mono ?_
        clear C
        rintro e w1 ⟨rfl, hb1⟩
        have hbw1 : Below w.heap.size w w1 := hbw.trans (hb1.mono hsz)
        have o3 := o2.below hb1
        clear hb1 o2 hbw
        have hz1 := hbw1.size
        by_cases he : er = 0
        · subst he
          obtain ⟨f1, f2, f3, f4⟩ := HO.out rfl
          obtain ⟨to, rfl⟩ := Int.eq_ofNat_of_zero_le (show 0 ≤ to by omega)
          have hx : x = splitR (acc ++ [(ra, rb, rd)] ++ (splitF s f to).1, (splitF s f to).2) := by rw [HR.out, HY.out rfl]; simp
          have HXX := Lib.hid hx
          clear hx
          have hrn : Rd ((w1.alloc (.cells #[.int .i64 ra, .int .i64 rb, str rd] 26)).alloc (.cells #[.int .i64 ra, .int .i64 rb, str rd] 26)) (w1.heap.size + 1 + 1) 3 (some ⟨w1.heap.size + 1, 0, none⟩) 1 (rcells [(ra, rb, rd)]) := by
            have := rd_new (W0 := w1.alloc (.cells #[.int .i64 ra, .int .i64 rb, str rd] 26)) (t := 26) (cs := rcells [(ra, rb, rd)]) (size := 3) (m := 1) rfl rfl
            rw [World.size_alloc] at this
            exact this
          go_wp2_with (at_builtin; with_reducible refine wp_append El_rec' rfl (s := .tmp 27) (x := .tmp 29) rfl rfl ((o3.alloc _).alloc _) rfl hrn (rcells_one _) (by unfold maxLen; omega) (by omega) (by simp; omega) ?_; intro A4 c4 w4 o4 hg4 hat4; clear hrn)
          have hb4 := below_grown (hbw1.alloc hbw1.size _) (grown_alloc hg4) (o3.alloc _) (Nat.le_refl _)
          rw [← rcells_append] at o4
          go_roundw
          case rel => exact ⟨j + 1, to, f, acc ++ [(ra, rb, rd)], A4, c4, rfl, rfl, by omega, by omega, by omega, HXX.out, o4, hb4⟩
          case measure => simp [intOf]; omega
        · have heI : (er != 0) = true := by simp [he]
          have hx : x = ([], er) := by rw [HR.out, HN.out he, List.append_nil]; unfold splitR; rw [if_neg he]
          subst hx
          clear he
          go_wp2_with fail
          go_ret2
          exact ⟨none, 0, 0, rfl, Nat.le_refl _, Rd.nil _ _ _ _, hbw1.alloc hbw1.size _⟩
      · have hx : x = splitR (acc, 0) := by rw [HR.out, splitF_end (by omega), List.append_nil]
        have row_any' := row_any A2 j c2 acc wr o2.rd (by omega)
        have HX2 := Lib.hid hx
        generalize hrow : rowN acc = rv at *
        have HRW := Lib.hid hrow
        clear hrow hx
        go_wp2_with fail
        refine row_any'.mono ?_
        clear row_any'
        rintro e w1 ⟨rfl, hb1⟩
        have hbw1 : Below w.heap.size w w1 := hbw.trans (hb1.mono hsz)
        have o3 := o2.below hb1
        by_cases he : rv = 0
        · subst he
          have hx : x = (acc, 0) := by rw [HX2.out]; unfold splitR; rw [if_pos rfl, if_pos HRW.out]
          subst hx
          go_wp2_with fail
          go_ret2
          exact ⟨A2, j, c2, rfl, o3.cap, o3.rd, hbw1⟩
        · have heI : (rv != 0) = true := by simp [he]
          have hx : x = ([], rv) := by rw [HX2.out]; unfold splitR; rw [if_pos rfl, if_neg (by rw [HRW.out]; exact he), HRW.out]
          subst hx
          clear he
          go_wp2_with fail
          go_ret2
          exact ⟨none, 0, 0, rfl, Nat.le_refl _, Rd.nil _ _ _ _, hbw1⟩
end RecW
end Go.Proofs.Ytnghmcadhjneeaa
