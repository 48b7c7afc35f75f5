/- The laws of package front on ranks and bytes: their walks. -/
import Derived.Test.YtehlgpfkpagaeaaFrontL
import Derived.Test.YtehlgpfkpagaeaaOpen
namespace Go.Proofs.Ytehlgpfkpagaeaa
set_option linter.unusedVariables false
set_option linter.unusedSimpArgs false
set_option linter.unnecessarySimpa false
open Go.RowKit Go.ChangeShapes Go.WideShapes
namespace FrontW

set_option maxHeartbeats 2000000 in
theorem ranks_law (s : List UInt8) (A : Option Addr) (n c : Nat) (l : List Int) (w : World) (hs : s.length ≤ maxLen) (h : Rd w w.heap.size 1 A n (ints l)) (hnc : n ≤ c) (hcm : c ≤ maxLen) :
    Calls Try.prog 7 #[str s, .slice A n c] w fun e w' => e = .returned (.bool true) ∧ Below w.heap.size w w' := by
  unfold maxLen at hs hcm
  by_cases h1 : (2000 : Int) < (s.length : Int)
  · go_enter Try.func7, Try.ntmps7
    go_wp2_with fail
    refine (awake_any _).mono ?_
    rintro e w1 ⟨rfl, hb1⟩
    go_wp2
    go_ret
    exact ⟨rfl, hb1⟩
  · by_cases h2 : (2000 : Int) < (n : Int)
    · go_enter Try.func7, Try.ntmps7
      go_wp2_with fail
      refine (awake_any _).mono ?_
      rintro e w1 ⟨rfl, hb1⟩
      go_wp2
      go_ret
      exact ⟨rfl, hb1⟩
    · go_enter Try.func7, Try.ntmps7
      go_wp2_with fail
      refine (text_any A n c l _ h (by omega)).mono ?_
      rintro e w1 ⟨rfl, hb1⟩
      go_wp2_with fail
      refine (rtext_any A n c l _ ((h.below hb1).more hb1.size) (by omega)).mono ?_
      rintro e w2 ⟨rfl, hb2⟩
      have HB2 := hb1.trans (hb2.mono hb1.size)
      go_wp2_with fail
      refine (ranks_any s _ (by omega)).mono ?_
      rintro e w3 ⟨A1, c1, rfl, hown1, hb3⟩
      have HB3 := HB2.trans (hb3.mono HB2.size)
      go_wp2_with fail
      refine (rranks_any s _ (by omega)).mono ?_
      rintro e w4 ⟨A2, c2, rfl, hown2, hb4⟩
      have HB4 := HB3.trans (hb4.mono HB3.size)
      have hown3 := hown1.below hb4
      go_wp2_with fail
      refine (same_any A1 A2 s.length c1 s.length c2 (runR s).2 (runR s).2 _ hown3.rd hown2.rd (by omega) (by omega)).mono ?_
      rintro e w5 ⟨rfl, hb5⟩
      have HB5 := HB4.trans (hb5.mono HB4.size)
      rw [decide_eq_true (show (runR s).2 = (runR s).2 from rfl)]
      go_wp2_with fail
      refine (row_any s _ (by omega)).mono ?_
      rintro e w6 ⟨rfl, hb6⟩
      have HB6 := HB5.trans (hb6.mono HB5.size)
      go_wp2_with fail
      refine (rrow_any s _ (by omega)).mono ?_
      rintro e w7 ⟨rfl, hb7⟩
      have HB7 := HB6.trans (hb7.mono HB6.size)
      go_wp2_with fail
      refine (awake_any _).mono ?_
      rintro e w8 ⟨rfl, hb8⟩
      go_wp2
      go_ret
      exact ⟨rfl, HB7.trans (hb8.mono HB7.size)⟩

theorem ranks_lawB (s : ByteArray) (A : Option Addr) (n c : Nat) (l : List Int) (w : World) (hs : s.size ≤ maxLen) (h : Rd w w.heap.size 1 A n (ints l)) (hnc : n ≤ c) (hcm : c ≤ maxLen) :
    Calls Try.prog 7 #[.string s, .slice A n c] w fun e w' => e = .returned (.bool true) ∧ Below w.heap.size w w' := by
  obtain ⟨m, rfl, hm⟩ := str_of s
  exact ranks_law m A n c l w (by omega) h hnc hcm
theorem ints_flat (l : List Int) : (l.flatMap fun x : Int => [Value.int .i64 x]) = ints l := by
  induction l with
  | nil => rfl
  | cons x l ih => rw [List.flatMap_cons, ih]; rfl
theorem trod_i {H : Type} {enc : TypeId × Value → H} {P : Program} {w : World} {base : Nat} {spare : Nat → Bool} {held : Bool} {t : Nat} (h0 : P.underlying t = some (.int .i64))
    (n : Nat) (cs : List Value) (y : DataW H × List MemPlace) (h : DataW.trod enc P w base spare held n t cs = some y) (hl : cs.length = 1) :
    ∃ x : Int, cs = [.int .i64 x] ∧ I64 x := by
  obtain ⟨i, e0, _, w0⟩ := DataW.trod_int h0 h
  exact ⟨i, e0, i64_of w0⟩
theorem open_ints {H : Type} {enc : TypeId × Value → H} {w : World} {base : Nat} {spare : Nat → Bool} {held : Bool} {r : Reach} {b0 : Nat} {v : Value} {d : DataW H} {p : List MemPlace}
    (hv : Value.okWide Try.prog w r b0 35 v) (h : DataW.Trod enc Try.prog w base spare held 35 v d p) :
    ∃ (A : Option Addr) (n c : Nat) (l : List Int), v = .slice A n c ∧ n ≤ c ∧ c ≤ maxLen ∧ (∀ x ∈ l, I64 x) ∧ Rd w w.heap.size 1 A n (ints l) := by
  obtain ⟨A, n, c, l, hv', h1, h2, _, h4, _, h6⟩ := open_rows Try.underlying35 (by kernel_rfl) (by decide) (fun x : Int => [.int .i64 x]) I64
    (fun n cs y => trod_i Try.underlying3 n cs y) hv h
  refine ⟨A, n, c, l, hv', h1, h2, h4, ?_⟩
  rw [← ints_flat]; exact h6
end FrontW
end Go.Proofs.Ytehlgpfkpagaeaa
