/- The laws of package take on runs and on parts: their walks. -/
import Derived.Test.YtjdmbpkabeaccaaTakA
import Derived.Test.YtjdmbpkabeaccaaTakX
import Derived.Test.YtjdmbpkabeaccaaOpen
namespace Go.Proofs.Ytjdmbpkabeaccaa
set_option linter.unusedVariables false
set_option linter.unusedSimpArgs false
set_option linter.unnecessarySimpa false
open Go.RowKit Go.ChangeShapes Go.WideShapes Go.Deep
namespace TakW

set_option maxRecDepth 100000 in
theorem open_wants {H : Type} {enc : TypeId × Value → H} {w : World} {base : Nat} {spare : Nat → Bool} {held : Bool} {r : Reach} {b0 : Nat} {v : Value} {d : DataW H} {p : List MemPlace}
    (hv : Value.okWide Try.prog w r b0 50 v) (h : DataW.Trod enc Try.prog w base spare held 50 v d p) :
    ∃ (A : Option Addr) (n c : Nat) (l : List (Int × Int)), v = .slice A n c ∧ n ≤ c ∧ c ≤ maxLen ∧ (∀ x ∈ l, I64 x.1 ∧ I64 x.2) ∧ Rd w w.heap.size 2 A n (wcells l) := by
  obtain ⟨A, n, c, l, hv', h1, h2, _, h4, _, h6⟩ := open_rows Try.underlying50 (by kernel_rfl) (by decide) (fun x : Int × Int => [.int .i64 x.1, .int .i64 x.2]) (fun x => I64 x.1 ∧ I64 x.2)
    (fun n cs y => trod_ii Try.underlying62 (by kernel_rfl) Try.underlying3 Try.underlying3 n cs y) hv h
  exact ⟨A, n, c, l, hv', h1, h2, h4, h6⟩

theorem small_or (n m : Nat) : (¬ n ≤ 200) ∨ (n ≤ 200 ∧ 10000 < m) ∨ (n ≤ 200 ∧ m ≤ 10000) := by omega

set_option maxRecDepth 100000 in
set_option maxHeartbeats 4000000 in
theorem runs_law (s : ByteArray) (A : Option Addr) (n c : Nat) (l : List (Int × Int)) (w : World) (h : Rd w w.heap.size 2 A n (wcells l)) (hn : n ≤ maxLen) (hs : s.size ≤ maxLen) :
    Calls Try.prog 8 #[.string s, .slice A n c] w fun e w' => e = .returned (.bool true) ∧ Below w.heap.size w w' := by
  obtain ⟨m, rfl, hm⟩ := str_of s
  rw [← hm] at hs
  clear hm
  unfold maxLen at hs hn
  rcases small_or n m.length with h1 | ⟨h1, h2⟩ | ⟨h1, h2⟩
  · go_enter Try.func8, Try.ntmps8
    go_wp2_with fail
    refine (few_any A n c false _ (decide_eq_false h1)).mono ?_
    rintro e w1 ⟨rfl, rfl⟩
    go_wp2_with fail
    refine (awake_any _).mono ?_
    rintro e w7 ⟨rfl, hb7⟩
    go_wp2_with fail
    go_ret
    exact ⟨rfl, hb7⟩
  · have h3 : (10000 : Int) < (m.length : Int) := by omega
    go_enter Try.func8, Try.ntmps8
    go_wp2_with fail
    refine (few_any A n c true _ (decide_eq_true h1)).mono ?_
    rintro e w1 ⟨rfl, rfl⟩
    go_wp2_with fail
    refine (awake_any _).mono ?_
    rintro e w7 ⟨rfl, hb7⟩
    go_wp2_with fail
    go_ret
    exact ⟨rfl, hb7⟩
  · have h3 : ¬ (10000 : Int) < (m.length : Int) := by omega
    have C1 := fun w HH => run_any m A n c l w HH (by omega) (by omega) _ rfl
    have C2 := fun w HH => refRun_any m A n c l w HH (by omega) (by omega) _ rfl
    have hlen := runV_len (s := m) l 0
    have hll := rd_wlen h
    generalize runV m l 0 = x at *
    obtain ⟨xs, at_, er⟩ := x
    have H1 := Lib.hid C1
    have H2 := Lib.hid C2
    have HL := Lib.hid hlen
    have HM := Lib.hid hll
    clear C1 C2 hlen hll
    go_enter Try.func8, Try.ntmps8
    go_wp2_with fail
    refine (few_any A n c true _ (decide_eq_true h1)).mono ?_
    rintro e w1 ⟨rfl, rfl⟩
    go_wp2_with fail
    refine (H1.out _ h).mono ?_
    rintro e w1 ⟨A1, n1, c1, rfl, hc1, r1, hb1⟩
    go_wp2_with fail
    refine (H2.out _ ((h.below hb1).more hb1.size)).mono ?_
    rintro e w2 ⟨A2, n2, c2, rfl, hc2, r2, hb2⟩
    have HB := hb1.trans (hb2.mono hb1.size)
    have e1 := rd_glen r1
    have e2 := rd_glen r2
    have C3 := same_any A1 A2 n1 c1 n2 c2 xs xs w2 ((r1.below hb2).more hb2.size) r2 (by have := HL.out; have := HM.out; omega) (by have := HL.out; have := HM.out; omega)
    rw [decide_eq_true (rfl : xs = xs)] at C3
    clear e1 e2 hb1 hb2 r1 r2
    go_wp2_with fail
    refine C3.mono ?_
    clear C3
    rintro e w3 ⟨rfl, nq, rfl⟩
    replace HB := HB.drewN_ nq
    generalize w2.drewN nq = w3 at *
    go_wp2_with fail
    refine (awake_any _).mono ?_
    rintro e w7 ⟨rfl, hb7⟩
    go_wp2_with fail
    go_ret
    exact ⟨rfl, HB.trans (hb7.mono HB.size)⟩
end TakW
end Go.Proofs.Ytjdmbpkabeaccaa
