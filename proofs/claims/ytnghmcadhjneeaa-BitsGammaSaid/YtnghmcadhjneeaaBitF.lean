/- The law of package bits on fields: its walk. -/
import Derived.Test.YtnghmcadhjneeaaBitA
import Derived.Test.YtnghmcadhjneeaaBitC
import Derived.Test.YtnghmcadhjneeaaOpen
import Derived.Test.YtnghmcadhjneeaaSame
import Derived.Test.YtnghmcadhjneeaaOpenI
namespace Go.Proofs.Ytnghmcadhjneeaa
set_option linter.unusedVariables false
set_option linter.unusedSimpArgs false
set_option linter.unnecessarySimpa false
open Go.RowKit Go.ChangeShapes Go.WideShapes Go.Deep
namespace BitW

set_option maxRecDepth 100000 in
theorem open_fields {H : Type} {enc : TypeId × Value → H} {w : World} {base : Nat} {spare : Nat → Bool} {held : Bool} {r : Reach} {b0 : Nat} {v : Value} {d : DataW H} {p : List MemPlace}
    (hv : Value.okWide Try.prog w r b0 32 v) (h : DataW.Trod enc Try.prog w base spare held 32 v d p) :
    ∃ (A : Option Addr) (n c : Nat) (l : List (Int × Int)), v = .slice A n c ∧ n ≤ c ∧ c ≤ maxLen ∧ (∀ x ∈ l, I64 x.1 ∧ I64 x.2) ∧ Rd w w.heap.size 2 A n (fcells l) := by
  obtain ⟨A, n, c, l, hv', h1, h2, _, h4, _, h6⟩ := open_rows Try.underlying32 (by kernel_rfl) (by decide) (fun x : Int × Int => [.int .i64 x.1, .int .i64 x.2]) (fun x => I64 x.1 ∧ I64 x.2)
    (fun n cs y => trod_ii Try.underlying49 (by kernel_rfl) Try.underlying3 Try.underlying3 n cs y) hv h
  exact ⟨A, n, c, l, hv', h1, h2, h4, h6⟩

set_option maxRecDepth 100000 in
set_option maxHeartbeats 4000000 in
theorem fields_law (A : Option Addr) (n c : Nat) (l : List (Int × Int)) (s : ByteArray) (A2 : Option Addr) (n2 c2 : Nat) (ws : List Int) (w : World)
    (h : Rd w w.heap.size 2 A n (fcells l)) (h64 : ∀ x ∈ l, I64 x.1 ∧ I64 x.2) (hn : n ≤ maxLen) (hs : s.size ≤ maxLen) (k : Rd w w.heap.size 1 A2 n2 (ints ws)) (hn2 : n2 ≤ maxLen) :
    Calls Try.prog 4 #[.slice A n c, .string s, .slice A2 n2 c2] w fun e w' => e = .returned (.bool true) ∧ Below w.heap.size w w' := by
  obtain ⟨m, rfl, hm⟩ := str_of s
  rw [← hm] at hs
  clear hm
  unfold maxLen at hs hn hn2
  have hcase : (1000 : Int) < n ∨ (¬ (1000 : Int) < n ∧ (5000 : Int) < m.length) ∨ (¬ (1000 : Int) < n ∧ ¬ (5000 : Int) < m.length ∧ (1000 : Int) < n2) ∨ (¬ (1000 : Int) < n ∧ ¬ (5000 : Int) < m.length ∧ ¬ (1000 : Int) < n2) := by omega
  rcases hcase with h1 | ⟨h1, h2⟩ | ⟨h1, h2, h3⟩ | ⟨h1, h2, h3⟩
  iterate 3
    clear h h64 k
    go_enter Try.func4, Try.ntmps4
    go_wp2_with fail
    refine (awake_any _).mono ?_
    rintro e w7 ⟨rfl, hb7⟩
    go_wp2_with fail
    go_ret
    exact ⟨rfl, hb7⟩
  have C1 := fun w HH => pack_any A n c l w HH h64 (by omega) _ rfl
  have C2 := fun w HH => refPack_any A n c l w HH h64 (by omega) _ rfl
  have C3 := fun w HH => unpack_any m A2 n2 c2 ws w HH (by omega) (by omega) _ rfl
  have C4 := fun w HH => refUnpack_any m A2 n2 c2 ws w HH (by omega) (by omega) _ rfl
  have hlen := unpackF_len (bitsB m) ws 0
  have hwl := rd_len k
  generalize unpackF (bitsB m) ws 0 = x at *
  generalize packV l = y at *
  obtain ⟨xs, at_, er⟩ := x
  obtain ⟨ys, ye⟩ := y
  dsimp only at hlen
  have hxl : xs.length ≤ 1000 := by omega
  have H1 := Lib.hid C1
  have H2 := Lib.hid C2
  have H3 := Lib.hid C3
  have H4 := Lib.hid C4
  clear C1 C2 C3 C4 hlen hwl h64
  go_enter Try.func4, Try.ntmps4
  go_wp2_with fail
  refine (H1.out _ h).mono ?_
  rintro e w1 ⟨rfl, HB⟩
  go_wp2_with fail
  refine (H2.out _ ((h.below HB).more HB.size)).mono ?_
  rintro e w2 ⟨rfl, hb2⟩
  replace HB := HB.trans (hb2.mono HB.size)
  clear hb2
  go_wp2_with fail
  refine (H3.out _ ((k.below HB).more HB.size)).mono ?_
  rintro e w3 ⟨A3, n3, c3, rfl, hc3, r3, hb3⟩
  replace HB := HB.trans (hb3.mono HB.size)
  clear hb3
  go_wp2_with fail
  refine (H4.out _ ((k.below HB).more HB.size)).mono ?_
  rintro e w4 ⟨A4, n4, c4, rfl, hc4, r4, hb4⟩
  replace HB := HB.trans (hb4.mono HB.size)
  replace r3 := (r3.below hb4).more hb4.size
  clear hb4
  have e3 := rd_len r3
  have e4 := rd_len r4
  have C5 := same_any A3 A4 n3 c3 n4 c4 xs xs w4 r3 r4 (by omega) (by omega)
  rw [decide_eq_true (rfl : xs = xs)] at C5
  clear e3 e4 r3 r4
  go_wp2_with fail
  refine C5.mono ?_
  clear C5
  rintro e w5 ⟨rfl, hb5⟩
  replace HB := HB.trans (hb5.mono HB.size)
  go_wp2_with fail
  refine (awake_any _).mono ?_
  rintro e w7 ⟨rfl, hb7⟩
  go_wp2_with fail
  go_ret
  exact ⟨rfl, HB.trans (hb7.mono HB.size)⟩
end BitW
end Go.Proofs.Ytnghmcadhjneeaa
