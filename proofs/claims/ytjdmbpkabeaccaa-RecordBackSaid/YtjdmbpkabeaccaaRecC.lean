/- The law of package record on rows: its walk. -/
import Derived.Test.YtjdmbpkabeaccaaRecA
import Derived.Test.YtjdmbpkabeaccaaOpenR
namespace Go.Proofs.Ytjdmbpkabeaccaa
set_option linter.unusedVariables false
set_option linter.unusedSimpArgs false
set_option linter.unnecessarySimpa false
open Go.RowKit Go.ChangeShapes Go.WideShapes Go.Deep
namespace RecW

set_option maxRecDepth 100000 in
theorem open_recs {H : Type} {enc : TypeId × Value → H} {w : World} {base : Nat} {spare : Nat → Bool} {held : Bool} {r : Reach} {b0 : Nat} {v : Value} {d : DataW H} {p : List MemPlace}
    (hv : Value.okWide Try.prog w r b0 74 v) (h : DataW.Trod enc Try.prog w base spare held 74 v d p) :
    ∃ (A : Option Addr) (n c : Nat) (l : List Rc), v = .slice A n c ∧ n ≤ c ∧ c ≤ maxLen ∧ (∀ x ∈ l, RcOk x) ∧ Rd w w.heap.size 3 A n (rcells l) := by
  obtain ⟨A, n, c, l, hv', h1, h2, _, h4, _, h6⟩ := open_rows Try.underlying74 (by kernel_rfl) (by decide) rcell RcOk
    (fun n cs y hh hl => trod_iis Try.underlying72 (by kernel_rfl) Try.underlying3 Try.underlying3 Try.underlying9 n cs y hh hl) hv h
  exact ⟨A, n, c, l, hv', h1, h2, h4, h6⟩
theorem few_len {l : List Rc} (h : fewB l = true) : l.length ≤ 200 := by
  unfold fewB at h
  simp at h
  exact h.1

/-- A length of a row that was split. -/
theorem splitF_len (s : List UInt8) (f : Nat) : ∀ (a : Nat), ((splitF s f a).1.length : Int) + a ≤ s.length ∨ (splitF s f a).1 = [] := by
  induction f with
  | zero => intro a; exact .inr rfl
  | succ f ih =>
    intro a
    rw [splitF]
    split
    · split
      · rename_i h1 h2
        obtain ⟨h3, h4, h5, _⟩ := getR_ok h2
        obtain ⟨to, hto⟩ := Int.eq_ofNat_of_zero_le (show 0 ≤ (getR s a).2.1 by omega)
        rw [hto] at h4 h5 ⊢
        left
        rcases ih to with h | h
        · simp only [List.length_cons]; omega
        · rw [h]; simp only [List.length_cons, List.length_nil]; omega
      · exact .inr rfl
    · exact .inr rfl
theorem splitV_len (s : List UInt8) : (splitV s).1.length ≤ s.length := by
  unfold splitV
  split
  · simp
  · have h := splitF_len s (s.length + 1) 0
    rw [show ((0 : Nat) : Int) = 0 from rfl] at h
    unfold splitR
    split
    · split
      · dsimp only
        rcases h with h | h
        · omega
        · rw [h]; simp
      · simp
    · simp

set_option maxRecDepth 100000 in
set_option maxHeartbeats 4000000 in
theorem row_law (A : Option Addr) (n c : Nat) (l : List Rc) (s : ByteArray) (w : World) (h : Rd w w.heap.size 3 A n (rcells l)) (hok : ∀ x ∈ l, RcOk x) (hn : n ≤ maxLen) (hs : s.size ≤ maxLen) :
    Calls Try.prog 13 #[.slice A n c, .string s] w fun e w' => e = .returned (.bool true) ∧ Below w.heap.size w w' := by
  obtain ⟨m, rfl, hml⟩ := str_of s
  rw [← hml] at hs
  clear hml
  unfold maxLen at hs hn
  have CF := fun v hv => few_any A n c l v hv w h (by omega) (fun r hr => by have := (hok r hr).2.2; unfold maxLen at this; omega)
  have HF := Lib.hid CF
  have hl := rd_rlen h
  clear CF hok
  by_cases hf : fewB l = true
  · have hlen := few_len hf
    have CC := HF.out true hf
    by_cases hm : 25000 < m.length
    · have hmI : (25000 : Int) < (m.length : Int) := by omega
      clear hl hf HF
      go_enter Try.func13, Try.ntmps13
      go_wp2_with fail
      refine CC.mono ?_
      rintro e w1 ⟨rfl, hb1⟩
      go_wp2_with fail
      refine (awake_any _).mono ?_
      rintro e w2 ⟨rfl, hb2⟩
      go_wp2_with fail
      go_ret
      exact ⟨rfl, hb1.trans (hb2.mono hb1.size)⟩
    · have hmI : ¬ (25000 : Int) < (m.length : Int) := by omega
      have C1 := fun w HH => join_any A n c l w HH (by omega) _ rfl
      have C2 := fun w HH => refJoin_any A n c l w HH (by omega) _ rfl
      have C3 := fun w => split_any m w (by omega) _ rfl
      have C4 := fun w => refSplit_any m w (by omega) _ rfl
      have C5 := fun w HH => row_any A n c l w HH (by omega)
      have C6 := fun w HH => refRow_any A n c l w HH (by omega)
      have hsl := splitV_len m
      generalize joinV l = x at *
      generalize splitV m = y at *
      generalize rowN l = rv at *
      obtain ⟨ys, ye⟩ := y
      have H1 := Lib.hid C1
      have H2 := Lib.hid C2
      have H3 := Lib.hid C3
      have H4 := Lib.hid C4
      have H5 := Lib.hid C5
      have H6 := Lib.hid C6
      dsimp only at hsl
      clear C1 C2 C3 C4 C5 C6 hl hf HF
      go_enter Try.func13, Try.ntmps13
      go_wp2_with fail
      refine CC.mono ?_
      rintro e w1 ⟨rfl, HB⟩
      clear CC
      go_wp2_with fail
      refine (H1.out _ ((h.below HB).more HB.size)).mono ?_
      rintro e w2 ⟨rfl, hb2⟩
      replace HB := HB.trans (hb2.mono HB.size)
      clear hb2
      go_wp2_with fail
      refine (H2.out _ ((h.below HB).more HB.size)).mono ?_
      rintro e w3 ⟨rfl, hb3⟩
      replace HB := HB.trans (hb3.mono HB.size)
      clear hb3
      go_wp2_with fail
      refine (H3.out _).mono ?_
      rintro e w4 ⟨A4, n4, c4, rfl, hc4, r4, hb4⟩
      replace HB := HB.trans (hb4.mono HB.size)
      clear hb4
      have l4 := rd_rlen r4
      have l4' : n4 ≤ 25000 := by omega
      clear l4
      go_wp2_with fail
      refine (H4.out _).mono ?_
      rintro e w5 ⟨A5, n5, c5, rfl, hc5, r5, hb5⟩
      replace HB := HB.trans (hb5.mono HB.size)
      replace r4 := (r4.below hb5).more hb5.size
      have l5 := rd_rlen r5
      have l5' : n5 ≤ 25000 := by omega
      clear l5 hb5
      go_wp2_with fail
      refine (H5.out _ ((h.below HB).more HB.size)).mono ?_
      rintro e w6 ⟨rfl, hb6⟩
      replace HB := HB.trans (hb6.mono HB.size)
      replace r4 := (r4.below hb6).more hb6.size
      replace r5 := (r5.below hb6).more hb6.size
      clear hb6
      go_wp2_with fail
      refine (H6.out _ ((h.below HB).more HB.size)).mono ?_
      rintro e w7 ⟨rfl, hb7⟩
      replace HB := HB.trans (hb7.mono HB.size)
      replace r4 := (r4.below hb7).more hb7.size
      replace r5 := (r5.below hb7).more hb7.size
      clear hb7
      have C9 := sameR_any A4 A5 n4 c4 n5 c5 ys ys _ r4 r5 (by omega) (by omega)
      rw [decide_eq_true (rfl : ys = ys)] at C9
      go_wp2_with fail
      refine C9.mono ?_
      clear C9
      rintro e w8 ⟨rfl, hb8⟩
      replace HB := HB.trans (hb8.mono HB.size)
      clear hb8
      go_wp2_with fail
      refine (awake_any _).mono ?_
      rintro e w9 ⟨rfl, hb9⟩
      go_wp2_with fail
      go_ret
      exact ⟨rfl, HB.trans (hb9.mono HB.size)⟩
  · have CC := HF.out false (by simpa using hf)
    clear hf hl HF
    go_enter Try.func13, Try.ntmps13
    go_wp2_with fail
    refine CC.mono ?_
    rintro e w1 ⟨rfl, hb1⟩
    go_wp2_with fail
    refine (awake_any _).mono ?_
    rintro e w2 ⟨rfl, hb2⟩
    go_wp2_with fail
    go_ret
    exact ⟨rfl, hb1.trans (hb2.mono hb1.size)⟩
end RecW
end Go.Proofs.Ytjdmbpkabeaccaa
