/- Walks over package take: a taker's own functions; a fault is a panic. -/
import Derived.Test.YtjdmbpkabeaccaaVarU
import Derived.Defers
import Derived.Recover
import Derived.Laws.Pointers
namespace Go.Proofs.Ytjdmbpkabeaccaa
set_option linter.unusedVariables false
set_option linter.unusedSimpArgs false
set_option linter.unnecessarySimpa false
open Go.RowKit
namespace TakW

abbrev flt (e a : Int) : List PanicEntry := [{ v := .iface 115 (.agg #[.int .i64 e, .int .i64 a]), recovered := false }]
abbrev tk (s : List UInt8) (a : Int) : Array Value := #[str s, .int .i64 a]

theorem at_any (g : Nat) (s : List UInt8) (a : Int) (w : World) (h : Blk w g 102 (tk s a)) :
    Calls Try.prog 43 #[.pointer (some ⟨g, 0, none⟩)] w fun e w' => e = .returned (.int .i64 a) ∧ w' = w := by
  obtain ⟨c0, c1, f0, f1, z⟩ := blk2 h
  go_enter Try.func43, Try.ntmps43
  go_wp2_with fail
  go_ret
  exact ⟨rfl, rfl⟩
theorem left_any (g : Nat) (s : List UInt8) (p : Nat) (w : World) (h : Blk w g 102 (tk s p)) (hp : p ≤ s.length) (hs : s.length ≤ 9223372036854775807) :
    Calls Try.prog 44 #[.pointer (some ⟨g, 0, none⟩)] w fun e w' => e = .returned (.int .i64 ((s.length : Int) - p)) ∧ ∃ nq, w' = w.drewN nq := by
  obtain ⟨c0, c1, f0, f1, z⟩ := blk2 h
  have hw : IntKind.i64.wrap ((s.length : Int) - (p : Int)) = (s.length : Int) - (p : Int) := IntWalk.i64_in _ (by omega)
  go_enter Try.func44, Try.ntmps44
  go_wp2_with fail
  go_quiet (fail)
  go_wp2
  go_ret
  exact ⟨rfl, _, rfl⟩
theorem text_any (g : Nat) (s : List UInt8) (a : Int) (w : World) (h : Blk w g 102 (tk s a)) :
    Calls Try.prog 68 #[.pointer (some ⟨g, 0, none⟩)] w fun e w' => e = .returned (str s) ∧ w' = w := by
  obtain ⟨c0, c1, f0, f1, z⟩ := blk2 h
  go_enter Try.func68, Try.ntmps68
  go_wp2_with fail
  go_ret
  exact ⟨rfl, rfl⟩
theorem check_ok (g : Nat) (w : World) :
    Calls Try.prog 69 #[.pointer (some ⟨g, 0, none⟩), .int .i64 0] w fun e w' => e = .returned (.tuple #[]) ∧ w' = w := by
  go_enter Try.func69, Try.ntmps69
  go_wp2_with fail
  go_end0
  exact ⟨rfl, rfl⟩
theorem check_bad (g : Nat) (s : List UInt8) (a er : Int) (w : World) (h : Blk w g 102 (tk s a)) (he : er ≠ 0) :
    Calls Try.prog 69 #[.pointer (some ⟨g, 0, none⟩), .int .i64 er] w fun e w' => e = .panicked (flt er a) ∧ w' = w := by
  have heI : (er != 0) = true := by simp [he]
  clear he
  go_enter Try.func69, Try.ntmps69
  go_wp2_with fail
  refine (at_any g s a w h).mono ?_
  rintro e w' ⟨rfl, rfl⟩
  go_wp2_with fail
  simp [bodyPost]

/-- What a taker's call leaves: the taker at its new place; nothing else that was there has turned. -/
def Left (w w' : World) (g : Nat) (s : List UInt8) (p : Int) : Prop := Blk w' g 102 (tk s p) ∧ w.grownBy w' (some g)
theorem Left.drewN {w : World} {g : Nat} {s : List UInt8} {p : Int} (h : Blk w g 102 (tk s p)) (n : Nat) : Left w (w.drewN n) g s p := ⟨h.drewN n, ⟨rfl, rfl, rfl, Nat.le_refl _, fun _ _ _ => rfl⟩⟩
theorem Left.same {w : World} {g : Nat} {s : List UInt8} {p : Int} (h : Blk w g 102 (tk s p)) : Left w w g s p := ⟨h, World.grownBy.refl w _⟩
theorem Left.trans {w w1 w2 : World} {g : Nat} {s : List UInt8} {p q : Int} (h : Left w w1 g s p) (k : Left w1 w2 g s q) : Left w w2 g s q := ⟨k.1, h.2.trans k.2⟩
theorem ext_str (l : List UInt8) (p q : Nat) : (⟨l.toArray⟩ : ByteArray).extract p q = ⟨((l.drop p).take (q - p)).toArray⟩ := by
  apply ByteArray.ext
  simp

theorem text_neg (g : Nat) (s : List UInt8) (p : Nat) (n : Int) (w : World) (h : Blk w g 102 (tk s p)) (hn : n < 0) :
    Calls Try.prog 40 #[.pointer (some ⟨g, 0, none⟩), .int .i64 n] w fun e w' => e = .panicked (flt 2 p) ∧ Left w w' g s p := by
  go_enter Try.func40, Try.ntmps40
  go_wp2_with fail
  refine (check_bad g s p 2 w h (by omega)).mono ?_
  rintro e w' ⟨rfl, rfl⟩
  go_wp2_with fail
  simp [bodyPost]
  exact Left.same h
set_option maxHeartbeats 1000000 in
theorem text_short (g : Nat) (s : List UInt8) (p : Nat) (n : Int) (w : World) (h : Blk w g 102 (tk s p)) (hp : p ≤ s.length) (hs : s.length ≤ 9223372036854775807) (hn : ¬ n < 0) (hl : (s.length : Int) - p < n) :
    Calls Try.prog 40 #[.pointer (some ⟨g, 0, none⟩), .int .i64 n] w fun e w' => e = .panicked (flt 4 p) ∧ Left w w' g s p := by
  go_enter Try.func40, Try.ntmps40
  go_wp2_with fail
  refine (left_any g s p w h hp hs).mono ?_
  rintro e w' ⟨rfl, nq, rfl⟩
  go_wp2_with fail
  refine (check_bad g s p 4 _ (h.drewN nq) (by omega)).mono ?_
  rintro e w' ⟨rfl, rfl⟩
  go_wp2_with fail
  simp [bodyPost]
  exact Left.drewN h nq
set_option maxHeartbeats 2000000 in
theorem text_yes (g : Nat) (s : List UInt8) (p n : Nat) (w : World) (h : Blk w g 102 (tk s p)) (hp : p + n ≤ s.length) (hs : s.length ≤ 9223372036854775807) :
    Calls Try.prog 40 #[.pointer (some ⟨g, 0, none⟩), .int .i64 n] w fun e w' => e = .returned (str ((s.drop p).take n)) ∧ Left w w' g s ((p : Int) + n) := by
  have hl1 : ¬ (s.length : Int) - (p : Int) < (n : Int) := by omega
  have hn1 : ¬ (n : Int) < 0 := by omega
  rcases Nat.eq_zero_or_pos n with rfl | hn
  · go_enter Try.func40, Try.ntmps40
    go_wp2_with fail
    refine (left_any g s p w h (by omega) hs).mono ?_
    rintro e w' ⟨rfl, nq, rfl⟩
    go_wp2_with fail
    go_ret
    exact ⟨by simp, by simpa using Left.drewN h nq⟩
  · have hnI : ((n : Int) == 0) = false := by rw [beq_eq_false_iff_ne]; omega
    go_enter Try.func40, Try.ntmps40
    go_wp2_with fail
    refine (left_any g s p w h (by omega) hs).mono ?_
    rintro e w' ⟨rfl, nq, rfl⟩
    obtain ⟨c0, c1, f0, f1, z⟩ := blk2 (h.drewN nq)
    go_wp2_with fail
    have h2 : Blk ((w.drewN nq).setCell ⟨g, 1, none⟩ (.int .i64 ((p : Int) + (n : Int)))) g 102 (tk s ((p : Int) + (n : Int))) := (h.drewN nq).set 1 _
    have hg2 : w.grownBy ((w.drewN nq).setCell ⟨g, 1, none⟩ (.int .i64 ((p : Int) + (n : Int)))) (some g) := ⟨rfl, rfl, rfl, by simp [World.setCell], fun k _ hne => Below.heap_setCell _ _ _ k (fun e => hne (by rw [e]))⟩
    generalize (w.drewN nq).setCell ⟨g, 1, none⟩ (.int .i64 ((p : Int) + (n : Int))) = w2 at *
    clear c0 c1 f0 f1 z
    have h2' := h2
    obtain ⟨c0, c1, f0, f1, z⟩ := blk2 h2'
    have hw1 : IntKind.i64.wrap ((p : Int) + (n : Int) - (n : Int)) = (p : Int) := by rw [show (p : Int) + (n : Int) - (n : Int) = (p : Int) from by omega]; exact IntWalk.i64_in _ (by omega)
    have hw2 : (p : Int) + (n : Int) ≤ (s.length : Int) := by omega
    have hp0 : (0 : Int) ≤ (p : Int) := by omega
    have hpn : (p : Int) ≤ (p : Int) + (n : Int) := by omega
    have HX := Lib.hid (ext_str s p (p + n))
    clear h2'
    go_quiet (fail)
    go_wp2
    go_ret
    refine ⟨?_, h2.drewN nq, ⟨hg2.os, hg2.tape, hg2.output, hg2.size, hg2.block⟩⟩
    have e := HX.out
    rw [show p + n - p = n from by omega] at e
    exact congrArg (fun b => Ending.returned (Value.string b)) e

theorem byte_yes (g : Nat) (s : List UInt8) (p : Nat) (w : World) (h : Blk w g 102 (tk s p)) (hp : p < s.length) (hs : s.length ≤ 9223372036854775807) :
    Calls Try.prog 37 #[.pointer (some ⟨g, 0, none⟩)] w fun e w' => e = .returned (.int .i64 (s[p].toNat : Int)) ∧ Left w w' g s ((p : Int) + 1) := by
  have he : (s.drop p).take 1 = [s[p]] := by rw [List.drop_eq_getElem_cons hp]; rfl
  have C := text_yes g s p 1 w h (by omega) hs
  rw [he] at C
  generalize s[p] = b at *
  have hb := b.toNat_lt
  go_enter Try.func37, Try.ntmps37
  go_wp2_with fail
  refine C.mono ?_
  clear C
  rintro e w' ⟨rfl, hL⟩
  go_wp2_with fail
  go_ret
  refine ⟨?_, hL⟩
  show Ending.returned (.int .i64 (wrap64 (b.toNat : Int))) = _
  rw [show wrap64 (b.toNat : Int) = (b.toNat : Int) from by unfold wrap64; omega]
theorem byte_short (g : Nat) (s : List UInt8) (p : Nat) (w : World) (h : Blk w g 102 (tk s p)) (hp : p ≤ s.length) (hl : s.length ≤ p) (hs : s.length ≤ 9223372036854775807) :
    Calls Try.prog 37 #[.pointer (some ⟨g, 0, none⟩)] w fun e w' => e = .panicked (flt 4 p) ∧ Left w w' g s p := by
  go_enter Try.func37, Try.ntmps37
  go_wp2_with fail
  refine (text_short g s p 1 w h hp hs (by omega) (by omega)).mono ?_
  rintro e w' ⟨rfl, hL⟩
  go_wp2_with fail
  simp [bodyPost]
  exact hL
theorem num_yes (g : Nat) (s : List UInt8) (p : Nat) (x : Int × Int × Int) (w : World) (h : Blk w g 102 (tk s p)) (hx : getV s p = x) (h0 : x.2.2 = 0) (hs : s.length ≤ 9223372036854775807) :
    Calls Try.prog 38 #[.pointer (some ⟨g, 0, none⟩)] w fun e w' => e = .returned (.int .i64 x.1) ∧ Left w w' g s x.2.1 := by
  obtain ⟨c0, c1, f0, f1, z⟩ := blk2 h
  have C := VarW.get_any s p w hs x hx
  obtain ⟨v, to, er⟩ := x
  dsimp only at h0
  subst h0
  clear hx
  go_enter Try.func38, Try.ntmps38
  go_wp2_with fail
  refine (text_any g s p w h).mono ?_
  rintro e w1 ⟨rfl, rfl⟩
  go_wp2_with fail
  refine (at_any g s p _ h).mono ?_
  rintro e w1 ⟨rfl, rfl⟩
  go_wp2_with fail
  refine C.mono ?_
  clear C
  rintro e w1 ⟨rfl, rfl⟩
  go_wp2_with fail
  refine (check_ok g _).mono ?_
  rintro e w1 ⟨rfl, rfl⟩
  go_wp2_with fail
  go_ret
  exact ⟨rfl, h.set 1 _, ⟨rfl, rfl, rfl, by simp [World.setCell], fun k _ hne => Below.heap_setCell _ _ _ k (fun e => hne (by rw [e]))⟩⟩
theorem num_bad (g : Nat) (s : List UInt8) (p : Nat) (x : Int × Int × Int) (w : World) (h : Blk w g 102 (tk s p)) (hx : getV s p = x) (h0 : x.2.2 ≠ 0) (hs : s.length ≤ 9223372036854775807) :
    Calls Try.prog 38 #[.pointer (some ⟨g, 0, none⟩)] w fun e w' => e = .panicked (flt x.2.2 p) ∧ Left w w' g s p := by
  have C := VarW.get_any s p w hs x hx
  obtain ⟨v, to, er⟩ := x
  dsimp only at h0
  clear hx
  go_enter Try.func38, Try.ntmps38
  go_wp2_with fail
  refine (text_any g s p w h).mono ?_
  rintro e w1 ⟨rfl, rfl⟩
  go_wp2_with fail
  refine (at_any g s p _ h).mono ?_
  rintro e w1 ⟨rfl, rfl⟩
  go_wp2_with fail
  refine C.mono ?_
  clear C
  rintro e w1 ⟨rfl, rfl⟩
  go_wp2_with fail
  refine (check_bad g s p er _ h h0).mono ?_
  rintro e w1 ⟨rfl, rfl⟩
  go_wp2_with fail
  simp [bodyPost]
  exact Left.same h
theorem fix_yes (g : Nat) (s : List UInt8) (p : Nat) (width : Int) (x : Int × Int × Int) (w : World) (h : Blk w g 102 (tk s p)) (hx : unfixV s p width = x) (h0 : x.2.2 = 0) (hs : s.length ≤ 9223372036854775807) :
    Calls Try.prog 39 #[.pointer (some ⟨g, 0, none⟩), .int .i64 width] w fun e w' => e = .returned (.int .i64 x.1) ∧ Left w w' g s x.2.1 := by
  obtain ⟨c0, c1, f0, f1, z⟩ := blk2 h
  have C := VarW.unfix_any s p width w hs x hx
  obtain ⟨v, to, er⟩ := x
  dsimp only at h0
  subst h0
  clear hx
  go_enter Try.func39, Try.ntmps39
  go_wp2_with fail
  refine (text_any g s p w h).mono ?_
  rintro e w1 ⟨rfl, rfl⟩
  go_wp2_with fail
  refine (at_any g s p _ h).mono ?_
  rintro e w1 ⟨rfl, rfl⟩
  go_wp2_with fail
  refine C.mono ?_
  clear C
  rintro e w1 ⟨rfl, rfl⟩
  go_wp2_with fail
  refine (check_ok g _).mono ?_
  rintro e w1 ⟨rfl, rfl⟩
  go_wp2_with fail
  go_ret
  exact ⟨rfl, h.set 1 _, ⟨rfl, rfl, rfl, by simp [World.setCell], fun k _ hne => Below.heap_setCell _ _ _ k (fun e => hne (by rw [e]))⟩⟩
theorem fix_bad (g : Nat) (s : List UInt8) (p : Nat) (width : Int) (x : Int × Int × Int) (w : World) (h : Blk w g 102 (tk s p)) (hx : unfixV s p width = x) (h0 : x.2.2 ≠ 0) (hs : s.length ≤ 9223372036854775807) :
    Calls Try.prog 39 #[.pointer (some ⟨g, 0, none⟩), .int .i64 width] w fun e w' => e = .panicked (flt x.2.2 p) ∧ Left w w' g s p := by
  have C := VarW.unfix_any s p width w hs x hx
  obtain ⟨v, to, er⟩ := x
  dsimp only at h0
  clear hx
  go_enter Try.func39, Try.ntmps39
  go_wp2_with fail
  refine (text_any g s p w h).mono ?_
  rintro e w1 ⟨rfl, rfl⟩
  go_wp2_with fail
  refine (at_any g s p _ h).mono ?_
  rintro e w1 ⟨rfl, rfl⟩
  go_wp2_with fail
  refine C.mono ?_
  clear C
  rintro e w1 ⟨rfl, rfl⟩
  go_wp2_with fail
  refine (check_bad g s p er _ h h0).mono ?_
  rintro e w1 ⟨rfl, rfl⟩
  go_wp2_with fail
  simp [bodyPost]
  exact Left.same h
theorem rest_any (g : Nat) (s : List UInt8) (p : Nat) (w : World) (h : Blk w g 102 (tk s p)) (hp : p ≤ s.length) (hs : s.length ≤ 9223372036854775807) :
    Calls Try.prog 41 #[.pointer (some ⟨g, 0, none⟩)] w fun e w' => e = .returned (str (s.drop p)) ∧ Left w w' g s (s.length : Nat) := by
  go_enter Try.func41, Try.ntmps41
  go_wp2_with fail
  refine (left_any g s p w h hp hs).mono ?_
  rintro e w1 ⟨rfl, nq, rfl⟩
  go_wp2_with fail
  rw [show (s.length : Int) - (p : Int) = ((s.length - p : Nat) : Int) from by omega]
  have C := text_yes g s p (s.length - p) _ (h.drewN nq) (by omega) hs
  rw [List.take_of_length_le (by simp), show (p : Int) + ((s.length - p : Nat) : Int) = (s.length : Int) from by omega] at C
  refine C.mono ?_
  clear C
  rintro e w2 ⟨rfl, hL⟩
  go_wp2_with fail
  go_ret
  exact ⟨rfl, (Left.drewN h nq).trans hL⟩
theorem end_yes (g : Nat) (s : List UInt8) (p : Nat) (w : World) (h : Blk w g 102 (tk s p)) (hp : p ≤ s.length) (hl : s.length ≤ p) (hs : s.length ≤ 9223372036854775807) :
    Calls Try.prog 42 #[.pointer (some ⟨g, 0, none⟩)] w fun e w' => e = .returned (.tuple #[]) ∧ Left w w' g s p := by
  have h0 : ¬ (0 : Int) < (s.length : Int) - (p : Int) := by omega
  go_enter Try.func42, Try.ntmps42
  go_wp2_with fail
  refine (left_any g s p w h hp hs).mono ?_
  rintro e w1 ⟨rfl, nq, rfl⟩
  go_wp2_with fail
  go_end0
  exact ⟨rfl, Left.drewN h nq⟩
theorem end_bad (g : Nat) (s : List UInt8) (p : Nat) (w : World) (h : Blk w g 102 (tk s p)) (hp : p < s.length) (hs : s.length ≤ 9223372036854775807) :
    Calls Try.prog 42 #[.pointer (some ⟨g, 0, none⟩)] w fun e w' => e = .panicked (flt 6 p) ∧ Left w w' g s p := by
  have h0 : (0 : Int) < (s.length : Int) - (p : Int) := by omega
  go_enter Try.func42, Try.ntmps42
  go_wp2_with fail
  refine (left_any g s p w h (by omega) hs).mono ?_
  rintro e w1 ⟨rfl, nq, rfl⟩
  go_wp2_with fail
  refine (check_bad g s p 6 _ (h.drewN nq) (by omega)).mono ?_
  rintro e w1 ⟨rfl, rfl⟩
  go_wp2_with fail
  simp [bodyPost]
  exact Left.drewN h nq
end TakW
end Go.Proofs.Ytjdmbpkabeaccaa
