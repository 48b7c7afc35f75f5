/- Walks over package bits: what a writer's calls give. -/
import Derived.Test.YtedoeplhjmkllaaBitW
import Derived.Test.YtedoeplhjmkllaaShelf
import Derived.Test.YtedoeplhjmkllaaBitQ
namespace Go.Proofs.Ytedoeplhjmkllaa
set_option linter.unusedVariables false
set_option linter.unusedSimpArgs false
set_option linter.unnecessarySimpa false
open Go.RowKit
namespace BitW

theorem fitsB_yes {n w : Int} (h : fitsB n w = true) : ∃ x k : Nat, n = x ∧ w = k ∧ k ≤ 32 ∧ x < 2 ^ k := by
  simp only [fitsB, Bool.and_eq_true, decide_eq_true_eq] at h
  obtain ⟨⟨⟨h1, h2⟩, h3⟩, h4⟩ := h
  obtain ⟨x, rfl⟩ := Int.eq_ofNat_of_zero_le h3
  obtain ⟨k, rfl⟩ := Int.eq_ofNat_of_zero_le h1
  refine ⟨x, k, rfl, rfl, by omega, ?_⟩
  rw [Int.toNat_natCast] at h4
  have e : (2 : Int) ^ k = ((2 ^ k : Nat) : Int) := by push_cast; rfl
  rw [e] at h4
  omega
theorem fits_no {n w : Int} (h : fitsB n w = false) : w < 0 ∨ (0 ≤ w ∧ 32 < w) ∨ (0 ≤ w ∧ w ≤ 32 ∧ n < 0) ∨ ∃ x k : Nat, n = x ∧ w = k ∧ k ≤ 32 ∧ 2 ^ k ≤ x := by
  by_cases h1 : w < 0
  · exact .inl h1
  by_cases h2 : 32 < w
  · exact .inr (.inl ⟨by omega, h2⟩)
  by_cases h3 : n < 0
  · exact .inr (.inr (.inl ⟨by omega, by omega, h3⟩))
  obtain ⟨x, rfl⟩ := Int.eq_ofNat_of_zero_le (show 0 ≤ n by omega)
  obtain ⟨k, rfl⟩ := Int.eq_ofNat_of_zero_le (show 0 ≤ w by omega)
  refine .inr (.inr (.inr ⟨x, k, rfl, rfl, by omega, ?_⟩))
  have e : (2 : Int) ^ k = ((2 ^ k : Nat) : Int) := by push_cast; rfl
  have h5 : ¬ ((x : Int) < 2 ^ (k : Int).toNat) := by
    intro h6
    have h7 : fitsB (x : Int) (k : Int) = true := by
      simp only [fitsB, Bool.and_eq_true, decide_eq_true_eq]
      exact ⟨⟨⟨by omega, by omega⟩, by omega⟩, h6⟩
    rw [h7] at h
    cases h
  rw [Int.toNat_natCast, e] at h5
  omega

set_option maxHeartbeats 1000000 in
theorem fits_any (n w : Int) (b : Bool) (hb : fitsB n w = b) (W : World) (hn : I64 n) :
    Calls Try.prog 50 #[.int .i64 n, .int .i64 w] W fun e w' => e = .returned (.bool b) ∧ W = w' := by
  cases b with
  | true =>
    obtain ⟨x, k, rfl, rfl, hk, hx⟩ := fitsB_yes hb
    obtain ⟨q1, q2⟩ := hn
    have hz : ((x : Int) / 2 ^ k == 0) = true := by
      have e : (2 : Int) ^ k = ((2 ^ k : Nat) : Int) := by push_cast; rfl
      rw [e, beq_iff_eq]
      exact_mod_cast Nat.div_eq_of_lt hx
    clear hb hx
    go_enter Try.func50, Try.ntmps50
    go_wp2_with fail
    go_ret
    exact ⟨rfl, rfl⟩
  | false =>
    rcases fits_no hb with h | ⟨h, h2⟩ | ⟨h, h2, h3⟩ | ⟨x, k, rfl, rfl, hk, hx⟩
    · clear hb
      go_enter Try.func50, Try.ntmps50
      go_wp2_with fail
      go_ret
      exact ⟨rfl, rfl⟩
    · clear hb
      go_enter Try.func50, Try.ntmps50
      go_wp2_with fail
      go_ret
      exact ⟨rfl, rfl⟩
    · clear hb
      go_enter Try.func50, Try.ntmps50
      go_wp2_with fail
      go_ret
      exact ⟨rfl, rfl⟩
    · obtain ⟨q1, q2⟩ := hn
      have hz : ((x : Int) / 2 ^ k == 0) = false := by
        have e : (2 : Int) ^ k = ((2 ^ k : Nat) : Int) := by push_cast; rfl
        rw [e, beq_eq_false_iff_ne]
        have : 0 < x / 2 ^ k := Nat.div_pos hx (Nat.pow_pos (by omega))
        intro h
        have h2 : ((x / 2 ^ k : Nat) : Int) = 0 := by rw [← h]; push_cast; rfl
        omega
      clear hb hx
      go_enter Try.func50, Try.ntmps50
      go_wp2_with fail
      go_ret
      exact ⟨rfl, rfl⟩
/-- What a call adds. -/
structure Puts (w w' : World) (base g : Nat) (ab : Option Nat) (l : List Nat) (ab' : Option Nat) : Prop where
  wr : Wr w' base g ab' l
  fresh : Fresh w ab ab'
  frame : Wfr w w' g ab

theorem Put_no (base g : Nat) (n width : Int) (w : World) (hf : fitsB n width = false) (hn : I64 n) :
    Calls Try.prog 32 #[.pointer (some ⟨g, 0, none⟩), .int .i64 n, .int .i64 width] w fun e w' => e = .returned (.int .i64 2) ∧ w = w' := by
  have C := fits_any n width false hf w hn
  clear hf hn
  go_enter Try.func32, Try.ntmps32
  go_wp2_with fail
  refine C.mono ?_
  rintro e w1 ⟨rfl, rfl⟩
  go_wp2_with fail
  go_ret
  exact ⟨rfl, rfl⟩
theorem Put_yes (base g : Nat) (ab : Option Nat) (l : List Nat) (n width : Int) (w : World) (hf : fitsB n width = true) (hn : I64 n) (h : Wr w base g ab l) (hl : l.length ≤ 1000000) (hbs : base ≤ w.heap.size) :
    Calls Try.prog 32 #[.pointer (some ⟨g, 0, none⟩), .int .i64 n, .int .i64 width] w fun e w' => e = .returned (.int .i64 0) ∧ ∃ ab', Puts w w' base g ab (l ++ dg width.toNat n.toNat) ab' := by
  have C := fits_any n width true hf w hn
  obtain ⟨x, k, rfl, rfl, hk, hx⟩ := fitsB_yes hf
  have C2 := put_any base g ab l x k w h hx hk hl hbs
  clear hf hn
  go_enter Try.func32, Try.ntmps32
  go_wp2_with fail
  refine C.mono ?_
  rintro e w1 ⟨rfl, rfl⟩
  go_wp2_with fail
  refine C2.mono ?_
  rintro e w2 ⟨rfl, ab', h1, h2, h3⟩
  go_wp2_with fail
  go_ret
  exact ⟨rfl, ab', ⟨h1, h2, h3⟩⟩

/-- How many bits a number has. -/
def blen (x : Nat) : Nat := Lib.bitLen x
theorem bitLenAux_le (f : Nat) : ∀ x k, x < 2 ^ k → Lib.bitLenAux f x ≤ k := by
  induction f with
  | zero => intro x k _; exact Nat.zero_le _
  | succ f ih =>
    intro x k h
    unfold Lib.bitLenAux
    split
    · omega
    · cases k with
      | zero => simp at h; omega
      | succ k => have := ih (x / 2) k (by rw [Nat.pow_succ] at h; omega); omega
theorem bitLenAux_lt (f : Nat) : ∀ x, x < 2 ^ f → x < 2 ^ Lib.bitLenAux f x := by
  induction f with
  | zero => intro x h; exact h
  | succ f ih =>
    intro x h
    unfold Lib.bitLenAux
    split
    · omega
    · have := ih (x / 2) (by rw [Nat.pow_succ] at h; omega)
      rw [Nat.add_comm, Nat.pow_succ]
      omega
theorem bitLenAux_ge (f : Nat) : ∀ x, x < 2 ^ f → 0 < x → 0 < Lib.bitLenAux f x ∧ 2 ^ (Lib.bitLenAux f x - 1) ≤ x := by
  induction f with
  | zero => intro x h h0; simp at h; omega
  | succ f ih =>
    intro x h h0
    unfold Lib.bitLenAux
    rw [if_neg (by omega)]
    refine ⟨by omega, ?_⟩
    rw [show 1 + Lib.bitLenAux f (x / 2) - 1 = Lib.bitLenAux f (x / 2) from by omega]
    by_cases h2 : x / 2 = 0
    · rw [h2]
      have : Lib.bitLenAux f 0 = 0 := by cases f <;> simp [Lib.bitLenAux]
      rw [this]
      omega
    · obtain ⟨h3, h4⟩ := ih (x / 2) (by rw [Nat.pow_succ] at h; omega) (by omega)
      have : 2 ^ Lib.bitLenAux f (x / 2) = 2 * 2 ^ (Lib.bitLenAux f (x / 2) - 1) := by
        rw [← Nat.pow_succ', show (Lib.bitLenAux f (x / 2) - 1).succ = Lib.bitLenAux f (x / 2) from by omega]
      omega
theorem blen_facts {x : Nat} (h0 : 0 < x) (h : x < 2 ^ 32) : 1 ≤ blen x ∧ blen x ≤ 32 ∧ x < 2 ^ blen x ∧ 2 ^ (blen x - 1) ≤ x := by
  have h64 : x < 2 ^ 64 := Nat.lt_trans h (by decide)
  have h1 := bitLenAux_ge 64 x h64 h0
  exact ⟨h1.1, bitLenAux_le 64 x 32 h, bitLenAux_lt 64 x h64, h1.2⟩
def gam (x : Nat) : List Nat := dg (blen x - 1) 0 ++ dg (blen x) x
def gamB (n : Int) : Bool := decide (1 ≤ n) && fitsB n 32

theorem Gamma_no (g : Nat) (n : Int) (w : World) (hf : gamB n = false) (hn : I64 n) :
    Calls Try.prog 54 #[.pointer (some ⟨g, 0, none⟩), .int .i64 n] w fun e w' => e = .returned (.int .i64 2) ∧ w = w' := by
  by_cases h1 : n < 1
  · clear hf
    go_enter Try.func54, Try.ntmps54
    go_wp2_with fail
    go_ret
    exact ⟨rfl, rfl⟩
  · have hf2 : fitsB n 32 = false := by simpa [gamB, show 1 ≤ n from by omega] using hf
    have C := fits_any n 32 false hf2 w hn
    clear hf hf2 hn
    go_enter Try.func54, Try.ntmps54
    go_wp2_with fail
    refine C.mono ?_
    rintro e w1 ⟨rfl, rfl⟩
    go_wp2_with fail
    go_ret
    exact ⟨rfl, rfl⟩
theorem Puts.trans {w w1 w2 : World} {base g : Nat} {ab ab1 ab2 : Option Nat} {l l2 : List Nat} (h : Puts w w1 base g ab l ab1) (k : Puts w1 w2 base g ab1 l2 ab2) : Puts w w2 base g ab l2 ab2 :=
  ⟨k.wr, h.fresh.trans k.fresh h.frame.size, h.frame.trans k.frame h.fresh⟩
set_option maxHeartbeats 1000000 in
theorem Gamma_yes (base g : Nat) (ab : Option Nat) (l : List Nat) (n : Int) (w : World) (hf : gamB n = true) (hn : I64 n) (h : Wr w base g ab l) (hl : l.length ≤ 900000) (hbs : base ≤ w.heap.size) :
    Calls Try.prog 54 #[.pointer (some ⟨g, 0, none⟩), .int .i64 n] w fun e w' => e = .returned (.int .i64 0) ∧ ∃ ab', Puts w w' base g ab (l ++ gam n.toNat) ab' := by
  have hg : 1 ≤ n ∧ fitsB n 32 = true := by simpa [gamB] using hf
  have C := fits_any n 32 true hg.2 w hn
  obtain ⟨x, k, rfl, hk', _, hx⟩ := fitsB_yes hg.2
  obtain rfl : 32 = k := by omega
  have h1 : ¬ (x : Int) < 1 := by omega
  obtain ⟨b1, b2, b3, b4⟩ := blen_facts (x := x) (by omega) hx
  have hx' : x < 4294967296 := hx
  have C2 := Try.bits_Len x w (by omega) (by omega)
  rw [Int.toNat_natCast] at C2
  have hu : IntKind.u64.wrap (x : Int) = (x : Int) := u64_in _ (by omega) (by omega)
  have C3 := put_any base g ab l 0 (blen x - 1) w h (Nat.pow_pos (by omega)) (by omega) (by omega) hbs
  have hgam : l ++ gam (x : Int).toNat = l ++ dg (blen x - 1) 0 ++ dg (blen x) x := by rw [Int.toNat_natCast, gam, List.append_assoc]
  have HG := Lib.hid hgam
  have hlen : (l ++ dg (blen x - 1) 0).length ≤ 1000000 := by rw [List.length_append, dg_len]; omega
  have hw : IntKind.i64.wrap ((blen x : Int) - 1) = ((blen x - 1 : Nat) : Int) := by rw [IntWalk.i64_in _ (by omega)]; omega
  have hw2 : (blen x : Int) - 1 = ((blen x - 1 : Nat) : Int) := by omega
  have HW := Lib.hid hw
  have HW2 := Lib.hid hw2
  change Calls Try.prog _ _ _ fun e w' => e = .returned (.int .i64 (blen x : Nat)) ∧ w' = w at C2
  generalize blen x = b at *
  clear hf hg hgam hx hw hw2 hk'
  go_enter Try.func54, Try.ntmps54
  go_wp2_with fail
  refine C.mono ?_
  rintro e w1 ⟨rfl, rfl⟩
  go_wp2_with fail
  refine C2.mono ?_
  rintro e w1 ⟨rfl, rfl⟩
  go_wp2_with fail
  rw [HW2.out]
  refine C3.mono ?_
  rintro e w2 ⟨rfl, ab2, k1, k2, k3⟩
  go_wp2_with fail
  refine (put_any base g ab2 _ x b w2 k1 b3 (by omega) hlen (by have := k3.size; omega)).mono ?_
  rintro e w3 ⟨rfl, ab3, m1, m2, m3⟩
  go_wp2_with fail
  go_ret
  refine ⟨rfl, ab3, ?_⟩
  rw [HG.out]
  exact (Puts.mk k1 k2 k3).trans ⟨m1, m2, m3⟩
end BitW
end Go.Proofs.Ytedoeplhjmkllaa
