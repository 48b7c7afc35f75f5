/- The walk of the law of package want: some answers that the document fixes. -/
import Derived.Test.YtjcbaaabbdcdnaaDoorWanT
namespace Go.Proofs.YtjcbaaabbdcdnaaDoor
set_option linter.unusedVariables false
set_option linter.unusedSimpArgs false
set_option linter.unnecessarySimpa false
open Go.RowKit
namespace WanW
open SkpW (Qy qv qc chkQ)

/-- A number's digits, by steps that are counted. -/
def decF : Nat → Nat → List UInt8
  | 0, n => [UInt8.ofNat (48 + n)]
  | k + 1, n => if n < 10 then [UInt8.ofNat (48 + n)] else decF k (n / 10) ++ [UInt8.ofNat (48 + n % 10)]
theorem decF_eq : ∀ (k n : Nat), n < 10 ^ (k + 1) → decL n = decF k n := by
  intro k
  induction k with
  | zero => intro n h; rw [decL, dif_pos (by simpa using h)]; rfl
  | succ k ih =>
    intro n h
    rw [decL, decF]
    by_cases h10 : n < 10
    · rw [dif_pos h10, if_pos h10]
    · rw [dif_neg h10, if_neg h10, ih (n / 10) (by rw [Nat.pow_succ] at h; omega)]
def txA : List UInt8 := [115, 101, 113, 61, 49, 45, 57, 32, 32, 108, 105, 109, 105, 116, 61, 53, 32, 102, 105, 110, 100, 61, 54, 49, 54, 50]
def qA : Qy := { s1 := 1, s2 := 9, t1 := 0, t2 := 1000000001, find := [97, 98], limit := 5, frm := 0 }
def txS : List UInt8 := [115, 101, 113, 61, 49, 45, 57, 32, 116, 105, 99, 107, 61, 48, 45, 49, 48, 48, 48, 48, 48, 48, 48, 48, 49, 32, 102, 105, 110, 100, 61, 54, 49, 54, 50, 32, 108, 105, 109, 105, 116, 61, 53, 32, 102, 114, 111, 109, 61, 48]
theorem parseA : parseV txA = (qA, 26, 0) := by kernel_rfl
theorem parseB : parseV [115, 101, 113, 61, 49, 45, 57, 32, 115, 101, 113, 61, 49, 45, 57] = (zeroQ, 8, 380) := by kernel_rfl
theorem parseC : parseV [108, 105, 109, 105, 116, 61, 48] = (zeroQ, 7, 320) := by kernel_rfl
theorem numA : numV [49, 48, 48, 48, 48, 48, 48, 48, 48, 49] = (1000000001, true) := by decide +kernel
theorem unhexA : unhexV [54, 97] = ([106], true) := by decide +kernel
theorem hexA : hexL [106] = [54, 97] := by decide +kernel
theorem showA : showV qA = (txS, 0) := by
  rw [show_yes qA (by decide +kernel)]
  unfold showL rngL
  rw [decF_eq 9 _ (by decide +kernel), decF_eq 9 _ (by decide +kernel), decF_eq 9 _ (by decide +kernel), decF_eq 9 _ (by decide +kernel), decF_eq 9 _ (by decide +kernel), decF_eq 9 _ (by decide +kernel)]
  decide +kernel
set_option maxRecDepth 100000 in
set_option maxHeartbeats 8000000 in
theorem awake_any (w : World) (h : Wo w) : Calls Tryd.prog 7 #[] w fun e w' => e = .returned (.bool true) ∧ Below w.heap.size w w' := by
  have HP1 := Lib.hid (fun w h => parse_any txA w h (by decide) qA 26 0 parseA)
  have HP2 := Lib.hid (fun w h => parse_any _ w h (by decide) zeroQ 8 380 parseB)
  have HP3 := Lib.hid (fun w h => parse_any _ w h (by decide) zeroQ 7 320 parseC)
  have HS := Lib.hid (fun w h => show_any qA w h txS 0 showA)
  have HN := Lib.hid (fun w => number_any _ w 1000000001 true numA (by decide))
  have HU := Lib.hid (fun w => unhex_any _ w [106] true unhexA (by decide))
  have HH := Lib.hid (fun w => hex_any [106] w (by decide))
  have B0 := Below.refl w.heap.size w
  go_enter Tryd.func7, Tryd.ntmps7
  go_wp2_with fail
  refine (HP1.out _ h).mono ?_
  rintro e w1 ⟨rfl, b1⟩
  have B1 := B0.trans b1
  have z1 := B1.size
  have B2 := B1.alloc z1 (.cells (qc qA) 26)
  have G2 := Blk.new w1 26 (qc qA)
  obtain ⟨gA, hgA⟩ : ∃ g, w1.heap.size = g := ⟨_, rfl⟩
  obtain ⟨w2, hw2⟩ : ∃ w2, w1.alloc (.cells (qc qA) 26) = w2 := ⟨_, rfl⟩
  have W2 := h.below B2
  rw [hw2] at B2 G2 W2
  rw [hgA] at G2
  have z2 := B2.size
  obtain ⟨x0, x1, x2, x3, x4, x5, x6⟩ := SkpW.blk7 G2
  go_wp2_with fail
  refine (HS.out _ W2).mono ?_
  rintro e w3 ⟨rfl, b3⟩
  clear hw2 hgA x0 x1 x2 x3 x4 x5 x6
  have G3 := G2.below b3 G2.lt
  have B3 := B2.trans (b3.mono z2)
  have W3 := h.below B3
  have z3 := B3.size
  clear G2 B2 W2 z2 b3 b1 B1 z1
  go_wp2_with fail
  refine (HP2.out _ W3).mono ?_
  rintro e w4 ⟨rfl, b4⟩
  have B4 := B3.trans (b4.mono z3)
  have z4 := B4.size
  have G4 := G3.below b4 G3.lt
  have B5 := B4.alloc z4 (.cells (qc zeroQ) 26)
  have G5 := G4.alloc (.cells (qc zeroQ) 26)
  obtain ⟨gB, hgB⟩ : ∃ g, w4.heap.size = g := ⟨_, rfl⟩
  obtain ⟨w5, hw5⟩ : ∃ w5, w4.alloc (.cells (qc zeroQ) 26) = w5 := ⟨_, rfl⟩
  have W5 := h.below B5
  rw [hw5] at B5 G5 W5
  have z5 := B5.size
  go_wp2_with fail
  refine (HP3.out _ W5).mono ?_
  rintro e w6 ⟨rfl, b6⟩
  clear hw5 hgB
  have B6 := B5.trans (b6.mono z5)
  have z6 := B6.size
  have G6 := G5.below b6 G5.lt
  have B7 := B6.alloc z6 (.cells (qc zeroQ) 26)
  have G7 := G6.alloc (.cells (qc zeroQ) 26)
  obtain ⟨gC, hgC⟩ : ∃ g, w6.heap.size = g := ⟨_, rfl⟩
  obtain ⟨w7, hw7⟩ : ∃ w7, w6.alloc (.cells (qc zeroQ) 26) = w7 := ⟨_, rfl⟩
  have W7 := h.below B7
  rw [hw7] at B7 G7 W7
  have z7 := B7.size
  go_wp2_with fail
  refine (HN.out _).mono ?_
  rintro e w8 ⟨rfl, b8⟩
  clear hw7 hgC G3 G4 G5 G6 B3 B4 B5 B6 b4 b6 z3 z4 z5 z6 W3 W5
  have B8 := B7.trans (b8.mono z7)
  have z8 := B8.size
  have G8 := G7.below b8 G7.lt
  go_wp2_with fail
  refine (HU.out _).mono ?_
  rintro e w9 ⟨rfl, b9⟩
  have B9 := B8.trans (b9.mono z8)
  have z9 := B9.size
  have G9 := G8.below b9 G8.lt
  clear G7 G8 B7 B8 b8 b9 W7
  obtain ⟨x0, x1, x2, x3, x4, x5, x6⟩ := SkpW.blk7 G9
  go_wp2_with fail
  refine (HH.out _).mono ?_
  rintro e w10 ⟨rfl, b10⟩
  have B10 := B9.trans (b10.mono z9)
  rw [hexA]
  go_wp2_with fail
  go_ret
  exact ⟨rfl, B10⟩
end WanW
end Go.Proofs.YtjcbaaabbdcdnaaDoor
