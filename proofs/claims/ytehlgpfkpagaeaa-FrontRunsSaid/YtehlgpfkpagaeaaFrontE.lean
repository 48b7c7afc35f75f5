/- The law of package front on the row: its walk. -/
import Derived.Test.YtehlgpfkpagaeaaFrontM
import Derived.Test.YtehlgpfkpagaeaaFrontD
namespace Go.Proofs.Ytehlgpfkpagaeaa
set_option linter.unusedVariables false
set_option linter.unusedSimpArgs false
set_option linter.unnecessarySimpa false
open Go.RowKit Go.ChangeShapes Go.WideShapes
namespace FrontW

/-- 256 marks: which bytes stand in a list. -/
def seenB (x : List UInt8) : Array Value := (init.map fun b => Value.bool (decide (b ∈ x))).toArray
theorem init_get (b : UInt8) : init[b.toNat]? = some b := by
  have := b.toNat_lt
  simp [init, this]
theorem seen_cell {w : World} {g t : Nat} {x : List UInt8} (h : Blk w g t (seenB x)) (b : UInt8) : w.cell? ⟨g, b.toNat, none⟩ = some (.bool (decide (b ∈ x))) := by
  rw [h.cell]
  simp [seenB, init_get]
theorem seen_set (x : List UInt8) (b : UInt8) : (seenB x).setIfInBounds b.toNat (.bool true) = seenB (b :: x) := by
  apply Array.toList_inj.1
  simp only [seenB, Array.toList_setIfInBounds]
  refine List.ext_getElem (by simp) fun i h1 h2 => ?_
  have hi : i < 256 := by simpa [init] using h2
  rw [List.getElem_set]
  by_cases h : b.toNat = i
  · subst h
    simp [init]
  · rw [if_neg h]
    have hne : UInt8.ofNat i ≠ b := fun e => h (by rw [← e]; simp; omega)
    simp [init, hne]

set_option maxRecDepth 100000 in
set_option maxHeartbeats 4000000 in
theorem rowlaw (s : List UInt8) (w : World) (hs : s.length ≤ maxLen) :
    Calls Try.prog 10 #[str s] w fun e w' => e = .returned (.bool true) ∧ Below w.heap.size w w' := by
  unfold maxLen at hs
  by_cases h1 : (2000 : Int) < (s.length : Int)
  · go_enter Try.func10, Try.ntmps10
    go_wp2_with fail
    refine (awake_any _).mono ?_
    rintro e w1 ⟨rfl, hb1⟩
    go_wp2
    go_ret
    exact ⟨rfl, hb1⟩
  · have hz : Try.zeroCells47 = seenB [] := by kernel_rfl
    have HZ := Lib.hid hz
    have hle := dd_le s
    obtain ⟨r, hr, hat, hre, hso, hrl⟩ : ∃ r : List UInt8, (runR s).1 = r ∧ (∀ m (hm : m < s.length), s[m] ∉ s.drop (m + 1) → r[(dd (s.drop (m + 1)).reverse).length]? = some s[m]) ∧
        (∀ i, (dd s.reverse).length ≤ i → ∀ h : i < r.length, r[i] ∉ s) ∧ (∀ i, (dd s.reverse).length ≤ i → ∀ h : i + 1 < r.length, r[i].toNat < r[i + 1].toNat) ∧ r.length = 256 :=
      ⟨_, rfl, row_at s, row_rest s, row_sort s, row_len s⟩
    have HR := Lib.hid hr
    have HAT := Lib.hid hat
    have HRE := Lib.hid hre
    have HSO := Lib.hid hso
    clear hz hr hat hre hso
    go_enter Try.func10, Try.ntmps10
    go_wp2_with fail
    refine (row_any s _ (by omega)).mono ?_
    rintro e w1 ⟨rfl, hb1⟩
    rw [HR.out]
    go_wp2_with fail
    go_loopw [5, 6] (fun a i wr => ∃ j : Nat, j ≤ s.length ∧ i = .int .i64 ((j : Int) - 1) ∧ a = .int .i64 ((dd (s.drop j).reverse).length : Nat) ∧ Blk wr w1.heap.size 47 (seenB (s.drop j)) ∧ Below w.heap.size w wr)
      (fun _ i _ => (intOf i + 1).toNat)
    case atStart =>
      refine ⟨s.length, by omega, by go_num, by rw [List.drop_length]; rfl, ?_, hb1.alloc hb1.size _⟩
      rw [List.drop_length, ← HZ.out]; exact Blk.new _ _ _
    case round =>
      obtain ⟨j, hj, rfl, rfl, hB, hbw⟩ := hrel
      cases j with
      | zero =>
        rw [show (((0 : Nat) : Int) - 1) = -1 from rfl, List.drop_zero]
        rw [List.drop_zero] at hB
        generalize (dd s.reverse).length = p at *
        go_wp2_with fail
        go_loopw [7] (fun i wr => ∃ k : Nat, p ≤ k ∧ k ≤ 256 ∧ i = .int .i64 k ∧ Blk wr w1.heap.size 47 (seenB s) ∧ Below w.heap.size w wr) (fun i _ => 256 - (intOf i).toNat)
        case atStart => exact ⟨p, Nat.le_refl _, hle, rfl, hB, hbw⟩
        case round =>
          obtain ⟨k, hpk, hk, rfl, hBx, hbx⟩ := hrel
          by_cases hlt : k < 256
          · have hkr : k < r.length := by omega
            have hk1 : (k : Int) < 256 := by omega
            have hk0 : (0 : Int) ≤ (k : Int) := by omega
            have hkl : (k : Int) < (r.length : Int) := by omega
            obtain ⟨c, hc, hc'⟩ : ∃ c, (⟨r.toArray⟩ : ByteArray)[k]'(by show k < r.toArray.size; simpa using hkr) = c ∧ r[k] = c := ⟨_, rfl, rfl⟩
            have hcs : c ∉ s := by rw [← hc']; exact HRE.out k hpk hkr
            have d0 : wr.cell? ⟨w1.heap.size, c.toNat, none⟩ = some (.bool false) := (seen_cell hBx c).trans (by rw [decide_eq_false hcs])
            have hc256 : (c.toNat : Int) < 256 := by have := c.toNat_lt; omega
            have hc0 : (0 : Int) ≤ (c.toNat : Int) := by omega
            have HC' := Lib.hid hc'
            clear hc' hcs
            by_cases hkp : p < k
            · obtain ⟨l, rfl⟩ : ∃ l, k = l + 1 := ⟨k - 1, by omega⟩
              have hlr : l < r.length := by omega
              obtain ⟨d, hd, hd'⟩ : ∃ d, (⟨r.toArray⟩ : ByteArray)[l]'(by show l < r.toArray.size; simpa using hlr) = d ∧ r[l] = d := ⟨_, rfl, rfl⟩
              have hpl : p ≤ l := by omega
              have hss : d.toNat < c.toNat := by rw [← hd', ← HC'.out]; exact HSO.out l hpl hkr
              generalize hkk : l + 1 = k at *
              have hg : decide ((p : Int) < (k : Int)) = true := by simp; omega
              have hdc : decide ((c.toNat : Int) ≤ (d.toNat : Int)) = false := by simp; omega
              have hw1 : IntKind.i64.wrap ((k : Int) - 1) = (l : Int) := by rw [show (k : Int) - 1 = (l : Int) by omega]; exact IntWalk.i64_in _ (by omega)
              have hl0 : (0 : Int) ≤ (l : Int) := by omega
              have hli : (l : Int) < 256 := by omega
              have hpk' : p ≤ k := by omega
              have HK := Lib.hid hkk
              have hno : ¬ c.toNat ≤ d.toNat := by omega
              have hnd : decide (c.toNat ≤ d.toNat) = false := decide_eq_false hno
              clear hd' hss hkk
              go_wp2_with fail
              refine wp_region_held_drew (S := (fun w' => w'.cell? ⟨w1.heap.size, c.toNat, none⟩ = some (.bool false) ∧ Blk w' w1.heap.size 47 (seenB s) ∧ Below w.heap.size w w')) (by kernel_rfl) ?_ (fun hHeld => ?_)
              · (try dsimp only); (first | exact ⟨d0, hBx.drew, hbx.drew⟩ | exact ⟨d0, hBx, hbx⟩)
              refine take_move 0 (Operand.tmp 3) rfl rfl (by first | exact .inl rfl | exact .inr rfl) rfl (by kernel_rfl) (by kernel_rfl) (by kernel_rfl) (fun _ _ _ h => h) (by assumption) ?_
              simp only [List.setIfInBounds_toArray, List.set_cons_zero, List.set_cons_succ]
              refine take_move 1 (Operand.tmp 7) rfl rfl (by first | exact .inl rfl | exact .inr rfl) rfl (by kernel_rfl) (by kernel_rfl) (by kernel_rfl) (fun _ _ _ h => h) (by assumption) ?_
              simp only [List.setIfInBounds_toArray, List.set_cons_zero, List.set_cons_succ]
              refine take_op (v := ?vu9x2) 2 (Op.index 9 (Operand.tmp 48) (Operand.tmp 49)) 5 rfl rfl rfl rfl rfl (by kernel_rfl) (by kernel_rfl) (by kernel_rfl) (fun _ _ _ h => h) ?yu9x2 (by assumption) ?ru9x2
              case yu9x2 => (intro w' hSw; (try dsimp only at hSw); go_simp; try (with_reducible rfl))
              simp only [List.setIfInBounds_toArray, List.set_cons_zero, List.set_cons_succ]
              refine take_op (v := ?vu9x3) 3 (Op.indexAddr 47 (Operand.tmp 4) (Operand.tmp 50)) 0 rfl rfl rfl rfl rfl (by kernel_rfl) (by kernel_rfl) (by kernel_rfl) (fun _ _ _ h => h) ?yu9x3 (by assumption) ?ru9x3
              case yu9x3 => (intro w' hSw; (try dsimp only at hSw); go_simp; try (with_reducible rfl))
              simp only [List.setIfInBounds_toArray, List.set_cons_zero, List.set_cons_succ]
              refine take_op (v := ?vu9x4) 4 (Op.load 4 (Operand.tmp 51)) 4 rfl rfl rfl rfl rfl (by kernel_rfl) (by kernel_rfl) (by kernel_rfl) (fun _ _ _ h => h) ?yu9x4 (by assumption) ?ru9x4
              case yu9x4 => (intro w' hSw; (try dsimp only at hSw); go_simp; try (with_reducible rfl))
              simp only [List.setIfInBounds_toArray, List.set_cons_zero, List.set_cons_succ]
              refine take_move 5 (Operand.tmp 52) rfl rfl (by first | exact .inl rfl | exact .inr rfl) rfl (by kernel_rfl) (by kernel_rfl) (by kernel_rfl) (fun _ _ _ h => h) (by assumption) ?_
              simp only [List.setIfInBounds_toArray, List.set_cons_zero, List.set_cons_succ]
              refine take_move 6 (Operand.tmp 7) rfl rfl (by first | exact .inl rfl | exact .inr rfl) rfl (by kernel_rfl) (by kernel_rfl) (by kernel_rfl) (fun _ _ _ h => h) (by assumption) ?_
              simp only [List.setIfInBounds_toArray, List.set_cons_zero, List.set_cons_succ]
              refine take_move 7 (Operand.tmp 5) rfl rfl (by first | exact .inl rfl | exact .inr rfl) rfl (by kernel_rfl) (by kernel_rfl) (by kernel_rfl) (fun _ _ _ h => h) (by assumption) ?_
              simp only [List.setIfInBounds_toArray, List.set_cons_zero, List.set_cons_succ]
              refine take_op (v := ?vu9x8) 8 (Op.binOp BinOp.gtr 3 (Operand.tmp 54) (Operand.tmp 55) 3) 4 rfl rfl rfl rfl rfl (by kernel_rfl) (by kernel_rfl) (by kernel_rfl) (fun _ _ _ h => h) ?yu9x8 (by assumption) ?ru9x8
              case yu9x8 => (intro w' hSw; (try dsimp only at hSw); go_simp; try (with_reducible rfl))
              simp only [List.setIfInBounds_toArray, List.set_cons_zero, List.set_cons_succ]
              refine take_move 9 (Operand.tmp 56) rfl rfl (by first | exact .inl rfl | exact .inr rfl) rfl (by kernel_rfl) (by kernel_rfl) (by kernel_rfl) (fun _ _ _ h => h) (by assumption) ?_
              simp only [List.setIfInBounds_toArray, List.set_cons_zero, List.set_cons_succ]
              refine take_move 10 (Operand.tmp 3) rfl rfl (by first | exact .inl rfl | exact .inr rfl) rfl (by kernel_rfl) (by kernel_rfl) (by kernel_rfl) (fun _ _ _ h => h) (by assumption) ?_
              simp only [List.setIfInBounds_toArray, List.set_cons_zero, List.set_cons_succ]
              refine take_move 11 (Operand.tmp 7) rfl rfl (by first | exact .inl rfl | exact .inr rfl) rfl (by kernel_rfl) (by kernel_rfl) (by kernel_rfl) (fun _ _ _ h => h) (by assumption) ?_
              simp only [List.setIfInBounds_toArray, List.set_cons_zero, List.set_cons_succ]
              refine take_op (v := ?vu9x12) 12 (Op.binOp BinOp.sub 3 (Operand.tmp 59) (Operand.const (Value.int IntKind.i64 1)) 3) 3 rfl rfl rfl rfl rfl (by kernel_rfl) (by kernel_rfl) (by kernel_rfl) (fun _ _ _ h => h) ?yu9x12 (by assumption) ?ru9x12
              case yu9x12 => (intro w' hSw; (try dsimp only at hSw); go_simp; try (with_reducible rfl))
              simp only [List.setIfInBounds_toArray, List.set_cons_zero, List.set_cons_succ]
              refine take_op (v := ?vu9x13) 13 (Op.index 9 (Operand.tmp 58) (Operand.tmp 60)) 5 rfl rfl rfl rfl rfl (by kernel_rfl) (by kernel_rfl) (by kernel_rfl) (fun _ _ _ h => h) ?yu9x13 (by assumption) ?ru9x13
              case yu9x13 => (intro w' hSw; (try dsimp only at hSw); go_simp; try (with_reducible rfl))
              simp only [List.setIfInBounds_toArray, List.set_cons_zero, List.set_cons_succ]
              refine take_move 14 (Operand.tmp 3) rfl rfl (by first | exact .inl rfl | exact .inr rfl) rfl (by kernel_rfl) (by kernel_rfl) (by kernel_rfl) (fun _ _ _ h => h) (by assumption) ?_
              simp only [List.setIfInBounds_toArray, List.set_cons_zero, List.set_cons_succ]
              refine take_move 15 (Operand.tmp 7) rfl rfl (by first | exact .inl rfl | exact .inr rfl) rfl (by kernel_rfl) (by kernel_rfl) (by kernel_rfl) (fun _ _ _ h => h) (by assumption) ?_
              simp only [List.setIfInBounds_toArray, List.set_cons_zero, List.set_cons_succ]
              refine take_op (v := ?vu9x16) 16 (Op.index 9 (Operand.tmp 62) (Operand.tmp 63)) 5 rfl rfl rfl rfl rfl (by kernel_rfl) (by kernel_rfl) (by kernel_rfl) (fun _ _ _ h => h) ?yu9x16 (by assumption) ?ru9x16
              case yu9x16 => (intro w' hSw; (try dsimp only at hSw); go_simp; try (with_reducible rfl))
              simp only [List.setIfInBounds_toArray, List.set_cons_zero, List.set_cons_succ]
              refine take_op (v := ?vu9x17) 17 (Op.binOp BinOp.geq 5 (Operand.tmp 61) (Operand.tmp 64) 5) 4 rfl rfl rfl rfl rfl (by kernel_rfl) (by kernel_rfl) (by kernel_rfl) (fun _ _ _ h => h) ?yu9x17 (by assumption) ?ru9x17
              case yu9x17 => (intro w' hSw; (try dsimp only at hSw); go_simp; try (with_reducible rfl))
              simp only [List.setIfInBounds_toArray, List.set_cons_zero, List.set_cons_succ]
              refine take_op (v := ?vu9x18) 18 (Op.pick (Operand.tmp 57) (Operand.tmp 65) (Operand.const (Value.bool false))) 4 rfl rfl rfl rfl rfl (by kernel_rfl) (by kernel_rfl) (by kernel_rfl) (fun _ _ _ h => h) ?yu9x18 (by assumption) ?ru9x18
              case yu9x18 => (intro w' hSw; (try dsimp only at hSw); go_simp; try (with_reducible rfl))
              simp only [List.setIfInBounds_toArray, List.set_cons_zero, List.set_cons_succ]
              refine take_op (v := ?vu9x19) 19 (Op.pick (Operand.tmp 53) (Operand.const (Value.bool true)) (Operand.tmp 66)) 4 rfl rfl rfl rfl rfl (by kernel_rfl) (by kernel_rfl) (by kernel_rfl) (fun _ _ _ h => h) ?yu9x19 (by assumption) ?ru9x19
              case yu9x19 => (intro w' hSw; (try dsimp only at hSw); go_simp; try (with_reducible rfl))
              simp only [List.setIfInBounds_toArray, List.set_cons_zero, List.set_cons_succ]
              refine wpAnyH_done (by kernel_rfl) ?_ _
              go_wp2
              go_roundw
              case rel => exact ⟨k + 1, by omega, by omega, by go_num, hHeld.2.1, hHeld.2.2⟩
              case measure => first | (simp [intOf]; done) | (simp [intOf]; omega)
            · have hg : decide ((p : Int) < (k : Int)) = false := by simp; omega
              go_wp2_with fail
              refine wp_region_held_drew (S := (fun w' => w'.cell? ⟨w1.heap.size, c.toNat, none⟩ = some (.bool false) ∧ Blk w' w1.heap.size 47 (seenB s) ∧ Below w.heap.size w w')) (by kernel_rfl) ?_ (fun hHeld => ?_)
              · (try dsimp only); (first | exact ⟨d0, hBx.drew, hbx.drew⟩ | exact ⟨d0, hBx, hbx⟩)
              refine take_move 0 (Operand.tmp 3) rfl rfl (by first | exact .inl rfl | exact .inr rfl) rfl (by kernel_rfl) (by kernel_rfl) (by kernel_rfl) (fun _ _ _ h => h) (by assumption) ?_
              simp only [List.setIfInBounds_toArray, List.set_cons_zero, List.set_cons_succ]
              refine take_move 1 (Operand.tmp 7) rfl rfl (by first | exact .inl rfl | exact .inr rfl) rfl (by kernel_rfl) (by kernel_rfl) (by kernel_rfl) (fun _ _ _ h => h) (by assumption) ?_
              simp only [List.setIfInBounds_toArray, List.set_cons_zero, List.set_cons_succ]
              refine take_op (v := ?vu10x2) 2 (Op.index 9 (Operand.tmp 48) (Operand.tmp 49)) 5 rfl rfl rfl rfl rfl (by kernel_rfl) (by kernel_rfl) (by kernel_rfl) (fun _ _ _ h => h) ?yu10x2 (by assumption) ?ru10x2
              case yu10x2 => (intro w' hSw; (try dsimp only at hSw); go_simp; try (with_reducible rfl))
              simp only [List.setIfInBounds_toArray, List.set_cons_zero, List.set_cons_succ]
              refine take_op (v := ?vu10x3) 3 (Op.indexAddr 47 (Operand.tmp 4) (Operand.tmp 50)) 0 rfl rfl rfl rfl rfl (by kernel_rfl) (by kernel_rfl) (by kernel_rfl) (fun _ _ _ h => h) ?yu10x3 (by assumption) ?ru10x3
              case yu10x3 => (intro w' hSw; (try dsimp only at hSw); go_simp; try (with_reducible rfl))
              simp only [List.setIfInBounds_toArray, List.set_cons_zero, List.set_cons_succ]
              refine take_op (v := ?vu10x4) 4 (Op.load 4 (Operand.tmp 51)) 4 rfl rfl rfl rfl rfl (by kernel_rfl) (by kernel_rfl) (by kernel_rfl) (fun _ _ _ h => h) ?yu10x4 (by assumption) ?ru10x4
              case yu10x4 => (intro w' hSw; (try dsimp only at hSw); go_simp; try (with_reducible rfl))
              simp only [List.setIfInBounds_toArray, List.set_cons_zero, List.set_cons_succ]
              refine take_move 5 (Operand.tmp 52) rfl rfl (by first | exact .inl rfl | exact .inr rfl) rfl (by kernel_rfl) (by kernel_rfl) (by kernel_rfl) (fun _ _ _ h => h) (by assumption) ?_
              simp only [List.setIfInBounds_toArray, List.set_cons_zero, List.set_cons_succ]
              refine take_move 6 (Operand.tmp 7) rfl rfl (by first | exact .inl rfl | exact .inr rfl) rfl (by kernel_rfl) (by kernel_rfl) (by kernel_rfl) (fun _ _ _ h => h) (by assumption) ?_
              simp only [List.setIfInBounds_toArray, List.set_cons_zero, List.set_cons_succ]
              refine take_move 7 (Operand.tmp 5) rfl rfl (by first | exact .inl rfl | exact .inr rfl) rfl (by kernel_rfl) (by kernel_rfl) (by kernel_rfl) (fun _ _ _ h => h) (by assumption) ?_
              simp only [List.setIfInBounds_toArray, List.set_cons_zero, List.set_cons_succ]
              refine take_op (v := ?vu10x8) 8 (Op.binOp BinOp.gtr 3 (Operand.tmp 54) (Operand.tmp 55) 3) 4 rfl rfl rfl rfl rfl (by kernel_rfl) (by kernel_rfl) (by kernel_rfl) (fun _ _ _ h => h) ?yu10x8 (by assumption) ?ru10x8
              case yu10x8 => (intro w' hSw; (try dsimp only at hSw); go_simp; try (with_reducible rfl))
              simp only [List.setIfInBounds_toArray, List.set_cons_zero, List.set_cons_succ]
              refine take_move 9 (Operand.tmp 56) rfl rfl (by first | exact .inl rfl | exact .inr rfl) rfl (by kernel_rfl) (by kernel_rfl) (by kernel_rfl) (fun _ _ _ h => h) (by assumption) ?_
              simp only [List.setIfInBounds_toArray, List.set_cons_zero, List.set_cons_succ]
              refine take_skip 10 rfl rfl rfl (by kernel_rfl) (by kernel_rfl) (by kernel_rfl) (fun _ _ _ h => h) (by assumption) ?_
              simp only [List.setIfInBounds_toArray, List.set_cons_zero, List.set_cons_succ]
              refine take_skip 11 rfl rfl rfl (by kernel_rfl) (by kernel_rfl) (by kernel_rfl) (fun _ _ _ h => h) (by assumption) ?_
              simp only [List.setIfInBounds_toArray, List.set_cons_zero, List.set_cons_succ]
              refine take_skip 12 rfl rfl rfl (by kernel_rfl) (by kernel_rfl) (by kernel_rfl) (fun _ _ _ h => h) (by assumption) ?_
              simp only [List.setIfInBounds_toArray, List.set_cons_zero, List.set_cons_succ]
              refine take_skip 13 rfl rfl rfl (by kernel_rfl) (by kernel_rfl) (by kernel_rfl) (fun _ _ _ h => h) (by assumption) ?_
              simp only [List.setIfInBounds_toArray, List.set_cons_zero, List.set_cons_succ]
              refine take_skip 14 rfl rfl rfl (by kernel_rfl) (by kernel_rfl) (by kernel_rfl) (fun _ _ _ h => h) (by assumption) ?_
              simp only [List.setIfInBounds_toArray, List.set_cons_zero, List.set_cons_succ]
              refine take_skip 15 rfl rfl rfl (by kernel_rfl) (by kernel_rfl) (by kernel_rfl) (fun _ _ _ h => h) (by assumption) ?_
              simp only [List.setIfInBounds_toArray, List.set_cons_zero, List.set_cons_succ]
              refine take_skip 16 rfl rfl rfl (by kernel_rfl) (by kernel_rfl) (by kernel_rfl) (fun _ _ _ h => h) (by assumption) ?_
              simp only [List.setIfInBounds_toArray, List.set_cons_zero, List.set_cons_succ]
              refine take_skip 17 rfl rfl rfl (by kernel_rfl) (by kernel_rfl) (by kernel_rfl) (fun _ _ _ h => h) (by assumption) ?_
              simp only [List.setIfInBounds_toArray, List.set_cons_zero, List.set_cons_succ]
              refine take_op (v := ?vu10x18) 18 (Op.pick (Operand.tmp 57) (Operand.tmp 65) (Operand.const (Value.bool false))) 4 rfl rfl rfl rfl rfl (by kernel_rfl) (by kernel_rfl) (by kernel_rfl) (fun _ _ _ h => h) ?yu10x18 (by assumption) ?ru10x18
              case yu10x18 => (intro w' hSw; (try dsimp only at hSw); go_simp; try (with_reducible rfl))
              simp only [List.setIfInBounds_toArray, List.set_cons_zero, List.set_cons_succ]
              refine take_op (v := ?vu10x19) 19 (Op.pick (Operand.tmp 53) (Operand.const (Value.bool true)) (Operand.tmp 66)) 4 rfl rfl rfl rfl rfl (by kernel_rfl) (by kernel_rfl) (by kernel_rfl) (fun _ _ _ h => h) ?yu10x19 (by assumption) ?ru10x19
              case yu10x19 => (intro w' hSw; (try dsimp only at hSw); go_simp; try (with_reducible rfl))
              simp only [List.setIfInBounds_toArray, List.set_cons_zero, List.set_cons_succ]
              refine wpAnyH_done (by kernel_rfl) ?_ _
              go_wp2
              go_roundw
              case rel => exact ⟨k + 1, by omega, by omega, by go_num, hHeld.2.1, hHeld.2.2⟩
              case measure => first | (simp [intOf]; done) | (simp [intOf]; omega)
          · have hd : decide ((k : Int) < 256) = false := by simp; omega
            clear hlt
            go_wp2_with fail
            refine (awake_any _).mono ?_
            rintro e w9 ⟨rfl, hb9⟩
            go_wp2
            go_ret
            exact ⟨rfl, hbx.trans (hb9.mono hbx.size)⟩
      | succ m =>
        have hm : m < s.length := by omega
        have hm0 : (0 : Int) ≤ (m : Int) := by omega
        have hmi : (m : Int) < (s.length : Int) := by omega
        have hrl' : (r.length : Int) = 256 := by omega
        obtain ⟨b, hb, hb'⟩ : ∃ b, (⟨s.toArray⟩ : ByteArray)[m]'(by show m < s.toArray.size; simpa using hm) = b ∧ s[m] = b := ⟨_, rfl, rfl⟩
        have hdr : s.drop m = b :: s.drop (m + 1) := by rw [← hb']; exact List.drop_eq_getElem_cons hm
        have hb256 : (b.toNat : Int) < 256 := by have := b.toNat_lt; omega
        have hb0 : (0 : Int) ≤ (b.toNat : Int) := by omega
        have hin := dd_in s m hm
        have hout := dd_out s m hm
        have hqq := HAT.out m hm
        rw [hb'] at hin hout hqq
        rw [show (((m + 1 : Nat) : Int) - 1) = (m : Int) by omega]
        have d0 := seen_cell hB b
        have f0 := hB.frozen b.toNat
        have HD := Lib.hid hdr
        have HIN := Lib.hid hin
        have HOUT := Lib.hid hout
        clear hdr hb' hin hout
        generalize hx : s.drop (m + 1) = x at *
        clear hx
        by_cases hbx : b ∈ x
        · rw [decide_eq_true hbx] at d0
          have hlen : (dd (s.drop m).reverse).length = (dd x.reverse).length := by rw [HIN.out hbx]
          have HL := Lib.hid hlen
          clear hqq hlen
          go_wp2
          go_roundw
          case rel => exact ⟨m, by omega, by go_num, by rw [HL.out], blk_eq (hB.set _ _) (by rw [HD.out]; exact seen_set x b), hbw.setCell hb1.size _⟩
          case measure => first | (simp [intOf]; done) | (simp [intOf]; omega)
        · rw [decide_eq_false hbx] at d0
          have hlen : (dd (s.drop m).reverse).length = (dd x.reverse).length + 1 := by rw [HOUT.out hbx]; simp
          have HL := Lib.hid hlen
          obtain ⟨hq1, hq2⟩ := List.getElem?_eq_some_iff.1 (hqq hbx)
          clear hqq hlen
          generalize (dd x.reverse).length = q at *
          have hq3 : (⟨r.toArray⟩ : ByteArray)[q]'(by show q < r.toArray.size; simpa using hq1) = b := hq2
          have hqi : (q : Int) < 256 := by omega
          have hq0 : (0 : Int) ≤ (q : Int) := by omega
          clear hq2
          go_wp2_with fail
          refine wp_region_held_drew (S := (fun w' => Blk w' w1.heap.size 47 (seenB x) ∧ Below w.heap.size w w')) (by kernel_rfl) ?_ (fun hHeld => ?_)
          · (try dsimp only); (first | exact ⟨hB.drew, hbw.drew⟩ | exact ⟨hB, hbw⟩)
          refine take_move 0 (Operand.tmp 3) rfl rfl (by first | exact .inl rfl | exact .inr rfl) rfl (by kernel_rfl) (by kernel_rfl) (by kernel_rfl) (fun _ _ _ h => h) (by assumption) ?_
          simp only [List.setIfInBounds_toArray, List.set_cons_zero, List.set_cons_succ]
          refine take_move 1 (Operand.tmp 5) rfl rfl (by first | exact .inl rfl | exact .inr rfl) rfl (by kernel_rfl) (by kernel_rfl) (by kernel_rfl) (fun _ _ _ h => h) (by assumption) ?_
          simp only [List.setIfInBounds_toArray, List.set_cons_zero, List.set_cons_succ]
          refine take_op (v := ?vu11x2) 2 (Op.index 9 (Operand.tmp 30) (Operand.tmp 31)) 5 rfl rfl rfl rfl rfl (by kernel_rfl) (by kernel_rfl) (by kernel_rfl) (fun _ _ _ h => h) ?yu11x2 (by assumption) ?ru11x2
          case yu11x2 => (intro w' hSw; (try dsimp only at hSw); go_simp; try (with_reducible rfl))
          simp only [List.setIfInBounds_toArray, List.set_cons_zero, List.set_cons_succ]
          refine take_move 3 (Operand.tmp 0) rfl rfl (by first | exact .inl rfl | exact .inr rfl) rfl (by kernel_rfl) (by kernel_rfl) (by kernel_rfl) (fun _ _ _ h => h) (by assumption) ?_
          simp only [List.setIfInBounds_toArray, List.set_cons_zero, List.set_cons_succ]
          refine take_move 4 (Operand.tmp 6) rfl rfl (by first | exact .inl rfl | exact .inr rfl) rfl (by kernel_rfl) (by kernel_rfl) (by kernel_rfl) (fun _ _ _ h => h) (by assumption) ?_
          simp only [List.setIfInBounds_toArray, List.set_cons_zero, List.set_cons_succ]
          refine take_op (v := ?vu11x5) 5 (Op.index 9 (Operand.tmp 33) (Operand.tmp 34)) 5 rfl rfl rfl rfl rfl (by kernel_rfl) (by kernel_rfl) (by kernel_rfl) (fun _ _ _ h => h) ?yu11x5 (by assumption) ?ru11x5
          case yu11x5 => (intro w' hSw; (try dsimp only at hSw); go_simp; try (with_reducible rfl))
          simp only [List.setIfInBounds_toArray, List.set_cons_zero, List.set_cons_succ]
          refine take_op (v := ?vu11x6) 6 (Op.binOp BinOp.neq 5 (Operand.tmp 32) (Operand.tmp 35) 5) 4 rfl rfl rfl rfl rfl (by kernel_rfl) (by kernel_rfl) (by kernel_rfl) (fun _ _ _ h => h) ?yu11x6 (by assumption) ?ru11x6
          case yu11x6 => (intro w' hSw; (try dsimp only at hSw); go_simp; try (with_reducible rfl))
          simp only [List.setIfInBounds_toArray, List.set_cons_zero, List.set_cons_succ]
          refine wpAnyH_done (by kernel_rfl) ?_ _
          obtain ⟨hB2, hbw2⟩ := hHeld
          have f2 := hB2.frozen b.toNat
          have d2 := seen_cell hB2 b
          go_wp2
          go_roundw
          case rel => exact ⟨m, by omega, by go_num, by rw [HL.out]; go_num, blk_eq (hB2.set _ _) (by rw [HD.out]; exact seen_set x b), hbw2.setCell hb1.size _⟩
          case measure => first | (simp [intOf]; done) | (simp [intOf]; omega)
theorem rowlawB (s : ByteArray) (w : World) (hs : s.size ≤ maxLen) :
    Calls Try.prog 10 #[.string s] w fun e w' => e = .returned (.bool true) ∧ Below w.heap.size w w' := by
  obtain ⟨m, rfl, hm⟩ := str_of s
  exact rowlaw m w (by omega)
end FrontW
end Go.Proofs.Ytehlgpfkpagaeaa
