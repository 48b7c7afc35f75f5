/- Walks over bits' reference: digits. -/
import Derived.Test.YtedoeplhjmkllaaBitQ
import Derived.Deep.OwnRows
namespace Go.Proofs.Ytedoeplhjmkllaa
set_option linter.unusedVariables false
set_option linter.unusedSimpArgs false
set_option linter.unnecessarySimpa false
open Go.RowKit
namespace BitW

/-- A row of digits as cells. -/
def bc (l : List Nat) : List Value := l.map fun d => .int .i64 (d : Nat)
theorem bc_len (l : List Nat) : (bc l).length = l.length := by simp [bc]
theorem bc_app (a b : List Nat) : bc (a ++ b) = bc a ++ bc b := by simp [bc]
theorem bc_one (l : List Nat) : ∀ u ∈ bc l, u.oneCell' = true := by
  intro u hu
  obtain ⟨d, _, rfl⟩ := List.mem_map.1 hu
  rfl
theorem set_rep (r : Nat) (v : Nat) (l : List Nat) : (List.replicate (r + 1) 0 ++ l).set r v = List.replicate r 0 ++ (v :: l) := by
  rw [List.replicate_succ', List.append_assoc, List.set_append_right _ _ (by simp)]
  simp
theorem dg_more (m n : Nat) : dg (m + 1) n = (n / 2 ^ m % 2) :: dg m n := by
  rw [Nat.add_comm, dg_app]
  rfl
theorem own_bc {w : World} {g n : Nat} {l : List Nat} {B : Nat} (h : Blk w g 3 (bc l).toArray) (hl : l.length = n) (hB : B ≤ g) (hn : n ≤ maxLen) : Own w B 3 1 (some ⟨g, 0, none⟩) n n (bc l) :=
  Own.of_blk h (by rw [bc_len, hl, Nat.mul_one]) hB hn

theorem digits_no (n w : Int) (W : World) (h : w < 0 ∨ 32 < w ∨ n < 0) :
    Calls Try.prog 58 #[.int .i64 n, .int .i64 w] W fun e w' => e = .returned (.tuple #[.slice none 0 0, .bool false]) ∧ W = w' := by
  have h' : w < 0 ∨ (¬ w < 0 ∧ 32 < w) ∨ (¬ w < 0 ∧ ¬ 32 < w ∧ n < 0) := by omega
  clear h
  rcases h' with h | ⟨h, h2⟩ | ⟨h, h2, h3⟩
  all_goals
    go_enter Try.func58, Try.ntmps58
    go_wp2_with fail
    go_ret2
    exact ⟨rfl, rfl⟩
set_option maxRecDepth 100000 in
set_option maxHeartbeats 2000000 in
theorem digits_in (n k : Nat) (W : World) (hk : k ≤ 32) (hn : n ≤ 9223372036854775807) :
    Calls Try.prog 58 #[.int .i64 n, .int .i64 k] W fun e w' => e = .returned (.tuple #[.slice (some ⟨W.heap.size, 0, none⟩) k k, .bool (decide (n < 2 ^ k))]) ∧ Own w' W.heap.size 3 1 (some ⟨W.heap.size, 0, none⟩) k k (bc (dg k n)) ∧ Below W.heap.size W w' := by
  have hmk : (Instr.makeSlice 22 (.int .i64 k) (.int .i64 k)).run Try.prog W = .ok (.slice (some ⟨W.heap.size, 0, none⟩) k k) (W.alloc (.cells (madeCells #[.int .i64 0] k) 3)) :=
    run_make_row' 22 3 (.int .i64 0) 8 Try.underlying22 (by kernel_rfl) rfl .i64 .i64 k (by omega) (by omega) W
  have hk0 : ¬ (k : Int) < 0 := by omega
  have hk1 : ¬ (32 : Int) < (k : Int) := by omega
  have hn0 : ¬ (n : Int) < 0 := by omega
  have hmc : (bc (List.replicate k 0)).toArray = madeCells #[.int .i64 0] k := by
    apply Array.ext'
    apply List.ext_getElem
    · simp [bc, madeCells]
    · intro i h1 h2
      simp [bc, madeCells, Nat.mod_one]
  have hA := Blk.new W 3 (madeCells #[.int .i64 0] k)
  rw [← hmc] at hA hmk
  have hB0 : Below W.heap.size W (W.alloc (.cells (bc (List.replicate k 0)).toArray 3)) := (Below.refl _ _).alloc (Nat.le_refl _) _
  clear hmc
  go_enter Try.func58, Try.ntmps58
  go_wp2_with fail
  clear hmk
  generalize W.alloc (.cells (bc (List.replicate k 0)).toArray 3) = W1 at *
  go_loopw [0, 7] (fun v i wr => ∃ m : Nat, m ≤ k ∧ i = .int .i64 ((k : Int) - 1 - (m : Int)) ∧ v = .int .i64 ((n / 2 ^ m : Nat) : Int) ∧ Blk wr W.heap.size 3 (bc (List.replicate (k - m) 0 ++ dg m n)).toArray ∧ Below W.heap.size W wr) (fun _ i _ => (intOf i + 1).toNat)
  case atStart => exact ⟨0, by omega, by simp, by simp, by simpa [dg] using hA, hB0⟩
  case round =>
    obtain ⟨m, hm, rfl, rfl, bA, hbw⟩ := hrel
    clear hA hB0
    by_cases hlt : m < k
    · obtain ⟨r, hr⟩ : ∃ r, k - m = r + 1 := ⟨k - m - 1, by omega⟩
      rw [hr] at bA
      have hi : (k : Int) - 1 - (m : Int) = (r : Int) := by omega
      have hsz : (bc (List.replicate (r + 1) 0 ++ dg m n)).length = k := by rw [bc_len, List.length_append, List.length_replicate, dg_len]; omega
      have hcell : wr.cell? ⟨W.heap.size, r, none⟩ = some (.int .i64 0) := by
        refine bA.cell_ r ?_
        rw [List.getElem?_toArray, bc]
        rw [List.getElem?_map, List.getElem?_append_left (by simp), List.getElem?_replicate]
        simp
      have hfz := bA.frozen r
      have hbn : Blk (wr.setCell ⟨W.heap.size, r, none⟩ (.int .i64 ((n / 2 ^ m % 2 : Nat) : Int))) W.heap.size 3 (bc (List.replicate r 0 ++ dg (m + 1) n)).toArray := by
        have := bA.set r (.int .i64 ((n / 2 ^ m % 2 : Nat) : Int))
        refine blk_eq this ?_
        rw [dg_more, ← set_rep r (n / 2 ^ m % 2) (dg m n)]
        apply Array.ext'
        simp [bc, List.map_set]
      have hr0 : (0 : Int) ≤ (r : Int) := by omega
      have hr1 : (r : Int) < (k : Int) := by omega
      have hq : ((n / 2 ^ m : Nat) : Int) % 2 = ((n / 2 ^ m % 2 : Nat) : Int) := by omega
      have hd : ((n / 2 ^ m : Nat) : Int) / 2 = ((n / 2 ^ (m + 1) : Nat) : Int) := by rw [Nat.pow_succ, ← Nat.div_div_eq_div_mul]; omega
      have hnm : n / 2 ^ m ≤ 9223372036854775807 := Nat.le_trans (Nat.div_le_self _ _) hn
      have HD := Lib.hid hd
      have HQ := Lib.hid hq
      have HI := Lib.hid hi
      clear hsz hd hq
      generalize hy : n / 2 ^ m = y at *
      clear hy
      rw [hi]
      clear hi
      go_wp2_with fail
      try rw [HQ.out]
      go_roundw
      case rel => exact ⟨m + 1, by omega, by congr 1; have := HI.out; omega, by rw [HD.out], by rw [show k - (m + 1) = r from by omega]; exact hbn, hbw.setCell (p := ⟨W.heap.size, r, none⟩) (Nat.le_refl _) _⟩
      case measure => simp [intOf]
    · obtain rfl : m = k := by omega
      have hlast : ¬ (0 : Int) ≤ (m : Int) - 1 - (m : Int) := by omega
      rw [show m - m = 0 from by omega, List.replicate_zero, List.nil_append] at bA
      have hz : (((n / 2 ^ m : Nat) : Int) == 0) = decide (n < 2 ^ m) := by
        have hp : 0 < 2 ^ m := Nat.pow_pos (by omega)
        rw [Bool.eq_iff_iff, beq_iff_eq, decide_eq_true_iff]
        constructor
        · intro h
          have : n / 2 ^ m = 0 := by omega
          rcases Nat.lt_or_ge n (2 ^ m) with h1 | h1
          · exact h1
          · have := Nat.div_pos h1 hp; omega
        · intro h
          have := Nat.div_eq_of_lt h
          omega
      have hz2 : ((n : Int) / 2 ^ m == 0) = decide (n < 2 ^ m) := by rw [← hz]; push_cast; rfl
      have HZ := Lib.hid hz2
      clear hz hz2
      go_wp2_with fail
      go_ret2
      exact ⟨by rw [← HZ.out]; rfl, own_bc bA (dg_len _ _) (Nat.le_refl _) (by unfold maxLen; omega), hbw⟩
/-- Digits, whole. -/
theorem digits_any (n w : Int) (W : World) (hn : I64 n) :
    Calls Try.prog 58 #[.int .i64 n, .int .i64 w] W fun e w' => ∃ A k xs, e = .returned (.tuple #[.slice A k k, .bool (fitsB n w)]) ∧ k ≤ 32 ∧ Own w' W.heap.size 3 1 A k k xs ∧ (fitsB n w = true → xs = bc (fieldB (n, w))) ∧ Below W.heap.size W w' := by
  by_cases h : w < 0 ∨ 32 < w ∨ n < 0
  · have hf : fitsB n w = false := by
      cases hb : fitsB n w with
      | false => rfl
      | true =>
        simp only [fitsB, Bool.and_eq_true, decide_eq_true_eq] at hb
        omega
    refine (digits_no n w W h).mono ?_
    rintro e w' ⟨rfl, rfl⟩
    exact ⟨none, 0, [], by rw [hf], by omega, Own.nil _ _ _ _, by rw [hf]; simp, Below.refl _ _⟩
  · obtain ⟨x, rfl⟩ := Int.eq_ofNat_of_zero_le (show 0 ≤ n by omega)
    obtain ⟨k, rfl⟩ := Int.eq_ofNat_of_zero_le (show 0 ≤ w by omega)
    have hf : fitsB (x : Int) (k : Int) = decide (x < 2 ^ k) := by
      have e : (2 : Int) ^ k = ((2 ^ k : Nat) : Int) := by push_cast; rfl
      rw [Bool.eq_iff_iff]
      simp only [fitsB, Bool.and_eq_true, decide_eq_true_eq, Int.toNat_natCast, e]
      constructor
      · rintro ⟨_, h⟩; omega
      · intro h; exact ⟨⟨⟨by omega, by omega⟩, by omega⟩, by omega⟩
    obtain ⟨q1, q2⟩ := hn
    refine (digits_in x k W (by omega) (by omega)).mono ?_
    rintro e w' ⟨rfl, h1, h2⟩
    exact ⟨_, k, _, by rw [hf], by omega, h1, fun _ => rfl, h2⟩
end BitW
end Go.Proofs.Ytedoeplhjmkllaa
