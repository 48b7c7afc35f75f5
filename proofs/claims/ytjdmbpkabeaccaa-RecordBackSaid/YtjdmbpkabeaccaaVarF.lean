/- Walks over package varint and its reference: fixed numbers. -/
import Derived.Test.YtjdmbpkabeaccaaVarG
namespace Go.Proofs.Ytjdmbpkabeaccaa
set_option linter.unusedVariables false
set_option linter.unusedSimpArgs false
set_option linter.unnecessarySimpa false
open Go.RowKit
namespace VarW

def fitsB (n : Int) (k : Nat) : Bool := decide (0 ≤ n) && decide (n < (256 : Int) ^ k)
theorem pow8 (k : Nat) : (2 : Int) ^ (8 * k) = 256 ^ k := by rw [Int.pow_mul]; rfl
theorem shr_zero (n : Int) (k : Nat) (h0 : 0 ≤ n) : (n / 2 ^ (8 * k) == 0) = decide (n < (256 : Int) ^ k) := by
  rw [pow8]
  have hp : (0 : Int) < 256 ^ k := Int.pow_pos (by omega)
  by_cases h : n < (256 : Int) ^ k
  · rw [decide_eq_true h, beq_iff_eq]
    exact Int.ediv_eq_zero_of_lt h0 h
  · rw [decide_eq_false h, beq_eq_false_iff_ne]
    intro e
    have := Int.lt_ediv_add_one_mul_self n hp
    rw [e] at this
    omega
theorem fits8 (n : Int) (h : n ≤ 9223372036854775807) : n < (256 : Int) ^ 8 := by
  have : (256 : Int) ^ 8 = 18446744073709551616 := by decide
  omega
set_option maxRecDepth 100000 in
set_option maxHeartbeats 1000000 in
theorem fits_any (n : Int) (k : Nat) (w : World) (h1 : 1 ≤ k) (h8 : k ≤ 8) (hn : n ≤ 9223372036854775807) (v : Bool) (hv : fitsB n k = v) :
    Calls Try.prog 63 #[.int .i64 n, .int .i64 (k : Int)] w fun e w' => e = .returned (.bool v) ∧ w' = w := by
  have HV := Lib.hid hv
  clear hv
  by_cases h0 : 0 ≤ n
  · by_cases hk : k = 8
    · have hkI : ((k : Int) == 8) = true := by rw [beq_iff_eq]; omega
      have HK := Lib.hid hk
      clear hk
      go_enter Try.func63, Try.ntmps63
      go_wp2_with fail
      go_ret
      refine ⟨ret_bool ?_, rfl⟩
      rw [← HV.out, HK.out, fitsB, decide_eq_true h0, decide_eq_true (fits8 n hn)]
      rfl
    · have hkI : ((k : Int) == 8) = false := by rw [beq_eq_false_iff_ne]; omega
      go_enter Try.func63, Try.ntmps63
      go_wp2_with fail
      go_ret
      refine ⟨ret_bool ?_, rfl⟩
      show (n / 2 ^ (8 * k) == 0) = v
      rw [← HV.out, fitsB, decide_eq_true h0, shr_zero n k h0]
      rfl
  · have HN := Lib.hid (show fitsB n k = false by simp [fitsB, h0])
    go_enter Try.func63, Try.ntmps63
    go_wp2_with fail
    go_ret
    exact ⟨ret_bool (by rw [← HV.out, HN.out]), rfl⟩

theorem fixV_no {n width : Int} (h : width < 1 ∨ 8 < width ∨ n < 0 ∨ (256 : Int) ^ width.toNat ≤ n) : fixV n width = ([], 2) := by unfold fixV; rw [if_pos h]
theorem fixV_yes {n : Nat} {k : Nat} (h1 : 1 ≤ k) (h8 : k ≤ 8) (h : (n : Int) < (256 : Int) ^ k) : fixV n k = (fbytes k n, 0) := by
  unfold fixV
  rw [if_neg (by rw [Int.toNat_natCast]; omega)]
  simp
theorem fbytes_step (k n : Nat) : fbytes (k + 1) n = UInt8.ofNat (n % 256) :: fbytes k (n / 256) := rfl

set_option maxRecDepth 100000 in
set_option maxHeartbeats 2000000 in
theorem fix_any (n width : Int) (w : World) (hn : I64 n) :
    Calls Try.prog 17 #[.int .i64 n, .int .i64 width] w fun e w' => e = .returned (.tuple #[str (fixV n width).1, .int .i64 (fixV n width).2]) ∧ Below w.heap.size w w' := by
  obtain ⟨hn1, hn2⟩ := hn
  by_cases hw : width < 1 ∨ 8 < width
  · have HV := Lib.hid (fixV_no (n := n) (width := width) (by omega))
    have hw' : width < 1 ∨ (¬ width < 1 ∧ 8 < width) := by omega
    clear hw
    rcases hw' with hw | ⟨hw, hw2⟩
    all_goals
      go_enter Try.func17, Try.ntmps17
      go_wp2_with fail
      go_ret2
      rw [HV.out]
      exact ⟨rfl, (by first | exact Below.refl _ _ | (repeat (first | exact Below.refl _ _ | assumption | refine Below.drew ?_ | refine Below.drewN_ ?_ _ | refine Below.alloc ?_ (by first | exact Nat.le_refl _ | (simp; done) | (simp; omega) | omega) _ | refine Below.setCell ?_ (by first | exact Nat.le_refl _ | (simp; done) | (simp; omega) | omega) _ | (refine Below.trans ?_ (Below.mono (by assumption) (by first | exact Nat.le_refl _ | (simp; done) | (simp; omega) | omega))))))⟩
  · obtain ⟨k, rfl⟩ := Int.eq_ofNat_of_zero_le (show 0 ≤ width by omega)
    have hk1 : ¬ (k : Int) < 1 := by omega
    have hk2 : ¬ (8 : Int) < (k : Int) := by omega
    by_cases hf : fitsB n k = true
    · have h0 : 0 ≤ n := by simp [fitsB] at hf; exact hf.1
      obtain ⟨x, rfl⟩ := Int.eq_ofNat_of_zero_le h0
      have hx : (x : Int) < (256 : Int) ^ k := by simp only [fitsB, Bool.and_eq_true, decide_eq_true_eq] at hf; exact hf.2
      have HV := Lib.hid (fixV_yes (n := x) (k := k) (by omega) (by omega) hx)
      have HF := Lib.hid hf
      have hmk : ∀ w, (Instr.makeSlice 69 (.int .i64 0) (.int .i64 8)).run Try.prog w = .ok (.slice (some ⟨w.heap.size, 0, none⟩) 0 8) (w.alloc (.cells (Array.replicate 8 (.int .u8 0)) 5)) := fun _ => by kernel_rfl
      clear hf hx hw
      go_enter Try.func17, Try.ntmps17
      go_wp2_with fail
      refine (fits_any x k w (by omega) (by omega) (by omega) true HF.out).mono ?_
      rintro e w1 ⟨rfl, rfl⟩
      go_wp2_with fail
      have o0 : Own (w1.alloc (.cells (Array.replicate 8 (.int .u8 0)) 5)) w1.heap.size 5 1 (some ⟨w1.heap.size, 0, none⟩) 0 8 (byts []) := by
        have := own_made (W0 := w1) (t := 5) (base := w1.heap.size) (n := 0) (c := 8) (size := 1) (cs := Array.replicate 8 (.int .u8 0)) rfl (by omega) (by simp) (Nat.le_refl _) (by decide)
        simpa [byts] using this
      have HB0 : Below w1.heap.size w1 (w1.alloc (.cells (Array.replicate 8 (.int .u8 0)) 5)) := (by first | exact Below.refl _ _ | (repeat (first | exact Below.refl _ _ | assumption | refine Below.drew ?_ | refine Below.drewN_ ?_ _ | refine Below.alloc ?_ (by first | exact Nat.le_refl _ | (simp; done) | (simp; omega) | omega) _ | refine Below.setCell ?_ (by first | exact Nat.le_refl _ | (simp; done) | (simp; omega) | omega) _ | (refine Below.trans ?_ (Below.mono (by assumption) (by first | exact Nat.le_refl _ | (simp; done) | (simp; omega) | omega))))))
      clear hmk
      go_loopw [0, 6, 21] (fun y b i wr => ∃ (j a : Nat) (A1 : Option Addr) (c1 : Nat) (l1 : List UInt8), i = .int .i64 j ∧ y = .int .i64 a ∧ b = .slice A1 j c1 ∧ j ≤ k ∧ a ≤ x ∧ l1 ++ fbytes (k - j) a = fbytes k x ∧
        Own wr w1.heap.size 5 1 A1 j c1 (byts l1) ∧ Below w1.heap.size w1 wr) (fun _ _ i _ => k - (intOf i).toNat)
      case atStart => exact ⟨0, x, _, 8, [], rfl, rfl, rfl, by omega, by omega, rfl, o0, HB0⟩
      case round =>
        obtain ⟨j, a, A1, c1, l1, rfl, rfl, rfl, hj, ha, hl, ho, hbw⟩ := hrel
        have HL := Lib.hid hl
        have hsz := hbw.size
        clear hl
        by_cases hlt : j < k
        · have hby : [Value.int .u8 ((a : Int) % 256)] = byts [UInt8.ofNat (a % 256)] := by
            rw [show (a : Int) % 256 = ((a % 256 : Nat) : Int) from by omega, byt_of _ (by omega)]; rfl
          have HBY := Lib.hid hby
          have HS := Lib.hid (fbytes_step (k - (j + 1)) a)
          clear hby
          go_wp2_with (at_builtin; with_reducible refine wp_append El_u8 rfl (s := .tmp 23) (x := .tmp 26) rfl rfl (ho.alloc _) rfl (rd_new (cs := [Value.int .u8 ((a : Int) % 256)]) (m := 1) rfl rfl) (by simp [Value.oneCell']) (by unfold maxLen; omega) (by omega) (by simp; omega) ?_; intro A4 c4 w4 o4 hg4 hat4)
          have hg' := grown_alloc hg4
          go_roundw
          case rel =>
            refine ⟨j + 1, a / 256, A4, c4, l1 ++ [UInt8.ofNat (a % 256)], by go_num, by go_num, rfl, by omega, by omega, ?_, ?_, below_grown hbw hg' ho (Nat.le_refl _)⟩
            · rw [← HL.out, show k - j = (k - (j + 1)) + 1 from by omega, HS.out]; simp
            · rw [byts_app, ← HBY.out]; exact o4
          case measure => simp [intOf]; omega
        · have hjk : j = k := by omega
          have HL1 := Lib.hid (show l1 = fbytes k x by have := HL.out; rw [hjk, Nat.sub_self] at this; simpa [fbytes] using this)
          have hcv := run_bytes_str (P := Try.prog) wr (c := c1) Try.underlying69 Try.underlying5 Try.underlying9 ho.rd
          clear hjk
          go_wp2_with fail
          go_ret2
          rw [HV.out]
          refine ⟨?_, hbw⟩
          rw [HL1.out]
          rfl
    · have hf' : fitsB n k = false := by simpa using hf
      have HV := Lib.hid (fixV_no (n := n) (width := k) (by simp only [fitsB, Bool.and_eq_false_iff, decide_eq_false_iff_not] at hf'; rw [Int.toNat_natCast]; omega))
      have HF := Lib.hid hf'
      clear hf hf' hw
      go_enter Try.func17, Try.ntmps17
      go_wp2_with fail
      refine (fits_any n k w (by omega) (by omega) (by omega) false HF.out).mono ?_
      rintro e w1 ⟨rfl, rfl⟩
      go_wp2_with fail
      go_ret2
      rw [HV.out]
      exact ⟨rfl, (by first | exact Below.refl _ _ | (repeat (first | exact Below.refl _ _ | assumption | refine Below.drew ?_ | refine Below.drewN_ ?_ _ | refine Below.alloc ?_ (by first | exact Nat.le_refl _ | (simp; done) | (simp; omega) | omega) _ | refine Below.setCell ?_ (by first | exact Nat.le_refl _ | (simp; done) | (simp; omega) | omega) _ | (refine Below.trans ?_ (Below.mono (by assumption) (by first | exact Nat.le_refl _ | (simp; done) | (simp; omega) | omega))))))⟩

theorem div_zero_iff (x k : Nat) : 0 < x / 256 ^ k ↔ (256 : Int) ^ k ≤ (x : Int) := by
  rw [Nat.div_pos_iff]
  have h : ((256 ^ k : Nat) : Int) = (256 : Int) ^ k := by simp
  have hp : 0 < 256 ^ k := Nat.pow_pos (by omega)
  constructor
  · rintro ⟨_, h2⟩; rw [← h]; omega
  · intro h2; rw [← h] at h2; exact ⟨hp, by omega⟩
set_option maxRecDepth 100000 in
set_option maxHeartbeats 2000000 in
theorem refFix_any (n width : Int) (w : World) (hn : I64 n) :
    Calls Try.prog 18 #[.int .i64 n, .int .i64 width] w fun e w' => e = .returned (.tuple #[str (fixV n width).1, .int .i64 (fixV n width).2]) ∧ Below w.heap.size w w' := by
  obtain ⟨hn1, hn2⟩ := hn
  by_cases hw : width < 1 ∨ 8 < width ∨ n < 0
  · have HV := Lib.hid (fixV_no (n := n) (width := width) (by omega))
    have hw' : width < 1 ∨ (¬ width < 1 ∧ 8 < width) ∨ (¬ width < 1 ∧ ¬ 8 < width ∧ n < 0) := by omega
    clear hw
    rcases hw' with hw | ⟨hw, hw2⟩ | ⟨hw, hw2, hw3⟩
    all_goals
      go_enter Try.func18, Try.ntmps18
      go_wp2_with fail
      go_ret2
      rw [HV.out]
      exact ⟨rfl, (by first | exact Below.refl _ _ | (repeat (first | exact Below.refl _ _ | assumption | refine Below.drew ?_ | refine Below.drewN_ ?_ _ | refine Below.alloc ?_ (by first | exact Nat.le_refl _ | (simp; done) | (simp; omega) | omega) _ | refine Below.setCell ?_ (by first | exact Nat.le_refl _ | (simp; done) | (simp; omega) | omega) _ | (refine Below.trans ?_ (Below.mono (by assumption) (by first | exact Nat.le_refl _ | (simp; done) | (simp; omega) | omega))))))⟩
  · obtain ⟨k, rfl⟩ := Int.eq_ofNat_of_zero_le (show 0 ≤ width by omega)
    obtain ⟨x, rfl⟩ := Int.eq_ofNat_of_zero_le (show 0 ≤ n by omega)
    have hk1 : ¬ (k : Int) < 1 := by omega
    have hk2 : ¬ (8 : Int) < (k : Int) := by omega
    have hx0 : ¬ (x : Int) < 0 := by omega
    clear hw
    go_enter Try.func18, Try.ntmps18
    go_wp2_with fail
    go_loopw [0, 6, 7] (fun y b i wr => ∃ (j a : Nat) (l1 : List UInt8), i = .int .i64 j ∧ y = .int .i64 a ∧ b = str l1 ∧ j ≤ k ∧ a ≤ x ∧ a = x / 256 ^ j ∧ l1.length = j ∧ l1 ++ fbytes (k - j) a = fbytes k x ∧ Below w.heap.size w wr) (fun _ _ i _ => k - (intOf i).toNat)
    case atStart => exact ⟨0, x, [], rfl, rfl, rfl, by omega, by omega, by simp, rfl, rfl, (by first | exact Below.refl _ _ | (repeat (first | exact Below.refl _ _ | assumption | refine Below.drew ?_ | refine Below.drewN_ ?_ _ | refine Below.alloc ?_ (by first | exact Nat.le_refl _ | (simp; done) | (simp; omega) | omega) _ | refine Below.setCell ?_ (by first | exact Nat.le_refl _ | (simp; done) | (simp; omega) | omega) _ | (refine Below.trans ?_ (Below.mono (by assumption) (by first | exact Nat.le_refl _ | (simp; done) | (simp; omega) | omega))))))⟩
    case round =>
      obtain ⟨j, a, l1, rfl, rfl, rfl, hj, ha, hax, hll, hl, hbw⟩ := hrel
      have HL := Lib.hid hl
      have HAX := Lib.hid hax
      have hsz := hbw.size
      have hl9 : l1.length ≤ 8 := by omega
      have HLL := Lib.hid hll
      clear hl hax hll
      by_cases hlt : j < k
      · have HS := Lib.hid (fbytes_step (k - (j + 1)) a)
        have hcv := fun w => run_one_str (P := Try.prog) Try.underlying69 Try.underlying5 Try.underlying9 w ((a : Int) % 256) (by omega) (by omega)
        rw [show ((a : Int) % 256).toNat = a % 256 from by omega] at hcv
        go_wp2_with fail
        go_roundw
        case rel =>
          refine ⟨j + 1, a / 256, l1 ++ [UInt8.ofNat (a % 256)], by go_num, by go_num, by rw [ba_cat]; simp, by omega, by omega, ?_, by simp [HLL.out], ?_, (by first | exact Below.refl _ _ | (repeat (first | exact Below.refl _ _ | assumption | refine Below.drew ?_ | refine Below.drewN_ ?_ _ | refine Below.alloc ?_ (by first | exact Nat.le_refl _ | (simp; done) | (simp; omega) | omega) _ | refine Below.setCell ?_ (by first | exact Nat.le_refl _ | (simp; done) | (simp; omega) | omega) _ | (refine Below.trans ?_ (Below.mono (by assumption) (by first | exact Nat.le_refl _ | (simp; done) | (simp; omega) | omega))))))⟩
          · rw [HAX.out, Nat.div_div_eq_div_mul, ← Nat.pow_succ]
          · rw [← HL.out, show k - j = (k - (j + 1)) + 1 from by omega, HS.out]; simp
        case measure => simp [intOf]; omega
      · have hjk : j = k := by omega
        have HL1 := Lib.hid (show l1 = fbytes k x by have := HL.out; rw [hjk, Nat.sub_self] at this; simpa [fbytes] using this)
        by_cases hx : (x : Int) < (256 : Int) ^ k
        · have HV := Lib.hid (fixV_yes (n := x) (k := k) (by omega) (by omega) hx)
          have hz : ¬ (0 : Int) < (a : Int) := by
            have := (div_zero_iff x k)
            rw [← hjk, ← HAX.out, hjk] at this
            omega
          clear hjk hx
          go_wp2_with fail
          go_ret2
          rw [HV.out, HL1.out]
          exact ⟨rfl, hbw⟩
        · have HV := Lib.hid (fixV_no (n := x) (width := k) (by rw [Int.toNat_natCast]; omega))
          have hz : (0 : Int) < (a : Int) := by
            have := (div_zero_iff x k)
            rw [← hjk, ← HAX.out, hjk] at this
            omega
          clear hjk hx
          go_wp2_with fail
          go_ret2
          rw [HV.out]
          exact ⟨rfl, hbw⟩

theorem unfixV_arg {s : List UInt8} {a width : Int} (h : width < 1 ∨ 8 < width ∨ a < 0 ∨ (s.length : Int) < a) : unfixV s a width = (0, 0, 2) := by unfold unfixV; rw [if_pos h]
theorem unfixV_short {s : List UInt8} {p k : Nat} (h1 : 1 ≤ k) (h8 : k ≤ 8) (hp : p ≤ s.length) (h : s.length < p + k) : unfixV s p k = (0, 0, 4) := by
  unfold unfixV
  rw [if_neg (by omega), if_pos (by omega)]
/-- What the last of k bytes from place p on tell, from the m-th on. -/
def fvW (s : List UInt8) (p k m : Nat) : Nat := fval (((s.drop p).take k).drop m)
theorem unfixV_in {s : List UInt8} {p k : Nat} (h1 : 1 ≤ k) (h8 : k ≤ 8) (h : p + k ≤ s.length) : unfixV s p k = if 9223372036854775808 ≤ fvW s p k 0 then (0, 0, 5) else ((fvW s p k 0 : Int), (p : Int) + k, 0) := by
  unfold unfixV fvW
  rw [if_neg (by omega), if_neg (by omega)]
  simp
theorem fvW_end (s : List UInt8) (p k : Nat) : fvW s p k k = 0 := by
  unfold fvW
  rw [List.drop_of_length_le (by simp; omega)]
  rfl
theorem fvW_step (s : List UInt8) (p k m : Nat) (hm : m < k) (h : p + k ≤ s.length) : fvW s p k m = (s[p + m]'(by omega)).toNat + 256 * fvW s p k (m + 1) := by
  unfold fvW
  rw [List.drop_eq_getElem_cons (i := m) (by simp; omega), fval]
  simp
theorem fvW_lt (s : List UInt8) (p k m : Nat) (hm : 1 ≤ m) (hk : k ≤ 8) : fvW s p k m < 72057594037927936 := by
  unfold fvW
  have h1 := fval_lt (((s.drop p).take k).drop m)
  have h2 : (((s.drop p).take k).drop m).length ≤ 7 := by simp; omega
  have h3 : 256 ^ (((s.drop p).take k).drop m).length ≤ 256 ^ 7 := Nat.pow_le_pow_right (by omega) h2
  have h4 : (256 : Nat) ^ 7 = 72057594037927936 := by decide
  omega
theorem fvW_lt0 (s : List UInt8) (p k : Nat) (hk : k ≤ 8) : fvW s p k 0 < 18446744073709551616 := by
  unfold fvW
  have h1 := fval_lt (((s.drop p).take k).drop 0)
  have h2 : (((s.drop p).take k).drop 0).length ≤ 8 := by simp; omega
  have h3 : 256 ^ (((s.drop p).take k).drop 0).length ≤ 256 ^ 8 := Nat.pow_le_pow_right (by omega) h2
  have h4 : (256 : Nat) ^ 8 = 18446744073709551616 := by decide
  omega
theorem fvW_mono (s : List UInt8) (p k m : Nat) (h : p + k ≤ s.length) (hm : m ≤ k) : fvW s p k m ≤ fvW s p k 0 := by
  induction m with
  | zero => exact Nat.le_refl _
  | succ m ih =>
    have := ih (by omega)
    rw [fvW_step s p k m (by omega) h] at this
    omega
theorem fval_top (l : List UInt8) (b : UInt8) : fval (l ++ [b]) = fval l + b.toNat * 256 ^ l.length := by
  induction l with
  | nil => simp [fval]
  | cons c l ih =>
    simp only [List.cons_append, fval, ih, List.length_cons, Nat.pow_succ]
    rw [Nat.mul_add, Nat.add_assoc, ← Nat.mul_assoc, Nat.mul_comm 256 b.toNat, Nat.mul_assoc, Nat.mul_comm 256 (256 ^ l.length)]
theorem fvW_top (s : List UInt8) (p k : Nat) (hk : k ≤ 8) (h : p + k ≤ s.length) : (k = 8 ∧ 128 ≤ (s.getD (p + 7) 0).toNat) ↔ 9223372036854775808 ≤ fvW s p k 0 := by
  unfold fvW
  rw [List.drop_zero]
  by_cases h8 : k = 8
  · subst h8
    have hb : p + 7 < s.length := by omega
    have hgd : s.getD (p + 7) 0 = s[p + 7]'hb := by simp [List.getD, List.getElem?_eq_getElem hb]
    rw [hgd]
    have h1 := fval_lt ((s.drop p).take 7)
    rw [List.length_take, Nat.min_eq_left (by simp; omega)] at h1
    have h4 : (256 : Nat) ^ 7 = 72057594037927936 := by decide
    have h5 : fval ((s.drop p).take 8) = fval ((s.drop p).take 7) + (s[p + 7]'hb).toNat * 72057594037927936 := by
      rw [show (s.drop p).take 8 = (s.drop p).take 7 ++ [(s.drop p)[7]'(by simp; omega)] from List.take_succ_eq_append_getElem (show 7 < (s.drop p).length by simp; omega), fval_top, List.length_take, Nat.min_eq_left (by simp; omega), h4]
      simp only [List.getElem_drop]
    rw [h5]
    rw [h4] at h1
    generalize (s[p + 7]'hb).toNat = d at *
    constructor
    · rintro ⟨_, h⟩; omega
    · intro h; exact ⟨rfl, by omega⟩
  · constructor
    · rintro ⟨h1, _⟩; exact absurd h1 h8
    · intro h2
      have h1 := fval_lt ((s.drop p).take k)
      rw [List.length_take, Nat.min_eq_left (by simp; omega)] at h1
      have h3 : 256 ^ k ≤ 256 ^ 7 := Nat.pow_le_pow_right (by omega) (by omega)
      have h4 : (256 : Nat) ^ 7 = 72057594037927936 := by decide
      omega
end VarW
end Go.Proofs.Ytjdmbpkabeaccaa
