/- Walks over bits' reference: digits. Walks over bits' reference: bits as bytes, bytes as bits. Walks over bits' reference: Pack, Unpack. -/
import Derived.Test.YtdfclgpkhfpkhaaBitQ
import Derived.Deep.OwnRows
import Derived.Test.YtdfclgpkhfpkhaaReg2
namespace Go.Proofs.Ytdfclgpkhfpkhaa
set_option linter.unusedVariables false
set_option linter.unusedSimpArgs false
set_option linter.unnecessarySimpa false
open Go.RowKit
namespace BitW

/-- A row of digits as cells. -/
def bc (l : List Nat) : List Value := l.map fun d => .int .i64 (d : Nat)
theorem bc_len (l : List Nat) : (bc l).length = l.length := by simp [bc]
theorem bc_app (a b : List Nat) : bc (a ++ b) = bc a ++ bc b := by simp [bc]
theorem bc_one (l : List Nat) : ∀ u ∈ bc l, u.oneCell' = true := by
  intro u hu
  obtain ⟨d, _, rfl⟩ := List.mem_map.1 hu
  rfl
theorem set_rep (r : Nat) (v : Nat) (l : List Nat) : (List.replicate (r + 1) 0 ++ l).set r v = List.replicate r 0 ++ (v :: l) := by
  rw [List.replicate_succ', List.append_assoc, List.set_append_right _ _ (by simp)]
  simp
theorem dg_more (m n : Nat) : dg (m + 1) n = (n / 2 ^ m % 2) :: dg m n := by
  rw [Nat.add_comm, dg_app]
  rfl
theorem own_bc {w : World} {g n : Nat} {l : List Nat} {B : Nat} (h : Blk w g 3 (bc l).toArray) (hl : l.length = n) (hB : B ≤ g) (hn : n ≤ maxLen) : Own w B 3 1 (some ⟨g, 0, none⟩) n n (bc l) :=
  Own.of_blk h (by rw [bc_len, hl, Nat.mul_one]) hB hn

theorem digits_no (n w : Int) (W : World) (h : w < 0 ∨ 32 < w ∨ n < 0) :
    Calls Try.prog 68 #[.int .i64 n, .int .i64 w] W fun e w' => e = .returned (.tuple #[.slice none 0 0, .bool false]) ∧ W = w' := by
  have h' : w < 0 ∨ (¬ w < 0 ∧ 32 < w) ∨ (¬ w < 0 ∧ ¬ 32 < w ∧ n < 0) := by omega
  clear h
  rcases h' with h | ⟨h, h2⟩ | ⟨h, h2, h3⟩
  all_goals
    go_enter Try.func68, Try.ntmps68
    go_wp2_with fail
    go_ret2
    exact ⟨rfl, rfl⟩
set_option maxRecDepth 100000 in
set_option maxHeartbeats 2000000 in
theorem digits_in (n k : Nat) (W : World) (hk : k ≤ 32) (hn : n ≤ 9223372036854775807) :
    Calls Try.prog 68 #[.int .i64 n, .int .i64 k] W fun e w' => e = .returned (.tuple #[.slice (some ⟨W.heap.size, 0, none⟩) k k, .bool (decide (n < 2 ^ k))]) ∧ Own w' W.heap.size 3 1 (some ⟨W.heap.size, 0, none⟩) k k (bc (dg k n)) ∧ Below W.heap.size W w' := by
  have hmk : (Instr.makeSlice 22 (.int .i64 k) (.int .i64 k)).run Try.prog W = .ok (.slice (some ⟨W.heap.size, 0, none⟩) k k) (W.alloc (.cells (madeCells #[.int .i64 0] k) 3)) :=
    run_make_row' 22 3 (.int .i64 0) 8 Try.underlying22 (by kernel_rfl) rfl .i64 .i64 k (by omega) (by omega) W
  have hk0 : ¬ (k : Int) < 0 := by omega
  have hk1 : ¬ (32 : Int) < (k : Int) := by omega
  have hn0 : ¬ (n : Int) < 0 := by omega
  have hmc : (bc (List.replicate k 0)).toArray = madeCells #[.int .i64 0] k := by
    apply Array.ext'
    apply List.ext_getElem
    · simp [bc, madeCells]
    · intro i h1 h2
      simp [bc, madeCells, Nat.mod_one]
  have hA := Blk.new W 3 (madeCells #[.int .i64 0] k)
  rw [← hmc] at hA hmk
  have hB0 : Below W.heap.size W (W.alloc (.cells (bc (List.replicate k 0)).toArray 3)) := (Below.refl _ _).alloc (Nat.le_refl _) _
  clear hmc
  go_enter Try.func68, Try.ntmps68
  go_wp2_with fail
  clear hmk
  generalize W.alloc (.cells (bc (List.replicate k 0)).toArray 3) = W1 at *
  go_loopw [0, 7] (fun v i wr => ∃ m : Nat, m ≤ k ∧ i = .int .i64 ((k : Int) - 1 - (m : Int)) ∧ v = .int .i64 ((n / 2 ^ m : Nat) : Int) ∧ Blk wr W.heap.size 3 (bc (List.replicate (k - m) 0 ++ dg m n)).toArray ∧ Below W.heap.size W wr) (fun _ i _ => (intOf i + 1).toNat)
  case atStart => exact ⟨0, by omega, by simp, by simp, by simpa [dg] using hA, hB0⟩
  case round =>
    obtain ⟨m, hm, rfl, rfl, bA, hbw⟩ := hrel
    clear hA hB0
    by_cases hlt : m < k
    · obtain ⟨r, hr⟩ : ∃ r, k - m = r + 1 := ⟨k - m - 1, by omega⟩
      rw [hr] at bA
      have hi : (k : Int) - 1 - (m : Int) = (r : Int) := by omega
      have hsz : (bc (List.replicate (r + 1) 0 ++ dg m n)).length = k := by rw [bc_len, List.length_append, List.length_replicate, dg_len]; omega
      have hcell : wr.cell? ⟨W.heap.size, r, none⟩ = some (.int .i64 0) := by
        refine bA.cell_ r ?_
        rw [List.getElem?_toArray, bc]
        rw [List.getElem?_map, List.getElem?_append_left (by simp), List.getElem?_replicate]
        simp
      have hfz := bA.frozen r
      have hbn : Blk (wr.setCell ⟨W.heap.size, r, none⟩ (.int .i64 ((n / 2 ^ m % 2 : Nat) : Int))) W.heap.size 3 (bc (List.replicate r 0 ++ dg (m + 1) n)).toArray := by
        have := bA.set r (.int .i64 ((n / 2 ^ m % 2 : Nat) : Int))
        refine blk_eq this ?_
        rw [dg_more, ← set_rep r (n / 2 ^ m % 2) (dg m n)]
        apply Array.ext'
        simp [bc, List.map_set]
      have hr0 : (0 : Int) ≤ (r : Int) := by omega
      have hr1 : (r : Int) < (k : Int) := by omega
      have hq : ((n / 2 ^ m : Nat) : Int) % 2 = ((n / 2 ^ m % 2 : Nat) : Int) := by omega
      have hd : ((n / 2 ^ m : Nat) : Int) / 2 = ((n / 2 ^ (m + 1) : Nat) : Int) := by rw [Nat.pow_succ, ← Nat.div_div_eq_div_mul]; omega
      have hnm : n / 2 ^ m ≤ 9223372036854775807 := Nat.le_trans (Nat.div_le_self _ _) hn
      have HD := Lib.hid hd
      have HQ := Lib.hid hq
      have HI := Lib.hid hi
      clear hsz hd hq
      generalize hy : n / 2 ^ m = y at *
      clear hy
      rw [hi]
      clear hi
      go_wp2_with fail
      try rw [HQ.out]
      go_roundw
      case rel => exact ⟨m + 1, by omega, by congr 1; have := HI.out; omega, by rw [HD.out], by rw [show k - (m + 1) = r from by omega]; exact hbn, hbw.setCell (p := ⟨W.heap.size, r, none⟩) (Nat.le_refl _) _⟩
      case measure => simp [intOf]
    · obtain rfl : m = k := by omega
      have hlast : ¬ (0 : Int) ≤ (m : Int) - 1 - (m : Int) := by omega
      rw [show m - m = 0 from by omega, List.replicate_zero, List.nil_append] at bA
      have hz : (((n / 2 ^ m : Nat) : Int) == 0) = decide (n < 2 ^ m) := by
        have hp : 0 < 2 ^ m := Nat.pow_pos (by omega)
        rw [Bool.eq_iff_iff, beq_iff_eq, decide_eq_true_iff]
        constructor
        · intro h
          have : n / 2 ^ m = 0 := by omega
          rcases Nat.lt_or_ge n (2 ^ m) with h1 | h1
          · exact h1
          · have := Nat.div_pos h1 hp; omega
        · intro h
          have := Nat.div_eq_of_lt h
          omega
      have hz2 : ((n : Int) / 2 ^ m == 0) = decide (n < 2 ^ m) := by rw [← hz]; push_cast; rfl
      have HZ := Lib.hid hz2
      clear hz hz2
      go_wp2_with fail
      go_ret2
      exact ⟨by rw [← HZ.out]; rfl, own_bc bA (dg_len _ _) (Nat.le_refl _) (by unfold maxLen; omega), hbw⟩
/-- Digits, whole. -/
theorem digits_any (n w : Int) (W : World) (hn : I64 n) :
    Calls Try.prog 68 #[.int .i64 n, .int .i64 w] W fun e w' => ∃ A k xs, e = .returned (.tuple #[.slice A k k, .bool (fitsB n w)]) ∧ k ≤ 32 ∧ Own w' W.heap.size 3 1 A k k xs ∧ (fitsB n w = true → xs = bc (fieldB (n, w))) ∧ Below W.heap.size W w' := by
  by_cases h : w < 0 ∨ 32 < w ∨ n < 0
  · have hf : fitsB n w = false := by
      cases hb : fitsB n w with
      | false => rfl
      | true =>
        simp only [fitsB, Bool.and_eq_true, decide_eq_true_eq] at hb
        omega
    refine (digits_no n w W h).mono ?_
    rintro e w' ⟨rfl, rfl⟩
    exact ⟨none, 0, [], by rw [hf], by omega, Own.nil _ _ _ _, by rw [hf]; simp, Below.refl _ _⟩
  · obtain ⟨x, rfl⟩ := Int.eq_ofNat_of_zero_le (show 0 ≤ n by omega)
    obtain ⟨k, rfl⟩ := Int.eq_ofNat_of_zero_le (show 0 ≤ w by omega)
    have hf : fitsB (x : Int) (k : Int) = decide (x < 2 ^ k) := by
      have e : (2 : Int) ^ k = ((2 ^ k : Nat) : Int) := by push_cast; rfl
      rw [Bool.eq_iff_iff]
      simp only [fitsB, Bool.and_eq_true, decide_eq_true_eq, Int.toNat_natCast, e]
      constructor
      · rintro ⟨_, h⟩; omega
      · intro h; exact ⟨⟨⟨by omega, by omega⟩, by omega⟩, by omega⟩
    obtain ⟨q1, q2⟩ := hn
    refine (digits_in x k W (by omega) (by omega)).mono ?_
    rintro e w' ⟨rfl, h1, h2⟩
    exact ⟨_, k, _, by rw [hf], by omega, h1, fun _ => rfl, h2⟩
end BitW
end Go.Proofs.Ytdfclgpkhfpkhaa

namespace Go.Proofs.Ytdfclgpkhfpkhaa
set_option linter.unusedVariables false
set_option linter.unusedSimpArgs false
set_option linter.unnecessarySimpa false
open Go.RowKit
namespace BitW

theorem El_int2 : El Try.prog 22 3 1 8 := El.mk' Try.underlying22 (z := .int .i64 0) (by kernel_rfl) rfl (by decide)
theorem El_u82 : El Try.prog 45 5 1 1 := El.mk' Try.underlying45 (z := .int .u8 0) (by kernel_rfl) rfl (by decide)
theorem rd_bc {w : World} {B : Nat} {A : Option Addr} {n : Nat} {l : List Nat} (h : Rd w B 1 A n (bc l)) (hn : 0 < n) :
    ∃ b o, A = some ⟨b, o, none⟩ ∧ b < B ∧ ∀ k (hk : k < l.length), w.cell? ⟨b, o + k, none⟩ = some (.int .i64 (l[k] : Nat)) := by
  obtain ⟨b, o, rfl, hb, hc⟩ := h.at_ hn
  refine ⟨b, o, rfl, hb, fun k hk => ?_⟩
  rw [hc k (by rw [bc_len]; exact hk)]
  simp [bc]
theorem rd_bclen {w : World} {B : Nat} {A : Option Addr} {n : Nat} {l : List Nat} (h : Rd w B 1 A n (bc l)) : l.length = n := by have := h.len; rw [bc_len] at this; omega
def pd (l : List Nat) (k : Nat) : List Nat := l.take k ++ List.replicate (k - l.length) 0
theorem pd_len (l : List Nat) (k : Nat) : (pd l k).length = k := by simp [pd]; omega
theorem pd_lt {l : List Nat} (h : ∀ d ∈ l, d < 2) (k : Nat) : ∀ d ∈ pd l k, d < 2 := by
  intro d hd
  rcases List.mem_append.1 hd with hd | hd
  · exact h d (List.mem_of_mem_take hd)
  · have := (List.mem_replicate.1 hd).2; omega
theorem pd_yes {l : List Nat} {k : Nat} (h : k < l.length) : num (pd l (k + 1)) = 2 * num (pd l k) + l[k] := by
  unfold pd
  rw [List.take_succ_eq_append_getElem h, show k + 1 - l.length = 0 from by omega, show k - l.length = 0 from by omega, List.replicate_zero, List.append_nil, List.append_nil, num_snoc]
theorem pd_no {l : List Nat} {k : Nat} (h : ¬ k < l.length) : num (pd l (k + 1)) = 2 * num (pd l k) := by
  unfold pd
  rw [show k + 1 - l.length = (k - l.length) + 1 from by omega, List.replicate_succ', ← List.append_assoc, num_snoc, List.take_of_length_le (by omega), List.take_of_length_le (by omega)]
  omega

set_option maxRecDepth 100000 in
set_option maxHeartbeats 4000000 in
theorem refText_any (A : Option Addr) (n c : Nat) (l : List Nat) (w : World) (h : Rd w w.heap.size 1 A n (bc l)) (hn : n ≤ 1000000) (h2 : ∀ d ∈ l, d < 2) :
    Calls Try.prog 25 #[.slice A n c] w fun e w' => e = .returned (str (textB l)) ∧ Below w.heap.size w w' := by
  have hl := rd_bclen h
  have hl1 : l.length ≤ n := by omega
  have hl2 : n ≤ l.length := by omega
  have H2 := Lib.hid h2
  have HT0 := Lib.hid (show textB l = [] ++ textB (l.drop (8 * 0)) from rfl)
  clear hl h2
  go_enter Try.func25, Try.ntmps25
  go_wp2_with fail
  go_loopw [3, 4] (fun out i wr => ∃ (m : Nat) (bs : List UInt8) (A2 : Option Addr) (c2 : Nat), i = .int .i64 ((8 * m : Nat) : Int) ∧ out = .slice A2 m c2 ∧ m ≤ n ∧ textB l = bs ++ textB (l.drop (8 * m)) ∧ Own wr w.heap.size 5 1 A2 m c2 (byts bs) ∧ Below w.heap.size w wr) (fun _ i _ => n + 8 - (intOf i).toNat)
  case atStart => exact ⟨0, [], none, 0, by simp, rfl, by omega, HT0.out, Own.nil _ _ _ _, (by first | exact Below.refl _ _ | (repeat (first | exact Below.refl _ _ | assumption | refine Below.drew ?_ | refine Below.drewN_ ?_ _ | refine Below.alloc ?_ (by first | exact Nat.le_refl _ | (simp; done) | (simp; omega) | omega) _ | refine Below.setCell ?_ (by first | exact Nat.le_refl _ | (simp; done) | (simp; omega) | omega) _ | (refine Below.trans ?_ (Below.mono (by assumption) (by first | exact Nat.le_refl _ | (simp; done) | (simp; omega) | omega))))))⟩
  case round =>
    obtain ⟨m, bs, A2, c2, rfl, rfl, hm, hT, o2, hbw⟩ := hrel
    have HT := Lib.hid hT
    clear hT
    have hsz := hbw.size
    by_cases hlt : 8 * m < n
    · obtain ⟨b, o, rfl, hb, hc⟩ := rd_bc (h.below hbw) (by omega)
      have HC := Lib.hid hc
      have hltI : ((8 * m : Nat) : Int) < (n : Int) := by omega
      have hne : l.drop (8 * m) ≠ [] := by
        intro e
        have := congrArg List.length e
        rw [List.length_drop] at this
        simp at this
        omega
      have HS := Lib.hid (textB_cons hne)
      have HD := Lib.hid (fun d hd => H2.out d (List.mem_of_mem_drop hd) : ∀ d ∈ l.drop (8 * m), d < 2)
      have hdl : (l.drop (8 * m)).length = n - 8 * m := by rw [List.length_drop]; omega
      obtain ⟨wo, hwo⟩ : ∃ wo : World, wo = wr := ⟨_, rfl⟩
      clear hc hne
      go_wp2_with fail
      go_loop [5, 6] (fun bv kv => ∃ k : Nat, k ≤ 8 ∧ kv = .int .i64 k ∧ bv = .int .i64 (num (pd (l.drop (8 * m)) k) : Nat)) (fun _ kv => 8 - (intOf kv).toNat)
      case atStart => exact ⟨0, by omega, rfl, by simp [pd, num]⟩
      case round =>
        obtain ⟨k, hk, rfl, rfl⟩ := hrel
        have hnl := num_lt _ (pd_lt HD.out k)
        rw [pd_len] at hnl
        have hn256 : num (pd (l.drop (8 * m)) k) ≤ 256 := by
          have : 2 ^ k ≤ 2 ^ 8 := Nat.pow_le_pow_right (by omega) hk
          omega
        by_cases hk8 : k < 8
        · by_cases hin : 8 * m + k < n
          · have hcell := HC.out (8 * m + k) (by omega)
            have hdk : l[8 * m + k]'(by omega) < 2 := H2.out _ (List.getElem_mem _)
            have HY := Lib.hid (pd_yes (l := l.drop (8 * m)) (k := k) (by omega))
            rw [List.getElem_drop] at HY
            generalize hd : l[8 * m + k]'(by omega) = d at *
            generalize num (pd (l.drop (8 * m)) k) = y at *
            have hI : ((8 * m : Nat) : Int) + (k : Int) < (n : Int) := by omega
            have hI0 : (0 : Int) ≤ ((8 * m : Nat) : Int) + (k : Int) := by omega
            have htn : (((8 * m : Nat) : Int) + (k : Int)).toNat = 8 * m + k := by omega
            clear hd hnl
            go_wp2_with fail
            go_round
            case rel => exact ⟨k + 1, by omega, by go_num, by rw [HY.out]; go_num⟩
            case measure => simp [intOf]; omega
          · have HY := Lib.hid (pd_no (l := l.drop (8 * m)) (k := k) (by omega))
            generalize num (pd (l.drop (8 * m)) k) = y at *
            have hI : ¬ ((8 * m : Nat) : Int) + (k : Int) < (n : Int) := by omega
            clear hnl
            go_wp2_with fail
            go_round
            case rel => exact ⟨k + 1, by omega, by go_num, by rw [HY.out]; go_num⟩
            case measure => simp [intOf]; omega
        · obtain rfl : k = 8 := by omega
          have hoct : byts [oct (l.drop (8 * m))] = [.int .u8 (num (pd (l.drop (8 * m)) 8) : Nat)] := by
            simp only [byts, List.map_cons, List.map_nil, byt]
            congr 2
            show ((UInt8.ofNat (num (pd (l.drop (8 * m)) 8))).toNat : Int) = _
            rw [UInt8.toNat_ofNat']
            omega
          have HOC := Lib.hid hoct
          have hyb : (num (pd (l.drop (8 * m)) 8) : Int) < 256 := by omega
          generalize hy : num (pd (l.drop (8 * m)) 8) = y at *
          have hrn : Rd (wr.alloc (.cells #[.int .u8 (y : Nat)] 5)) (wr.heap.size + 1) 1 (some ⟨wr.heap.size, 0, none⟩) 1 (byts [oct (l.drop (8 * m))]) := by
            rw [hoct]
            exact rd_new (W0 := wr) (t := 5) (cs := [.int .u8 (y : Nat)]) (size := 1) (m := 1) rfl rfl
          clear hoct hy hnl
          go_wp2_with (at_builtin; with_reducible refine wp_append El_u82 rfl (s := .tmp 33) (x := .tmp 36) rfl rfl (o2.alloc _) rfl hrn (byts_one _) (by unfold maxLen; omega) (by omega) (by simp; omega) ?_; intro A4 c4 w4 o4 hg4 hat4; clear hrn)
          have hb4 := below_grown (hbw.alloc hbw.size _) hg4 (o2.alloc _) (Nat.le_refl _)
          have e1 : byts bs ++ byts [oct (l.drop (8 * m))] = byts (bs ++ [oct (l.drop (8 * m))]) := by simp [byts]
          rw [e1] at o4
          go_roundw
          case rel =>
            refine ⟨m + 1, _, A4, c4, by first | rfl | (congr 1; omega), rfl, by omega, ?_, o4, hb4⟩
            rw [HT.out, HS.out, List.drop_drop, show 8 * m + 8 = 8 * (m + 1) from by omega]
            simp
          case measure => simp [intOf]; omega
    · have hfin := HT.out
      rw [List.drop_of_length_le (by omega), textB_nil, List.append_nil] at hfin
      have HF := Lib.hid hfin
      have hltI : ¬ ((8 * m : Nat) : Int) < (n : Int) := by omega
      have hcv := run_bytes_str (P := Try.prog) wr (c := c2) Try.underlying45 Try.underlying5 Try.underlying9 o2.rd
      clear hfin
      go_wp2_with fail
      go_ret
      exact ⟨by rw [HF.out]; rfl, hbw⟩

theorem num_take {l : List Nat} {a j : Nat} (h : a + j < l.length) : num ((l.drop a).take (j + 1)) = 2 * num ((l.drop a).take j) + l[a + j] := by
  rw [List.take_succ_eq_append_getElem (by rw [List.length_drop]; omega), num_snoc, List.getElem_drop]
end BitW
end Go.Proofs.Ytdfclgpkhfpkhaa

namespace Go.Proofs.Ytdfclgpkhfpkhaa
set_option linter.unusedVariables false
set_option linter.unusedSimpArgs false
set_option linter.unnecessarySimpa false
open Go.RowKit
namespace BitW

theorem fieldsB_lt (l : List (Int × Int)) : ∀ d ∈ fieldsB l, d < 2 := by
  intro d h
  obtain ⟨f, _, hd⟩ := List.mem_flatMap.1 h
  exact dg_lt _ _ d hd
theorem getB_okl {l : List Nat} {p : Nat} {x : Int} (h : (getB l p x).2 = 0) : 0 ≤ x ∧ x ≤ 32 ∧ p + x.toNat ≤ l.length := by
  unfold getB at h
  split at h
  · cases h
  · split at h
    · cases h
    · omega
end BitW
end Go.Proofs.Ytdfclgpkhfpkhaa
