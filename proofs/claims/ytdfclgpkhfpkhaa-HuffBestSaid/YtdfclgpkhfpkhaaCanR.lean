/- The walks of canon's reference: the words. The walks of canon's reference: a word's bits, do bits begin it; are fields the same. The walks of canon's reference: a symbol is got, symbols are packed. -/
import Derived.Test.YtdfclgpkhfpkhaaCanW
import Derived.Test.YtdfclgpkhfpkhaaCanG
import Derived.Test.YtdfclgpkhfpkhaaReg2
import Derived.BigQuiet
namespace Go.Proofs.Ytdfclgpkhfpkhaa
set_option linter.unusedVariables false
set_option linter.unusedSimpArgs false
set_option linter.unnecessarySimpa false
open Go.RowKit
namespace LenW

def wordT (l : List Int) (n k i : Nat) : Int × Int := match l[i]? with | some m => if 0 < m ∧ (m < (n : Int) ∨ (m = (n : Int) ∧ i < k)) then wordF l i else (0, 0) | none => (0, 0)
def wordsT (l : List Int) (n k : Nat) : List (Int × Int) := (List.range l.length).map (wordT l n k)
theorem wordsT_len (l : List Int) (n k : Nat) : (wordsT l n k).length = l.length := by simp [wordsT]
theorem wordsT_one (l : List Int) : wordsT l 1 0 = List.replicate l.length (0, 0) := by
  apply List.ext_getElem
  · simp [wordsT]
  · intro i h1 h2
    rw [wordsT_len] at h1
    simp only [wordsT, wordT, List.getElem_map, List.getElem_range, List.getElem_replicate, List.getElem?_eq_getElem h1]
    rw [if_neg (by omega)]
theorem wordsT_next (l : List Int) (n : Nat) : wordsT l (n + 1) 0 = wordsT l n l.length := by
  apply List.ext_getElem
  · simp [wordsT]
  · intro i h1 h2
    rw [wordsT_len] at h1
    simp only [wordsT, wordT, List.getElem_map, List.getElem_range, List.getElem?_eq_getElem h1]
    by_cases h : 0 < l[i] ∧ l[i] < ((n + 1 : Nat) : Int)
    · rw [if_pos (by omega), if_pos (by omega)]
    · rw [if_neg (by omega), if_neg (by omega)]
theorem wordsT_skip (l : List Int) (n k : Nat) (h : k < l.length) (hn : ¬ l[k] = (n : Int)) : wordsT l n (k + 1) = wordsT l n k := by
  apply List.ext_getElem
  · simp [wordsT]
  · intro i h1 h2
    rw [wordsT_len] at h1
    simp only [wordsT, wordT, List.getElem_map, List.getElem_range, List.getElem?_eq_getElem h1]
    by_cases hik : i = k
    · subst hik
      by_cases h : 0 < l[i] ∧ l[i] < (n : Int)
      · rw [if_pos (by omega), if_pos (by omega)]
      · rw [if_neg (by omega), if_neg (by omega)]
    · by_cases h : 0 < l[i] ∧ (l[i] < (n : Int) ∨ (l[i] = (n : Int) ∧ i < k))
      · rw [if_pos (by omega), if_pos h]
      · rw [if_neg (by omega), if_neg h]
theorem wordsT_set (l : List Int) (n k : Nat) (h : k < l.length) (hn : l[k] = (n : Int)) (h0 : 0 < n) : wordsT l n (k + 1) = (wordsT l n k).set k (wordF l k) := by
  apply List.ext_getElem
  · simp [wordsT]
  · intro i h1 h2
    rw [wordsT_len] at h1
    rw [List.getElem_set]
    simp only [wordsT, wordT, List.getElem_map, List.getElem_range, List.getElem?_eq_getElem h1]
    by_cases hik : k = i
    · subst hik
      rw [if_pos rfl, if_pos (by omega)]
    · rw [if_neg hik]
      by_cases h : 0 < l[i] ∧ (l[i] < (n : Int) ∨ (l[i] = (n : Int) ∧ i < k))
      · rw [if_pos (by omega), if_pos h]
      · rw [if_neg (by omega), if_neg h]
theorem wordsT_all (l : List Int) (h : okL l = true) : wordsT l 16 0 = wordsF l := by
  apply List.ext_getElem
  · simp [wordsT, wordsF]
  · intro i h1 h2
    rw [wordsT_len] at h1
    have := okL_at l i h1 h
    simp only [wordsT, wordT, wordsF, List.getElem_map, List.getElem_range, List.getElem?_eq_getElem h1]
    by_cases h0 : 0 < l[i]
    · rw [if_pos (by omega)]
    · rw [if_neg (by omega), word_no l i h1 h0]
theorem cnt_take_none (l : List Int) (k n : Nat) (h : k < l.length) (hn : ¬ l[k] = (n : Int)) : cntL (l.take (k + 1)) n = cntL (l.take k) n := by rw [cntL_snoc l k n h, if_neg (by omega)]; omega
theorem cnt_take_one (l : List Int) (k n : Nat) (h : k < l.length) (hn : l[k] = (n : Int)) (h0 : 0 < n) : cntL (l.take (k + 1)) n = cntL (l.take k) n + 1 := by rw [cntL_snoc l k n h, if_pos (by omega)]
theorem lazy_next (l : List Int) (nx la n : Nat) (hla : la ≤ n) (h : nx * 2 ^ (n - la) = fstL l n + cntL (l.take l.length) n) : nx * 2 ^ (n + 1 - la) = fstL l (n + 1) + cntL (l.take 0) (n + 1) := by
  rw [show n + 1 - la = (n - la) + 1 by omega, Nat.pow_succ, ← Nat.mul_assoc, h, List.take_length, fstL]
  simp [cntL]
  omega
set_option maxRecDepth 100000 in
set_option maxHeartbeats 4000000 in
theorem refWords_no (A : Option Addr) (n c : Nat) (l : List Int) (w : World) (h : Rd w w.heap.size 1 A n (ints l)) (hn : n ≤ 1000000) (v : Int) (hk : chkL l = v) (hv : ¬ v = 0) :
    Calls Try.prog 48 #[.slice A n c] w fun e w' => e = .returned (.tuple #[.slice none 0 0, .int .i64 v]) ∧ w' = w := by
  have C := refCheck_any A n c l w h hn v hk
  have hvI : (v != 0) = true := by simp [hv]
  go_enter Try.func48, Try.ntmps48
  go_wp2_with fail
  refine C.mono ?_
  rintro e w1 ⟨rfl, rfl⟩
  go_wp2_with fail
  go_ret2
  exact ⟨rfl, rfl⟩
set_option maxRecDepth 100000 in
set_option maxHeartbeats 4000000 in
theorem refWords_yes (A : Option Addr) (n c : Nat) (l : List Int) (w : World) (h : Rd w w.heap.size 1 A n (ints l)) (hn : n ≤ 1000000) (hk : chkL l = 0) :
    Calls Try.prog 48 #[.slice A n c] w fun e w' => e = .returned (.tuple #[.slice (some ⟨w.heap.size, 0, none⟩) n n, .int .i64 0]) ∧ Blk w' w.heap.size 85 (fcells (wordsF l)).toArray ∧ Below w.heap.size w w' := by
  have CK := refCheck_any A n c l w h hn 0 hk
  obtain ⟨h257, hok, hsum⟩ := chk0 hk
  have hl : l.length = n := rd_len h
  have hn3 : n ≤ 257 := by omega
  have hmk := run_made (P := Try.prog) 72 85 (.agg #[.int .i64 0, .int .i64 0]) 2 16 Try.underlying72 (by kernel_rfl) n (by omega) (by omega) w
  rw [show (Value.agg #[.int .i64 0, .int .i64 0]).cells = #[.int .i64 0, .int .i64 0] from rfl, made_fields] at hmk
  have bF0 := Blk.new w 85 (fcells (List.replicate n (0, 0))).toArray
  have HB0 : Below w.heap.size w (w.alloc (.cells (fcells (List.replicate n (0, 0))).toArray 85)) := (Below.refl _ w).alloc (Nat.le_refl _) _
  have HROOM := Lib.hid (fun m h => room l m h hsum)
  have HSK := Lib.hid hsum
  have HALL := Lib.hid (wordsT_all l hok)
  clear hsum hk hok
  go_enter Try.func48, Try.ntmps48
  go_wp2_with fail
  refine CK.mono ?_
  rintro e w1 ⟨rfl, rfl⟩
  clear CK
  go_wp2_with fail
  clear hmk
  generalize hW : w1.alloc (.cells (fcells (List.replicate n (0, 0))).toArray 85) = W at *
  clear hW
  go_loopw [6, 7, 8] (fun nx la i wr => ∃ (x y m : Nat), nx = .int .i64 x ∧ la = .int .i64 y ∧ i = .int .i64 m ∧ 1 ≤ m ∧ m ≤ 16 ∧ y ≤ m ∧ x * 2 ^ (m - y) = fstL l m + cntL (l.take 0) m ∧ Blk wr w1.heap.size 85 (fcells (wordsT l m 0)).toArray ∧ Below w1.heap.size w1 wr) (fun _ _ i _ => 16 - (intOf i).toNat)
  case atStart => exact ⟨0, 0, 1, rfl, rfl, rfl, by omega, by omega, by omega, by rw [show fstL l 1 = 2 * (fstL l 0 + cntL l 0) from rfl, cntL_zero]; simp [fstL, cntL], by rw [wordsT_one, hl]; exact bF0, HB0⟩
  case round =>
    obtain ⟨x, y, m, rfl, rfl, rfl, hm1, hm2, hy, hX, bF, HB⟩ := hrel
    clear bF0 HB0
    have HX := Lib.hid hX
    clear hX
    by_cases hlt : m ≤ 15
    · have hmI : (m : Int) ≤ 15 := by omega
      go_wp2_with fail
      go_loopw [6, 7, 9] (fun nx la s wr => ∃ (x y k : Nat), nx = .int .i64 x ∧ la = .int .i64 y ∧ s = .int .i64 k ∧ k ≤ n ∧ y ≤ m ∧ x * 2 ^ (m - y) = fstL l m + cntL (l.take k) m ∧ Blk wr w1.heap.size 85 (fcells (wordsT l m k)).toArray ∧ Below w1.heap.size w1 wr) (fun _ _ s _ => n - (intOf s).toNat)
      case atStart => exact ⟨x, y, 0, rfl, rfl, rfl, by omega, hy, HX.out, bF, HB⟩
      case round =>
        obtain ⟨x2, y2, k, rfl, rfl, rfl, hkn, hy2, hX2, bF2, HB2⟩ := hrel
        clear bF HB HX
        have HX2 := Lib.hid hX2
        clear hX2
        by_cases hks : k < n
        · have hkl : k < l.length := by omega
          obtain ⟨b, o, rfl, hb, hc⟩ := rd_ints (h.below HB2) (by omega)
          have d0 : wr.cell? ⟨b, o + k, none⟩ = some (.int .i64 l[k]) := hc k hkl
          clear hc
          by_cases he : l[k] = (m : Int)
          · rw [he] at d0
            have hne : ((m : Int) != (m : Int)) = false := by simp
            have HS := Lib.hid (wordsT_set l m k hkl he (by omega))
            have HWA := Lib.hid (word_at l k hkl (by omega))
            have HCO := Lib.hid (cnt_take_one l k m hkl he (by omega))
            have hXb : fstL l m + cntL (l.take k) m ≤ 32768 := by
              have h1 := HROOM.out m hlt
              have h2 := cntL_take l k m
              have h3 : (2 : Nat) ^ m ≤ 2 ^ 15 := Nat.pow_le_pow_right (by omega) hlt
              omega
            have HHE := Lib.hid he
            clear he
            obtain ⟨X, hXe⟩ : ∃ X, fstL l m + cntL (l.take k) m = X := ⟨_, rfl⟩
            rw [hXe] at HX2 hXb
            have HXE := Lib.hid hXe
            clear hXe
            have hki : (k : Int) < (n : Int) := by omega
            have hki0 : (0 : Int) ≤ (k : Int) := by omega
            have WL : (wordsT l m k).length = l.length := wordsT_len l m k
            have WS := Lib.hid (show ((fcells (wordsT l m k)).toArray.setIfInBounds (k * 2) (.int .i64 (X : Nat))).setIfInBounds (k * 2 + 1) (.int .i64 (m : Nat)) = (fcells (wordsT l m (k + 1))).toArray by
              rw [HS.out, HWA.out, HHE.out, Int.toNat_natCast, HXE.out, fcells_set _ k (by rw [WL]; exact hkl)]; simp)
            obtain ⟨v0, hv0⟩ : ∃ v, (fcells (wordsT l m k)).toArray[k * 2]? = some v := ⟨_, by rw [List.getElem?_toArray]; exact List.getElem?_eq_getElem (by rw [fcells_len, WL]; omega)⟩
            obtain ⟨v1, hv1⟩ : ∃ v, (fcells (wordsT l m k)).toArray[k * 2 + 1]? = some v := ⟨_, by rw [List.getElem?_toArray]; exact List.getElem?_eq_getElem (by rw [fcells_len, WL]; omega)⟩
            have cL := bF2.cell_ _ hv0
            have cR := bF2.cell_ _ hv1
            have fL := bF2.frozen (k * 2)
            have fR := bF2.frozen (k * 2 + 1)
            clear hv0 hv1 WL
            go_wp2_with fail
            go_loopw [6, 7] (fun nx la wr' => ∃ (x y : Nat), nx = .int .i64 x ∧ la = .int .i64 y ∧ y ≤ m ∧ x * 2 ^ (m - y) = X ∧ wr' = wr) (fun _ la _ => m - (intOf la).toNat)
            case atStart => exact ⟨x2, y2, rfl, rfl, hy2, HX2.out, rfl⟩
            case round =>
              obtain ⟨x3, y3, rfl, rfl, hy3, hX3, rfl⟩ := hrel
              clear HX2
              have hx3 : x3 ≤ 32768 := by
                have hp : 0 < 2 ^ (m - y3) := Nat.pow_pos (by omega)
                have := Nat.le_mul_of_pos_right x3 hp
                omega
              have HX3 := Lib.hid hX3
              clear hX3
              by_cases hlq : y3 < m
              · have HNX := Lib.hid (show (2 * x3) * 2 ^ (m - (y3 + 1)) = X by rw [← HX3.out, show m - y3 = (m - (y3 + 1)) + 1 by omega, Nat.pow_succ, Nat.mul_comm 2, Nat.mul_assoc, Nat.mul_comm 2])
                go_wp2_with fail
                go_roundw
                case rel => exact ⟨2 * x3, y3 + 1, by go_num, by go_num, by omega, HNX.out, (by trivial)⟩
                case measure => simp [intOf]; omega
              · obtain rfl : y3 = m := by omega
                have hxX : x3 = X := by have := HX3.out; rw [Nat.sub_self, Nat.pow_zero, Nat.mul_one] at this; exact this
                subst hxX
                go_wp2_with fail
                go_roundw
                case rel => exact ⟨x3 + 1, y3, k + 1, by go_num, rfl, by go_num, by omega, by omega, by rw [HCO.out, Nat.sub_self, Nat.pow_zero, Nat.mul_one]; have := HXE.out; omega, blk_eq ((bF2.set _ _).set _ _) WS.out, (HB2.setCell (Nat.le_refl _) _).setCell (Nat.le_refl _) _⟩
                case measure => simp [intOf]; omega
          · have hne : (l[k] != (m : Int)) = true := by simp [he]
            have HT := Lib.hid (wordsT_skip l m k hkl he)
            have HC := Lib.hid (cnt_take_none l k m hkl he)
            go_wp2_with fail
            go_roundw
            case rel => exact ⟨x2, y2, k + 1, rfl, rfl, by go_num, by omega, hy2, by rw [HC.out]; exact HX2.out, by rw [HT.out]; exact bF2, HB2⟩
            case measure => simp [intOf]; omega
        · obtain rfl : k = n := by omega
          have HL := Lib.hid (lazy_next l x2 y2 m hy2 (by rw [hl]; exact HX2.out))
          have HN := Lib.hid (wordsT_next l m)
          go_wp2_with fail
          go_roundw
          case rel => exact ⟨x2, y2, m + 1, rfl, rfl, by go_num, by omega, by omega, by omega, HL.out, by rw [HN.out, hl]; exact bF2, HB2⟩
          case measure => simp [intOf]; omega
    · obtain rfl : m = 16 := by omega
      rw [HALL.out] at bF
      go_wp2_with fail
      go_ret2
      exact ⟨rfl, bF, HB⟩
end LenW
end Go.Proofs.Ytdfclgpkhfpkhaa

namespace Go.Proofs.Ytdfclgpkhfpkhaa
set_option linter.unusedVariables false
set_option linter.unusedSimpArgs false
set_option linter.unnecessarySimpa false
open Go.RowKit
namespace LenW
open BitW (bc bc_app bc_one bc_len digits_any rd_bc rd_bclen)

def dgs (l : List Int) (s : Int) : List Nat := dg (wordV l s).1.2.toNat (wordV l s).1.1.toNat
theorem wordV_at (l : List Int) (k : Nat) (h : k < l.length) : wordV l k = if (wordF l k).2 = 0 then ((0, 0), 70) else (wordF l k, 0) := by
  unfold wordV
  rw [Int.toNat_natCast]
  by_cases h2 : (wordF l k).2 = 0
  · rw [if_pos h2, if_neg (by simp [h2])]
  · rw [if_neg h2, if_pos ⟨by omega, by omega, h2⟩]
theorem wordV_out (l : List Int) (s : Int) (h : s < 0 ∨ (l.length : Int) ≤ s) : wordV l s = ((0, 0), 70) := by
  unfold wordV
  rw [if_neg (by omega)]
theorem wordsF_at (l : List Int) (k : Nat) (h : k < l.length) : (wordsF l)[k]'(by simp [wordsF]; exact h) = wordF l k := by simp [wordsF]
set_option maxRecDepth 100000 in
set_option maxHeartbeats 2000000 in
theorem refWord_no (A : Option Addr) (n c : Nat) (l : List Int) (s : Int) (w : World) (h : Rd w w.heap.size 2 A n (fcells (wordsF l))) (hs : I64 s) (hv : ¬ (wordV l s).2 = 0) :
    Calls Try.prog 50 #[.slice A n c, .int .i64 s] w fun e w' => e = .returned (.tuple #[.slice none 0 0, .int .i64 70]) ∧ w' = w := by
  have hl : l.length = n := by have := rd_flen h; simpa [wordsF] using this
  by_cases h0 : s < 0
  · go_enter Try.func50, Try.ntmps50
    go_wp2_with fail
    go_ret2
    exact ⟨rfl, rfl⟩
  · obtain ⟨k, rfl⟩ := Int.eq_ofNat_of_zero_le (show 0 ≤ s by omega)
    by_cases hk : k < n
    · obtain ⟨b, o, rfl, hb, hc⟩ := rd_fcells h (by omega)
      obtain ⟨d0, d1⟩ := hc k (by simp [wordsF]; omega)
      rw [wordsF_at l k (by omega)] at d0 d1
      rw [wordV_at l k (by omega)] at hv
      have hy : (wordF l k).2 = 0 := by
        by_cases hy : (wordF l k).2 = 0
        · exact hy
        · rw [if_neg hy] at hv; exact absurd rfl hv
      rw [hy] at d1
      have hk0 : (0 : Int) ≤ (k : Int) := by omega
      have hkI : ¬ (k : Int) ≥ (n : Int) := by omega
      have hkI2 : (k : Int) < (n : Int) := by omega
      clear hc hv hy
      go_enter Try.func50, Try.ntmps50
      go_wp2_with fail
      go_ret2
      exact ⟨rfl, rfl⟩
    · have hkI : (k : Int) ≥ (n : Int) := by omega
      clear hv
      go_enter Try.func50, Try.ntmps50
      go_wp2_with fail
      go_ret2
      exact ⟨rfl, rfl⟩
set_option maxRecDepth 100000 in
set_option maxHeartbeats 2000000 in
theorem refWord_yes (A : Option Addr) (n c : Nat) (l : List Int) (hk : chkL l = 0) (s : Int) (w : World) (h : Rd w w.heap.size 2 A n (fcells (wordsF l))) (hs : I64 s) (hv : (wordV l s).2 = 0) :
    Calls Try.prog 50 #[.slice A n c, .int .i64 s] w fun e w' => ∃ A2 k, e = .returned (.tuple #[.slice A2 k k, .int .i64 0]) ∧ k ≤ 32 ∧ Own w' w.heap.size 3 1 A2 k k (bc (dgs l s)) ∧ Below w.heap.size w w' := by
  have hl : l.length = n := by have := rd_flen h; simpa [wordsF] using this
  have hfit := (word_fits l hk s hv)
  have h0 : ¬ s < 0 := fun e => by rw [wordV_out l s (.inl e)] at hv; exact absurd hv (by decide)
  obtain ⟨k, rfl⟩ := Int.eq_ofNat_of_zero_le (show 0 ≤ s by omega)
  have hkn : k < n := Decidable.byContradiction fun e => by rw [wordV_out l k (.inr (by omega))] at hv; exact absurd hv (by decide)
  obtain ⟨b, o, rfl, hb, hc⟩ := rd_fcells h (by omega)
  obtain ⟨d0, d1⟩ := hc k (by simp [wordsF]; omega)
  rw [wordsF_at l k (by omega)] at d0 d1
  have hva := wordV_at l k (by omega)
  have hy : ¬ (wordF l k).2 = 0 := fun e => by rw [hva, if_pos e] at hv; exact absurd hv (by decide)
  rw [if_neg hy] at hva
  unfold dgs
  rw [hva] at hfit ⊢
  obtain ⟨⟨x, y⟩, hxy⟩ : ∃ z, wordF l k = z := ⟨_, rfl⟩
  rw [hxy] at d0 d1 hy hfit ⊢
  dsimp only at d0 d1 hy hfit ⊢
  obtain ⟨hfit, h64⟩ := hfit
  have hk0 : (0 : Int) ≤ (k : Int) := by omega
  have hkI : ¬ (k : Int) ≥ (n : Int) := by omega
  have hkI2 : (k : Int) < (n : Int) := by omega
  have hyI : (y == 0) = false := by simp [hy]
  have hyd : decide (y = 0) = false := by simp [hy]
  have C := fun w => digits_any x y w h64
  have HB : Below w.heap.size w w := Below.refl _ _
  have KEEP := Lib.hid (fun (w' : World) (h : Below w.heap.size w w') => show w'.cell? ⟨b, o + k * 2, none⟩ = some (.int .i64 x) ∧ w'.cell? ⟨b, o + k * 2 + 1, none⟩ = some (.int .i64 y) from ⟨(h.cell (p := ⟨b, o + k * 2, none⟩) hb).trans d0, (h.cell (p := ⟨b, o + k * 2 + 1, none⟩) hb).trans d1⟩)
  have HF := Lib.hid hfit
  clear hc hv hxy hva hfit h64 hy
  go_enter Try.func50, Try.ntmps50
  go_wp2_with fail
  have zHB := HB.size
  refine wp_region_held_drew (S := (fun w' => w'.cell? ⟨b, o + k * 2, none⟩ = some (.int .i64 x) ∧ w'.cell? ⟨b, o + k * 2 + 1, none⟩ = some (.int .i64 y))) (by kernel_rfl) ?_ (fun hHeld => ?_)
  · replace HB := Below.drew HB; (try dsimp only); exact KEEP.out _ HB
  replace HB := Below.drew HB
  have zHB := HB.size
  refine take_movev (v := ?vu1x0) 0 (Operand.tmp 0) rfl rfl (by first | exact .inl rfl | exact .inr rfl) rfl (by kernel_rfl) (by kernel_rfl) (by kernel_rfl) (fun _ _ _ h => h) (by assumption) ?yu1x0 ?ru1x0
  case yu1x0 => (go_simp; try (with_reducible rfl))
  simp only [List.setIfInBounds_toArray, List.set_cons_zero, List.set_cons_succ]
  refine take_movev (v := ?vu1x1) 1 (Operand.tmp 1) rfl rfl (by first | exact .inl rfl | exact .inr rfl) rfl (by kernel_rfl) (by kernel_rfl) (by kernel_rfl) (fun _ _ _ h => h) (by assumption) ?yu1x1 ?ru1x1
  case yu1x1 => (go_simp; try (with_reducible rfl))
  simp only [List.setIfInBounds_toArray, List.set_cons_zero, List.set_cons_succ]
  refine take_op (v := ?vu1x2) 2 (Op.indexAddr 72 (Operand.tmp 25) (Operand.tmp 26)) 0 rfl rfl rfl rfl rfl (by kernel_rfl) (by kernel_rfl) (by kernel_rfl) (fun _ _ _ h => h) ?yu1x2 (by assumption) ?ru1x2
  case yu1x2 => (intro w' hSw; (try dsimp only at hSw); go_simp; try (with_reducible rfl))
  simp only [List.setIfInBounds_toArray, List.set_cons_zero, List.set_cons_succ]
  refine take_op (v := ?vu1x3) 3 (Op.fieldAddr 85 (Operand.tmp 27) 0) 0 rfl rfl rfl rfl rfl (by kernel_rfl) (by kernel_rfl) (by kernel_rfl) (fun _ _ _ h => h) ?yu1x3 (by assumption) ?ru1x3
  case yu1x3 => (intro w' hSw; (try dsimp only at hSw); go_simp; try (with_reducible rfl))
  simp only [List.setIfInBounds_toArray, List.set_cons_zero, List.set_cons_succ]
  refine take_op (v := ?vu1x4) 4 (Op.load 3 (Operand.tmp 28)) 3 rfl rfl rfl rfl rfl (by kernel_rfl) (by kernel_rfl) (by kernel_rfl) (fun _ _ _ h => h) ?yu1x4 (by assumption) ?ru1x4
  case yu1x4 => (intro w' hSw; (try dsimp only at hSw); go_simp; try (with_reducible rfl))
  simp only [List.setIfInBounds_toArray, List.set_cons_zero, List.set_cons_succ]
  refine take_movev (v := ?vu1x5) 5 (Operand.tmp 0) rfl rfl (by first | exact .inl rfl | exact .inr rfl) rfl (by kernel_rfl) (by kernel_rfl) (by kernel_rfl) (fun _ _ _ h => h) (by assumption) ?yu1x5 ?ru1x5
  case yu1x5 => (go_simp; try (with_reducible rfl))
  simp only [List.setIfInBounds_toArray, List.set_cons_zero, List.set_cons_succ]
  refine take_movev (v := ?vu1x6) 6 (Operand.tmp 1) rfl rfl (by first | exact .inl rfl | exact .inr rfl) rfl (by kernel_rfl) (by kernel_rfl) (by kernel_rfl) (fun _ _ _ h => h) (by assumption) ?yu1x6 ?ru1x6
  case yu1x6 => (go_simp; try (with_reducible rfl))
  simp only [List.setIfInBounds_toArray, List.set_cons_zero, List.set_cons_succ]
  refine take_op (v := ?vu1x7) 7 (Op.indexAddr 72 (Operand.tmp 30) (Operand.tmp 31)) 0 rfl rfl rfl rfl rfl (by kernel_rfl) (by kernel_rfl) (by kernel_rfl) (fun _ _ _ h => h) ?yu1x7 (by assumption) ?ru1x7
  case yu1x7 => (intro w' hSw; (try dsimp only at hSw); go_simp; try (with_reducible rfl))
  simp only [List.setIfInBounds_toArray, List.set_cons_zero, List.set_cons_succ]
  refine take_op (v := ?vu1x8) 8 (Op.fieldAddr 85 (Operand.tmp 32) 1) 0 rfl rfl rfl rfl rfl (by kernel_rfl) (by kernel_rfl) (by kernel_rfl) (fun _ _ _ h => h) ?yu1x8 (by assumption) ?ru1x8
  case yu1x8 => (intro w' hSw; (try dsimp only at hSw); go_simp; try (with_reducible rfl))
  simp only [List.setIfInBounds_toArray, List.set_cons_zero, List.set_cons_succ]
  refine take_op (v := ?vu1x9) 9 (Op.load 3 (Operand.tmp 33)) 3 rfl rfl rfl rfl rfl (by kernel_rfl) (by kernel_rfl) (by kernel_rfl) (fun _ _ _ h => h) ?yu1x9 (by assumption) ?ru1x9
  case yu1x9 => (intro w' hSw; (try dsimp only at hSw); go_simp; try (with_reducible rfl))
  simp only [List.setIfInBounds_toArray, List.set_cons_zero, List.set_cons_succ]
  refine wpAnyH_ready (rs := [10]) (by kernel_rfl) (by simp) (AllReadyH.cons rfl (fun K10 hK10 => ?ku1x10) AllReadyH.nil)
  refine take_calls 10 68 [Operand.tmp 29, Operand.tmp 34] #[3, 3] rfl rfl (by kernel_rfl) (fun args w => run_enter Try.func68 (by kernel_rfl) rfl args w) ?_
  refine (C _).mono ?_
  rintro e w10 ⟨A3, k3, xs, rfl, hk3, o3, hxs, hb10⟩
  refine ⟨_, rfl, ?_⟩
  have z10 := hb10.size
  try simp only [World.size_drew] at z10
  replace HB := HB.trans (hb10.mono (by first | exact HB.size | omega))
  have zHB10 := HB.size
  refine hK10.out _ _ ?su1x10 (fun hHeld => ?ru1x10)
  case su1x10 => ((try dsimp only); exact KEEP.out _ HB)
  try simp only [List.setIfInBounds_toArray, List.set_cons_zero, List.set_cons_succ]
  refine take_movev (v := ?vu1x11) 11 (Operand.tmp 35) rfl rfl (by first | exact .inl rfl | exact .inr rfl) rfl (by kernel_rfl) (by kernel_rfl) (by kernel_rfl) (fun _ _ _ h => h) (by assumption) ?yu1x11 ?ru1x11
  case yu1x11 => (go_simp; try (with_reducible rfl))
  simp only [List.setIfInBounds_toArray, List.set_cons_zero, List.set_cons_succ]
  refine take_op (v := ?vu1x12) 12 (Op.extract (Operand.tmp 24) 0) 22 rfl rfl rfl rfl rfl (by kernel_rfl) (by kernel_rfl) (by kernel_rfl) (fun _ _ _ h => h) ?yu1x12 (by assumption) ?ru1x12
  case yu1x12 => (intro w' hSw; (try dsimp only at hSw); go_simp; try (with_reducible rfl))
  simp only [List.setIfInBounds_toArray, List.set_cons_zero, List.set_cons_succ]
  refine take_op (v := ?vu1x13) 13 (Op.extract (Operand.tmp 24) 1) 4 rfl rfl rfl rfl rfl (by kernel_rfl) (by kernel_rfl) (by kernel_rfl) (fun _ _ _ h => h) ?yu1x13 (by assumption) ?ru1x13
  case yu1x13 => (intro w' hSw; (try dsimp only at hSw); go_simp; try (with_reducible rfl))
  simp only [List.setIfInBounds_toArray, List.set_cons_zero, List.set_cons_succ]
  refine take_op (v := ?vu1x14) 14 (Op.assign (Operand.tmp 36)) 22 rfl rfl rfl rfl rfl (by kernel_rfl) (by kernel_rfl) (by kernel_rfl) (fun _ _ _ h => h) ?yu1x14 (by assumption) ?ru1x14
  case yu1x14 => (intro w' hSw; (try dsimp only at hSw); go_simp; try (with_reducible rfl))
  simp only [List.setIfInBounds_toArray, List.set_cons_zero, List.set_cons_succ]
  refine take_op (v := ?vu1x15) 15 (Op.assign (Operand.tmp 37)) 4 rfl rfl rfl rfl rfl (by kernel_rfl) (by kernel_rfl) (by kernel_rfl) (fun _ _ _ h => h) ?yu1x15 (by assumption) ?ru1x15
  case yu1x15 => (intro w' hSw; (try dsimp only at hSw); go_simp; try (with_reducible rfl))
  simp only [List.setIfInBounds_toArray, List.set_cons_zero, List.set_cons_succ]
  refine wpAnyH_done (by kernel_rfl) ?_ _
  have hx3 := hxs HF.out
  subst hx3
  go_wp2_with fail
  go_ret2
  exact ⟨A3, k3, rfl, hk3, o3, HB⟩

/-- Do bits begin with a row, as far as they go; do they have all of it. -/
def begF : List Nat → List Nat → Bool × Bool
  | _, [] => (true, true)
  | [], _ :: _ => (true, false)
  | x :: L, y :: D => if x = y then begF L D else (false, false)
end LenW
end Go.Proofs.Ytdfclgpkhfpkhaa

namespace Go.Proofs.Ytdfclgpkhfpkhaa
set_option linter.unusedVariables false
set_option linter.unusedSimpArgs false
set_option linter.unnecessarySimpa false
open Go.RowKit
namespace LenW
open BitW (bc bc_app bc_one bc_len El_int2 refText_any rd_bclen)

/-- The reference's getting: f symbols from s on. -/
def rgo (l : List Int) (L : List Nat) : Nat → Nat → Int → Int × Nat × Int
  | 0, _, e => (0, 0, e)
  | f + 1, s, e => if (wordV l s).2 = 0 then (if (begF L (dgs l s)).2 = true then ((s : Int), (dgs l s).length, 0) else rgo l L f (s + 1) (if (begF L (dgs l s)).1 = true then 4 else e)) else rgo l L f (s + 1) e
def refC (l : List Int) (L : List Nat) : Int × Nat × Int := rgo l L l.length 0 (if L.length = 0 then 4 else 40)
theorem wordsF_len (l : List Int) : (wordsF l).length = l.length := by simp [wordsF]
end LenW
end Go.Proofs.Ytdfclgpkhfpkhaa
