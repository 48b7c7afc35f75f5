/- The walks of canon's reference: the words. -/
import Derived.Test.YtedoeplhjmkllaaCanV
namespace Go.Proofs.Ytedoeplhjmkllaa
set_option linter.unusedVariables false
set_option linter.unusedSimpArgs false
set_option linter.unnecessarySimpa false
open Go.RowKit
namespace LenW

def wordT (l : List Int) (n k i : Nat) : Int × Int := match l[i]? with | some m => if 0 < m ∧ (m < (n : Int) ∨ (m = (n : Int) ∧ i < k)) then wordF l i else (0, 0) | none => (0, 0)
def wordsT (l : List Int) (n k : Nat) : List (Int × Int) := (List.range l.length).map (wordT l n k)
theorem wordsT_len (l : List Int) (n k : Nat) : (wordsT l n k).length = l.length := by simp [wordsT]
theorem wordsT_one (l : List Int) : wordsT l 1 0 = List.replicate l.length (0, 0) := by
  apply List.ext_getElem
  · simp [wordsT]
  · intro i h1 h2
    rw [wordsT_len] at h1
    simp only [wordsT, wordT, List.getElem_map, List.getElem_range, List.getElem_replicate, List.getElem?_eq_getElem h1]
    rw [if_neg (by omega)]
theorem wordsT_next (l : List Int) (n : Nat) : wordsT l (n + 1) 0 = wordsT l n l.length := by
  apply List.ext_getElem
  · simp [wordsT]
  · intro i h1 h2
    rw [wordsT_len] at h1
    simp only [wordsT, wordT, List.getElem_map, List.getElem_range, List.getElem?_eq_getElem h1]
    by_cases h : 0 < l[i] ∧ l[i] < ((n + 1 : Nat) : Int)
    · rw [if_pos (by omega), if_pos (by omega)]
    · rw [if_neg (by omega), if_neg (by omega)]
theorem wordsT_skip (l : List Int) (n k : Nat) (h : k < l.length) (hn : ¬ l[k] = (n : Int)) : wordsT l n (k + 1) = wordsT l n k := by
  apply List.ext_getElem
  · simp [wordsT]
  · intro i h1 h2
    rw [wordsT_len] at h1
    simp only [wordsT, wordT, List.getElem_map, List.getElem_range, List.getElem?_eq_getElem h1]
    by_cases hik : i = k
    · subst hik
      by_cases h : 0 < l[i] ∧ l[i] < (n : Int)
      · rw [if_pos (by omega), if_pos (by omega)]
      · rw [if_neg (by omega), if_neg (by omega)]
    · by_cases h : 0 < l[i] ∧ (l[i] < (n : Int) ∨ (l[i] = (n : Int) ∧ i < k))
      · rw [if_pos (by omega), if_pos h]
      · rw [if_neg (by omega), if_neg h]
theorem wordsT_set (l : List Int) (n k : Nat) (h : k < l.length) (hn : l[k] = (n : Int)) (h0 : 0 < n) : wordsT l n (k + 1) = (wordsT l n k).set k (wordF l k) := by
  apply List.ext_getElem
  · simp [wordsT]
  · intro i h1 h2
    rw [wordsT_len] at h1
    rw [List.getElem_set]
    simp only [wordsT, wordT, List.getElem_map, List.getElem_range, List.getElem?_eq_getElem h1]
    by_cases hik : k = i
    · subst hik
      rw [if_pos rfl, if_pos (by omega)]
    · rw [if_neg hik]
      by_cases h : 0 < l[i] ∧ (l[i] < (n : Int) ∨ (l[i] = (n : Int) ∧ i < k))
      · rw [if_pos (by omega), if_pos h]
      · rw [if_neg (by omega), if_neg h]
theorem wordsT_all (l : List Int) (h : okL l = true) : wordsT l 16 0 = wordsF l := by
  apply List.ext_getElem
  · simp [wordsT, wordsF]
  · intro i h1 h2
    rw [wordsT_len] at h1
    have := okL_at l i h1 h
    simp only [wordsT, wordT, wordsF, List.getElem_map, List.getElem_range, List.getElem?_eq_getElem h1]
    by_cases h0 : 0 < l[i]
    · rw [if_pos (by omega)]
    · rw [if_neg (by omega), word_no l i h1 h0]
theorem cnt_take_none (l : List Int) (k n : Nat) (h : k < l.length) (hn : ¬ l[k] = (n : Int)) : cntL (l.take (k + 1)) n = cntL (l.take k) n := by rw [cntL_snoc l k n h, if_neg (by omega)]; omega
theorem cnt_take_one (l : List Int) (k n : Nat) (h : k < l.length) (hn : l[k] = (n : Int)) (h0 : 0 < n) : cntL (l.take (k + 1)) n = cntL (l.take k) n + 1 := by rw [cntL_snoc l k n h, if_pos (by omega)]
theorem lazy_next (l : List Int) (nx la n : Nat) (hla : la ≤ n) (h : nx * 2 ^ (n - la) = fstL l n + cntL (l.take l.length) n) : nx * 2 ^ (n + 1 - la) = fstL l (n + 1) + cntL (l.take 0) (n + 1) := by
  rw [show n + 1 - la = (n - la) + 1 by omega, Nat.pow_succ, ← Nat.mul_assoc, h, List.take_length, fstL]
  simp [cntL]
  omega
set_option maxRecDepth 100000 in
set_option maxHeartbeats 4000000 in
theorem refWords_no (A : Option Addr) (n c : Nat) (l : List Int) (w : World) (h : Rd w w.heap.size 1 A n (ints l)) (hn : n ≤ 1000000) (v : Int) (hk : chkL l = v) (hv : ¬ v = 0) :
    Calls Try.prog 14 #[.slice A n c] w fun e w' => e = .returned (.tuple #[.slice none 0 0, .int .i64 v]) ∧ w' = w := by
  have C := refCheck_any A n c l w h hn v hk
  have hvI : (v != 0) = true := by simp [hv]
  go_enter Try.func14, Try.ntmps14
  go_wp2_with fail
  refine C.mono ?_
  rintro e w1 ⟨rfl, rfl⟩
  go_wp2_with fail
  go_ret2
  exact ⟨rfl, rfl⟩
set_option maxRecDepth 100000 in
set_option maxHeartbeats 4000000 in
theorem refWords_yes (A : Option Addr) (n c : Nat) (l : List Int) (w : World) (h : Rd w w.heap.size 1 A n (ints l)) (hn : n ≤ 1000000) (hk : chkL l = 0) :
    Calls Try.prog 14 #[.slice A n c] w fun e w' => e = .returned (.tuple #[.slice (some ⟨w.heap.size, 0, none⟩) n n, .int .i64 0]) ∧ Blk w' w.heap.size 47 (fcells (wordsF l)).toArray ∧ Below w.heap.size w w' := by
  have CK := refCheck_any A n c l w h hn 0 hk
  obtain ⟨h257, hok, hsum⟩ := chk0 hk
  have hl : l.length = n := rd_len h
  have hn3 : n ≤ 257 := by omega
  have hmk := run_made (P := Try.prog) 24 47 (.agg #[.int .i64 0, .int .i64 0]) 2 16 Try.underlying24 (by kernel_rfl) n (by omega) (by omega) w
  rw [show (Value.agg #[.int .i64 0, .int .i64 0]).cells = #[.int .i64 0, .int .i64 0] from rfl, made_fields] at hmk
  have bF0 := Blk.new w 47 (fcells (List.replicate n (0, 0))).toArray
  have HB0 : Below w.heap.size w (w.alloc (.cells (fcells (List.replicate n (0, 0))).toArray 47)) := (Below.refl _ w).alloc (Nat.le_refl _) _
  have HROOM := Lib.hid (fun m h => room l m h hsum)
  have HSK := Lib.hid hsum
  have HALL := Lib.hid (wordsT_all l hok)
  clear hsum hk hok
  go_enter Try.func14, Try.ntmps14
  go_wp2_with fail
  refine CK.mono ?_
  rintro e w1 ⟨rfl, rfl⟩
  clear CK
  go_wp2_with fail
  clear hmk
  generalize hW : w1.alloc (.cells (fcells (List.replicate n (0, 0))).toArray 47) = W at *
  clear hW
  go_loopw [6, 7, 8] (fun nx la i wr => ∃ (x y m : Nat), nx = .int .i64 x ∧ la = .int .i64 y ∧ i = .int .i64 m ∧ 1 ≤ m ∧ m ≤ 16 ∧ y ≤ m ∧ x * 2 ^ (m - y) = fstL l m + cntL (l.take 0) m ∧ Blk wr w1.heap.size 47 (fcells (wordsT l m 0)).toArray ∧ Below w1.heap.size w1 wr) (fun _ _ i _ => 16 - (intOf i).toNat)
  case atStart => exact ⟨0, 0, 1, rfl, rfl, rfl, by omega, by omega, by omega, by rw [show fstL l 1 = 2 * (fstL l 0 + cntL l 0) from rfl, cntL_zero]; simp [fstL, cntL], by rw [wordsT_one, hl]; exact bF0, HB0⟩
  case round =>
    obtain ⟨x, y, m, rfl, rfl, rfl, hm1, hm2, hy, hX, bF, HB⟩ := hrel
    clear bF0 HB0
    have HX := Lib.hid hX
    clear hX
    by_cases hlt : m ≤ 15
    · have hmI : (m : Int) ≤ 15 := by omega
      go_wp2_with fail
      go_loopw [6, 7, 9] (fun nx la s wr => ∃ (x y k : Nat), nx = .int .i64 x ∧ la = .int .i64 y ∧ s = .int .i64 k ∧ k ≤ n ∧ y ≤ m ∧ x * 2 ^ (m - y) = fstL l m + cntL (l.take k) m ∧ Blk wr w1.heap.size 47 (fcells (wordsT l m k)).toArray ∧ Below w1.heap.size w1 wr) (fun _ _ s _ => n - (intOf s).toNat)
      case atStart => exact ⟨x, y, 0, rfl, rfl, rfl, by omega, hy, HX.out, bF, HB⟩
      case round =>
        obtain ⟨x2, y2, k, rfl, rfl, rfl, hkn, hy2, hX2, bF2, HB2⟩ := hrel
        clear bF HB HX
        have HX2 := Lib.hid hX2
        clear hX2
        by_cases hks : k < n
        · have hkl : k < l.length := by omega
          obtain ⟨b, o, rfl, hb, hc⟩ := rd_ints (h.below HB2) (by omega)
          have d0 : wr.cell? ⟨b, o + k, none⟩ = some (.int .i64 l[k]) := hc k hkl
          clear hc
          by_cases he : l[k] = (m : Int)
          · rw [he] at d0
            have hne : ((m : Int) != (m : Int)) = false := by simp
            have HS := Lib.hid (wordsT_set l m k hkl he (by omega))
            have HWA := Lib.hid (word_at l k hkl (by omega))
            have HCO := Lib.hid (cnt_take_one l k m hkl he (by omega))
            have hXb : fstL l m + cntL (l.take k) m ≤ 32768 := by
              have h1 := HROOM.out m hlt
              have h2 := cntL_take l k m
              have h3 : (2 : Nat) ^ m ≤ 2 ^ 15 := Nat.pow_le_pow_right (by omega) hlt
              omega
            have HHE := Lib.hid he
            clear he
            obtain ⟨X, hXe⟩ : ∃ X, fstL l m + cntL (l.take k) m = X := ⟨_, rfl⟩
            rw [hXe] at HX2 hXb
            have HXE := Lib.hid hXe
            clear hXe
            have hki : (k : Int) < (n : Int) := by omega
            have hki0 : (0 : Int) ≤ (k : Int) := by omega
            have WL : (wordsT l m k).length = l.length := wordsT_len l m k
            have WS := Lib.hid (show ((fcells (wordsT l m k)).toArray.setIfInBounds (k * 2) (.int .i64 (X : Nat))).setIfInBounds (k * 2 + 1) (.int .i64 (m : Nat)) = (fcells (wordsT l m (k + 1))).toArray by
              rw [HS.out, HWA.out, HHE.out, Int.toNat_natCast, HXE.out, fcells_set _ k (by rw [WL]; exact hkl)]; simp)
            obtain ⟨v0, hv0⟩ : ∃ v, (fcells (wordsT l m k)).toArray[k * 2]? = some v := ⟨_, by rw [List.getElem?_toArray]; exact List.getElem?_eq_getElem (by rw [fcells_len, WL]; omega)⟩
            obtain ⟨v1, hv1⟩ : ∃ v, (fcells (wordsT l m k)).toArray[k * 2 + 1]? = some v := ⟨_, by rw [List.getElem?_toArray]; exact List.getElem?_eq_getElem (by rw [fcells_len, WL]; omega)⟩
            have cL := bF2.cell_ _ hv0
            have cR := bF2.cell_ _ hv1
            have fL := bF2.frozen (k * 2)
            have fR := bF2.frozen (k * 2 + 1)
            clear hv0 hv1 WL
            go_wp2_with fail
            go_loopw [6, 7] (fun nx la wr' => ∃ (x y : Nat), nx = .int .i64 x ∧ la = .int .i64 y ∧ y ≤ m ∧ x * 2 ^ (m - y) = X ∧ wr' = wr) (fun _ la _ => m - (intOf la).toNat)
            case atStart => exact ⟨x2, y2, rfl, rfl, hy2, HX2.out, rfl⟩
            case round =>
              obtain ⟨x3, y3, rfl, rfl, hy3, hX3, rfl⟩ := hrel
              clear HX2
              have hx3 : x3 ≤ 32768 := by
                have hp : 0 < 2 ^ (m - y3) := Nat.pow_pos (by omega)
                have := Nat.le_mul_of_pos_right x3 hp
                omega
              have HX3 := Lib.hid hX3
              clear hX3
              by_cases hlq : y3 < m
              · have HNX := Lib.hid (show (2 * x3) * 2 ^ (m - (y3 + 1)) = X by rw [← HX3.out, show m - y3 = (m - (y3 + 1)) + 1 by omega, Nat.pow_succ, Nat.mul_comm 2, Nat.mul_assoc, Nat.mul_comm 2])
                go_wp2_with fail
                go_roundw
                case rel => exact ⟨2 * x3, y3 + 1, by go_num, by go_num, by omega, HNX.out, (by trivial)⟩
                case measure => simp [intOf]; omega
              · obtain rfl : y3 = m := by omega
                have hxX : x3 = X := by have := HX3.out; rw [Nat.sub_self, Nat.pow_zero, Nat.mul_one] at this; exact this
                subst hxX
                go_wp2_with fail
                go_roundw
                case rel => exact ⟨x3 + 1, y3, k + 1, by go_num, rfl, by go_num, by omega, by omega, by rw [HCO.out, Nat.sub_self, Nat.pow_zero, Nat.mul_one]; have := HXE.out; omega, blk_eq ((bF2.set _ _).set _ _) WS.out, (HB2.setCell (Nat.le_refl _) _).setCell (Nat.le_refl _) _⟩
                case measure => simp [intOf]; omega
          · have hne : (l[k] != (m : Int)) = true := by simp [he]
            have HT := Lib.hid (wordsT_skip l m k hkl he)
            have HC := Lib.hid (cnt_take_none l k m hkl he)
            go_wp2_with fail
            go_roundw
            case rel => exact ⟨x2, y2, k + 1, rfl, rfl, by go_num, by omega, hy2, by rw [HC.out]; exact HX2.out, by rw [HT.out]; exact bF2, HB2⟩
            case measure => simp [intOf]; omega
        · obtain rfl : k = n := by omega
          have HL := Lib.hid (lazy_next l x2 y2 m hy2 (by rw [hl]; exact HX2.out))
          have HN := Lib.hid (wordsT_next l m)
          go_wp2_with fail
          go_roundw
          case rel => exact ⟨x2, y2, m + 1, rfl, rfl, by go_num, by omega, by omega, by omega, HL.out, by rw [HN.out, hl]; exact bF2, HB2⟩
          case measure => simp [intOf]; omega
    · obtain rfl : m = 16 := by omega
      rw [HALL.out] at bF
      go_wp2_with fail
      go_ret2
      exact ⟨rfl, bF, HB⟩
end LenW
end Go.Proofs.Ytedoeplhjmkllaa
