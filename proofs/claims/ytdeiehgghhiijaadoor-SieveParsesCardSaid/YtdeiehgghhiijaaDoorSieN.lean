/- Walks of the reference of package sieve: its words, two numbers, a fact. -/
import Derived.Test.YtdeiehgghhiijaaDoorSieB
import Derived.Test.YtdeiehgghhiijaaDoorSieS
import Derived.Test.YtdeiehgghhiijaaDoorWanI
import Derived.Test.YtdeiehgghhiijaaDoorWanK
namespace Go.Proofs.YtdeiehgghhiijaaDoor
set_option linter.unusedVariables false
set_option linter.unusedSimpArgs false
set_option linter.unnecessarySimpa false
open Go.RowKit
namespace SieW
open WanW (bef aft)

theorem El_rword : El Tryd.prog 65 69 2 24 := El.mk' Tryd.underlying65 (z := .agg #[.string ⟨#[]⟩, .int .i64 0]) (by kernel_rfl) rfl (by decide)
theorem w2_one (s : ByteArray) (p : Int) : ∀ u ∈ [Value.string s, .int .i64 p], u.oneCell' = true := by
  intro u hu
  simp only [List.mem_cons, List.not_mem_nil, or_false] at hu
  rcases hu with rfl | rfl <;> rfl
/-- The place from which the reference's next word goes. -/
def rfrom (st : List Wd × Int) (k : Nat) : Nat := if st.2 < 0 then k else st.2.toNat
theorem rfrom_pos (o : List Wd) (p k : Nat) : rfrom (o, (p : Int)) k = p := by unfold rfrom; rw [if_neg (by show ¬ (p : Int) < 0; omega)]; simp
/-- The reference's words: behind all of them an empty one, at the end. -/
def rwords (s : List UInt8) : List Wd := wordsP s ++ [([], (s.length : Int))]
set_option maxRecDepth 100000 in
set_option maxHeartbeats 8000000 in
theorem rwords_any (s : List UInt8) (w : World) (hs : s.length ≤ 1000) :
    Calls Tryd.prog 21 #[str s] w fun e w' => ∃ A n c, e = .returned (.slice A n c) ∧ n ≤ c ∧ c ≤ maxLen ∧ Rd w' w'.heap.size 2 A n (wcells (rwords s)) ∧ Below w.heap.size w w' := by
  go_enter Tryd.func21, Tryd.ntmps21
  go_wp2_with fail
  go_loopw [3, 4, 5] (fun o f i wr => ∃ (k : Nat) (A : Option Addr) (n c : Nat), k ≤ s.length + 1 ∧ i = .int .i64 k ∧ o = .slice A n c ∧ Below w.heap.size w wr ∧
    (k ≤ s.length → f = .int .i64 (rfrom (wst s k) k : Nat) ∧ Own wr w.heap.size 69 2 A n c (wcells (wst s k).1)) ∧ (k = s.length + 1 → Own wr w.heap.size 69 2 A n c (wcells (wordsP s)))) (fun _ _ i _ => s.length + 1 - (intOf i).toNat)
  case atStart => exact ⟨0, none, 0, 0, by omega, rfl, rfl, Below.refl _ _, fun _ => ⟨rfl, Own.nil _ _ _ _⟩, fun h => by omega⟩
  case round =>
    obtain ⟨k, A, n, c, hk, rfl, rfl, hbw, h1, h2⟩ := hrel
    have hz := hbw.size
    have hw1 : IntKind.i64.wrap ((k : Int) + 1) = (k : Int) + 1 := IntWalk.i64_in _ (by omega)
    have hk0 : (0 : Int) ≤ (k : Int) := by omega
    by_cases hlt : k < s.length
    · obtain ⟨rfl, oW⟩ := h1 (by omega)
      have hfr := wst_fr2 s k (by omega)
      have hol := wst_len s k (by omega)
      have hn : n ≤ 1000 := by have := oW.len; rw [wcells_len] at this; omega
      have HN1 := Lib.hid (fun h => wst_sp (s := s) hlt h)
      have HN2 := Lib.hid (fun h => wst_br (s := s) hlt h)
      have HN3 := Lib.hid (fun h h' => wst_no (s := s) hlt h h')
      generalize wst s k = st at *
      obtain ⟨o, fr⟩ := st
      dsimp only at *
      obtain ⟨x, hx1, hx2⟩ := WanW.str_at s k hlt
      rw [hx2] at HN1 HN2 HN3
      have HX := Lib.hid hx2
      have HOX := Lib.hid (ext_one hlt)
      have hkI : (k : Int) < (s.length : Int) := by omega
      have hkle : (k : Int) ≤ (s.length : Int) := by omega
      have hk1 : (k : Int) ≤ (k : Int) + 1 := by omega
      have hk2 : (k : Int) + 1 ≤ (s.length : Int) := by omega
      have hAb := oW.blk
      clear hx2 h1 h2 hol
      by_cases h32 : x = 32
      · have e32 : ((x.toNat : Int) != 32) = false := by rw [h32]; decide
        have HN := Lib.hid (HN1.out h32)
        clear HN1 HN2 HN3 h32
        rcases hfr with rfl | ⟨p, rfl, hp⟩
        · rw [show rfrom (o, -1) k = k from rfl]
          rw [shut_neg] at HN
          go_wp2_with fail
          go_roundw
          case rel => exact ⟨k + 1, A, n, c, by omega, by go_num, rfl, hbw, fun _ => ⟨by rw [HN.out]; show _ = Value.int .i64 ((k + 1 : Nat) : Int); go_num, by rw [HN.out]; exact oW⟩, fun h => by omega⟩
          case measure => simp [intOf]; omega
        · rw [show rfrom (o, (p : Int)) k = p from rfrom_pos o p k]
          rw [shut_pos] at HN
          have hp0 : (0 : Int) ≤ (p : Int) := by omega
          have hpi : (p : Int) < (k : Int) := by omega
          have hpi2 : (p : Int) ≤ (k : Int) := by omega
          have HE := Lib.hid (ext_take s p k)
          go_wp2_with (at_builtin; with_reducible refine wp_append El_rword rfl (s := .tmp 37) (x := .tmp 44) rfl rfl (oW.alloc _) rfl (rd_new (cs := [.string ((⟨s.toArray⟩ : ByteArray).extract p k), .int .i64 (p : Int)]) (m := 1) rfl rfl) (w2_one _ _) (by unfold maxLen; omega) (by omega) (by simp; omega) ?_; intro A4 c4 w4 o4 hg4 hat4)
          have hbX := below_grown (hbw.alloc hz _) hg4 (oW.alloc _) (Nat.le_refl _)
          have o5 : Own w4 w.heap.size 69 2 A4 (n + 1) c4 (wcells (o ++ [((s.take k).drop p, (p : Int))])) := by
            rw [wcells_app]
            have e : wcells [((s.take k).drop p, (p : Int))] = [.string ((⟨s.toArray⟩ : ByteArray).extract p k), .int .i64 (p : Int)] := by rw [HE.out]; rfl
            rw [e]; exact o4
          clear o4 hg4 hat4 oW
          go_wp2_with fail
          go_roundw
          case rel => exact ⟨k + 1, A4, n + 1, c4, by omega, by go_num, rfl, hbX, fun _ => ⟨by rw [HN.out]; show _ = Value.int .i64 ((k + 1 : Nat) : Int); go_num, by rw [HN.out]; exact o5⟩, fun h => by omega⟩
          case measure => simp [intOf]; omega
      · have e32 : ((x.toNat : Int) != 32) = true := by rw [bne_iff_ne]; intro h; exact h32 (UInt8.toNat_inj.1 (by show x.toNat = 32; omega))
        by_cases hbr : x = 40 ∨ x = 41
        · have e41 : (((x.toNat : Int) != 40) = false) ∨ (((x.toNat : Int) != 40) = true ∧ ((x.toNat : Int) != 41) = false) := by
            rcases hbr with h | h
            · exact .inl (by rw [h]; decide)
            · exact .inr (by rw [h]; exact ⟨by decide, by decide⟩)
          have HN := Lib.hid (HN2.out hbr)
          clear HN1 HN2 HN3 h32 hbr
          rcases hfr with rfl | ⟨p, rfl, hp⟩
          · rw [show rfrom (o, -1) k = k from rfl]
            rw [shut_neg] at HN
            rcases e41 with e41 | ⟨e40, e41⟩
            · go_wp2_with (at_builtin; with_reducible refine wp_append El_rword rfl (s := .tmp 56) (x := .tmp 64) rfl rfl (oW.alloc _) rfl (rd_new (cs := [.string ((⟨s.toArray⟩ : ByteArray).extract k (k + 1)), .int .i64 (k : Int)]) (m := 1) rfl rfl) (w2_one _ _) (by unfold maxLen; omega) (by omega) (by simp; omega) ?_; intro A4 c4 w4 o4 hg4 hat4)
              have hbX := below_grown (hbw.alloc hz _) hg4 (oW.alloc _) (Nat.le_refl _)
              have o5 : Own w4 w.heap.size 69 2 A4 (n + 1) c4 (wcells (o ++ [([x], (k : Int))])) := by
                rw [wcells_app]
                have e : wcells [([x], (k : Int))] = [.string ((⟨s.toArray⟩ : ByteArray).extract k (k + 1)), .int .i64 (k : Int)] := by rw [HOX.out, HX.out]; rfl
                rw [e]; exact o4
              clear o4 hg4 hat4 oW
              go_wp2_with fail
              go_roundw
              case rel => exact ⟨k + 1, A4, n + 1, c4, by omega, by go_num, rfl, hbX, fun _ => ⟨by rw [HN.out]; show _ = Value.int .i64 ((k + 1 : Nat) : Int); go_num, by rw [HN.out]; exact o5⟩, fun h => by omega⟩
              case measure => simp [intOf]; omega
            · go_wp2_with (at_builtin; with_reducible refine wp_append El_rword rfl (s := .tmp 56) (x := .tmp 64) rfl rfl (oW.alloc _) rfl (rd_new (cs := [.string ((⟨s.toArray⟩ : ByteArray).extract k (k + 1)), .int .i64 (k : Int)]) (m := 1) rfl rfl) (w2_one _ _) (by unfold maxLen; omega) (by omega) (by simp; omega) ?_; intro A4 c4 w4 o4 hg4 hat4)
              have hbX := below_grown (hbw.alloc hz _) hg4 (oW.alloc _) (Nat.le_refl _)
              have o5 : Own w4 w.heap.size 69 2 A4 (n + 1) c4 (wcells (o ++ [([x], (k : Int))])) := by
                rw [wcells_app]
                have e : wcells [([x], (k : Int))] = [.string ((⟨s.toArray⟩ : ByteArray).extract k (k + 1)), .int .i64 (k : Int)] := by rw [HOX.out, HX.out]; rfl
                rw [e]; exact o4
              clear o4 hg4 hat4 oW
              go_wp2_with fail
              go_roundw
              case rel => exact ⟨k + 1, A4, n + 1, c4, by omega, by go_num, rfl, hbX, fun _ => ⟨by rw [HN.out]; show _ = Value.int .i64 ((k + 1 : Nat) : Int); go_num, by rw [HN.out]; exact o5⟩, fun h => by omega⟩
              case measure => simp [intOf]; omega
          · rw [show rfrom (o, (p : Int)) k = p from rfrom_pos o p k]
            rw [shut_pos] at HN
            have hp0 : (0 : Int) ≤ (p : Int) := by omega
            have hpi : (p : Int) < (k : Int) := by omega
            have hpi2 : (p : Int) ≤ (k : Int) := by omega
            have HE := Lib.hid (ext_take s p k)
            rcases e41 with e41 | ⟨e40, e41⟩
            · go_wp2_with (at_builtin; first | (with_reducible refine wp_append El_rword rfl (s := .tmp 37) (x := .tmp 44) rfl rfl (oW.alloc _) rfl (rd_new (cs := [.string ((⟨s.toArray⟩ : ByteArray).extract p k), .int .i64 (p : Int)]) (m := 1) rfl rfl) (w2_one _ _) (by unfold maxLen; omega) (by omega) (by simp; omega) ?_; intro A4 c4 w4 o4 hg4 hat4; have hbX := below_grown (hbw.alloc hz _) hg4 (oW.alloc _) (Nat.le_refl _); have hz4 := hbX.size; clear hg4 hat4) | (with_reducible refine wp_append El_rword rfl (s := .tmp 56) (x := .tmp 64) rfl rfl (o4.alloc _) rfl (rd_new (cs := [.string ((⟨s.toArray⟩ : ByteArray).extract k (k + 1)), .int .i64 (k : Int)]) (m := 1) rfl rfl) (w2_one _ _) (by unfold maxLen; omega) (by omega) (by simp; omega) ?_; intro A6 c6 w6 o6 hg6 hat6))
              have hbY := below_grown (hbX.alloc hz4 _) hg6 (o4.alloc _) (Nat.le_refl _)
              have o5 : Own w6 w.heap.size 69 2 A6 (n + 1 + 1) c6 (wcells (o ++ [((s.take k).drop p, (p : Int))] ++ [([x], (k : Int))])) := by
                rw [wcells_app, wcells_app]
                have e : wcells [([x], (k : Int))] = [.string ((⟨s.toArray⟩ : ByteArray).extract k (k + 1)), .int .i64 (k : Int)] := by rw [HOX.out, HX.out]; rfl
                have e2 : wcells [((s.take k).drop p, (p : Int))] = [.string ((⟨s.toArray⟩ : ByteArray).extract p k), .int .i64 (p : Int)] := by rw [HE.out]; rfl
                rw [e, e2]; exact o6
              clear o6 o4 hg6 hat6
              go_wp2_with fail
              go_roundw
              case rel => exact ⟨k + 1, A6, n + 1 + 1, c6, by omega, by go_num, rfl, hbY, fun _ => ⟨by rw [HN.out]; show _ = Value.int .i64 ((k + 1 : Nat) : Int); go_num, by rw [HN.out]; exact o5⟩, fun h => by omega⟩
              case measure => simp [intOf]; omega
            · go_wp2_with (at_builtin; first | (with_reducible refine wp_append El_rword rfl (s := .tmp 37) (x := .tmp 44) rfl rfl (oW.alloc _) rfl (rd_new (cs := [.string ((⟨s.toArray⟩ : ByteArray).extract p k), .int .i64 (p : Int)]) (m := 1) rfl rfl) (w2_one _ _) (by unfold maxLen; omega) (by omega) (by simp; omega) ?_; intro A4 c4 w4 o4 hg4 hat4; have hbX := below_grown (hbw.alloc hz _) hg4 (oW.alloc _) (Nat.le_refl _); have hz4 := hbX.size; clear hg4 hat4) | (with_reducible refine wp_append El_rword rfl (s := .tmp 56) (x := .tmp 64) rfl rfl (o4.alloc _) rfl (rd_new (cs := [.string ((⟨s.toArray⟩ : ByteArray).extract k (k + 1)), .int .i64 (k : Int)]) (m := 1) rfl rfl) (w2_one _ _) (by unfold maxLen; omega) (by omega) (by simp; omega) ?_; intro A6 c6 w6 o6 hg6 hat6))
              have hbY := below_grown (hbX.alloc hz4 _) hg6 (o4.alloc _) (Nat.le_refl _)
              have o5 : Own w6 w.heap.size 69 2 A6 (n + 1 + 1) c6 (wcells (o ++ [((s.take k).drop p, (p : Int))] ++ [([x], (k : Int))])) := by
                rw [wcells_app, wcells_app]
                have e : wcells [([x], (k : Int))] = [.string ((⟨s.toArray⟩ : ByteArray).extract k (k + 1)), .int .i64 (k : Int)] := by rw [HOX.out, HX.out]; rfl
                have e2 : wcells [((s.take k).drop p, (p : Int))] = [.string ((⟨s.toArray⟩ : ByteArray).extract p k), .int .i64 (p : Int)] := by rw [HE.out]; rfl
                rw [e, e2]; exact o6
              clear o6 o4 hg6 hat6
              go_wp2_with fail
              go_roundw
              case rel => exact ⟨k + 1, A6, n + 1 + 1, c6, by omega, by go_num, rfl, hbY, fun _ => ⟨by rw [HN.out]; show _ = Value.int .i64 ((k + 1 : Nat) : Int); go_num, by rw [HN.out]; exact o5⟩, fun h => by omega⟩
              case measure => simp [intOf]; omega
        · have e40 : ((x.toNat : Int) != 40) = true := by rw [bne_iff_ne]; intro h; exact hbr (.inl (UInt8.toNat_inj.1 (by show x.toNat = 40; omega)))
          have e41 : ((x.toNat : Int) != 41) = true := by rw [bne_iff_ne]; intro h; exact hbr (.inr (UInt8.toNat_inj.1 (by show x.toNat = 41; omega)))
          have HN := Lib.hid (HN3.out h32 hbr)
          clear HN1 HN2 HN3 h32 hbr
          have HFR : Hid (rfrom (o, fr) k = rfrom (o, if fr < 0 then (k : Int) else fr) (k + 1)) := Lib.hid (by
            rcases hfr with rfl | ⟨p, rfl, hp⟩
            · rfl
            · rw [rfrom_pos, if_neg (by omega), rfrom_pos])
          go_wp2_with fail
          go_roundw
          case rel => exact ⟨k + 1, A, n, c, by omega, by go_num, rfl, hbw, fun _ => ⟨by rw [HN.out]; show _ = Value.int .i64 ((rfrom (o, if fr < 0 then (k : Int) else fr) (k + 1) : Nat) : Int); rw [← HFR.out], by rw [HN.out]; exact oW⟩, fun h => by omega⟩
          case measure => simp [intOf]; omega
    · by_cases hke : k = s.length
      · obtain ⟨rfl, oW⟩ := h1 (by omega)
        have hfr := wst_fr2 s k (by omega)
        have hol := wst_len s k (by omega)
        have hn : n ≤ 1000 := by have := oW.len; rw [wcells_len] at this; omega
        have HF : Hid (wordsP s = shut s (wst s k).1 (wst s k).2 k) := Lib.hid (by rw [hke]; rfl)
        have HKE := Lib.hid hke
        generalize wst s k = st at *
        obtain ⟨o, fr⟩ := st
        dsimp only at *
        have hkI : ¬ (k : Int) < (s.length : Int) := by omega
        have hkle : (k : Int) ≤ (s.length : Int) := by omega
        clear h1 h2 hol hke hlt
        rcases hfr with rfl | ⟨p, rfl, hp⟩
        · rw [show rfrom (o, -1) k = k from rfl]
          rw [shut_neg] at HF
          go_wp2_with fail
          go_roundw
          case rel => exact ⟨k + 1, A, n, c, by have := HKE.out; omega, by go_num, rfl, hbw, fun h => by have := HKE.out; omega, fun h => by rw [HF.out]; exact oW⟩
          case measure => have := HKE.out; simp [intOf]; omega
        · rw [show rfrom (o, (p : Int)) k = p from rfrom_pos o p k]
          rw [shut_pos] at HF
          have hp0 : (0 : Int) ≤ (p : Int) := by omega
          have hpi : (p : Int) < (k : Int) := by omega
          have hpi2 : (p : Int) ≤ (k : Int) := by omega
          have HE := Lib.hid (ext_take s p k)
          go_wp2_with (at_builtin; with_reducible refine wp_append El_rword rfl (s := .tmp 37) (x := .tmp 44) rfl rfl (oW.alloc _) rfl (rd_new (cs := [.string ((⟨s.toArray⟩ : ByteArray).extract p k), .int .i64 (p : Int)]) (m := 1) rfl rfl) (w2_one _ _) (by unfold maxLen; omega) (by omega) (by simp; omega) ?_; intro A4 c4 w4 o4 hg4 hat4)
          have hbX := below_grown (hbw.alloc hz _) hg4 (oW.alloc _) (Nat.le_refl _)
          have o5 : Own w4 w.heap.size 69 2 A4 (n + 1) c4 (wcells (o ++ [((s.take k).drop p, (p : Int))])) := by
            rw [wcells_app]
            have e : wcells [((s.take k).drop p, (p : Int))] = [.string ((⟨s.toArray⟩ : ByteArray).extract p k), .int .i64 (p : Int)] := by rw [HE.out]; rfl
            rw [e]; exact o4
          clear o4 hg4 hat4 oW
          go_wp2_with fail
          go_roundw
          case rel => exact ⟨k + 1, A4, n + 1, c4, by have := HKE.out; omega, by go_num, rfl, hbX, fun h => by have := HKE.out; omega, fun h => by rw [HF.out]; exact o5⟩
          case measure => have := HKE.out; simp [intOf]; omega
      · have oW := h2 (by omega)
        have hkle : ¬ (k : Int) ≤ (s.length : Int) := by omega
        have hn : n ≤ 1001 := by have := oW.len; have := words_len s; rw [wcells_len] at *; omega
        have hrw : wcells (rwords s) = wcells (wordsP s) ++ [.string ⟨#[]⟩, .int .i64 (s.length : Int)] := by unfold rwords; rw [wcells_app]; rfl
        have HRW := Lib.hid hrw
        clear h1 h2 hke hlt hrw
        go_wp2_with (at_builtin; with_reducible refine wp_append El_rword rfl (s := .tmp 68) (x := .tmp 72) rfl rfl (oW.alloc _) rfl (rd_new (cs := [.string ⟨#[]⟩, .int .i64 (s.length : Int)]) (m := 1) rfl rfl) (w2_one _ _) (by unfold maxLen; omega) (by omega) (by simp; omega) ?_; intro A4 c4 w4 o4 hg4 hat4)
        have hbX := below_grown (hbw.alloc hz _) hg4 (oW.alloc _) (Nat.le_refl _)
        go_wp2_with fail
        go_ret
        exact ⟨A4, n + 1, c4, rfl, o4.cap, o4.capm, by rw [HRW.out]; exact o4.rd, hbX⟩
open WanW (ok2 lo2 hi2 bef_at no_contains numV refNumber_any bef_le aft_le ext_str w64k results_rowA)
set_option maxRecDepth 100000 in
set_option maxHeartbeats 4000000 in
theorem nums_any (s : List UInt8) (w : World) (hs : s.length ≤ 10000) (b : Bool) (hb : ok2 s = b) : Calls Tryd.prog 55 #[str s] w fun e w' => ∃ lo hi, e = .returned (.tuple #[.agg #[.int .i64 lo, .int .i64 hi], .bool b]) ∧ (b = true → lo = lo2 s ∧ hi = hi2 s) ∧ Below w.heap.size w w' := by
  have HOK := Lib.hid hb
  clear hb
  obtain ⟨S, hS⟩ : ∃ S : ByteArray, (⟨s.toArray⟩ : ByteArray) = S := ⟨_, rfl⟩
  have HS := Lib.hid hS
  have hsz : S.size = s.length := by rw [← hS]; simp [ByteArray.size]
  have HB := (Below.refl w.heap.size w).alloc (Nat.le_refl _) (.cells #[.int .i64 0, .int .i64 0] 72)
  have hg := Blk.new w 72 #[.int .i64 0, .int .i64 0]
  obtain ⟨w0, hw0⟩ : ∃ w0, w.alloc (.cells #[.int .i64 0, .int .i64 0] 72) = w0 := ⟨_, rfl⟩
  rw [hw0] at HB hg
  have hsz0 := HB.size
  have hlt0 := hg.lt
  go_enter Tryd.func55, Tryd.ntmps55
  go_wp2_with fail
  go_loopw [4] (fun o4 wr => ∃ i : Nat, o4 = .int .i64 (i : Int) ∧ i ≤ s.length ∧ (∀ j (h : j < s.length), j < i → s[j] ≠ 45) ∧ wr = w0) (fun o4 _ => s.length - (intOf o4).toNat)
  case atStart => exact ⟨0, rfl, by omega, fun j _ h => absurd h (by omega), rfl⟩
  case round =>
    obtain ⟨i, rfl, hi, hno, hwr⟩ := hrel
    subst wr
    clear hw0
    have HNO := Lib.hid hno
    clear hno
    by_cases hlt : i < s.length
    · have hiI : (i : Int) < (s.length : Int) := by omega
      have hi0 : (0 : Int) ≤ (i : Int) := by omega
      have hkS : i < S.size := by rw [hsz]; exact hlt
      have hadd1 : IntKind.i64.wrap ((i : Int) + 1) = (i : Int) + 1 := w64k (by omega) (by omega)
      obtain ⟨x, hx⟩ : ∃ x, S[i] = x := ⟨_, rfl⟩
      have hx2 : s[i] = x := by
        rw [← hx]
        subst hS
        rfl
      obtain ⟨m, hm⟩ : ∃ m : Nat, x.toNat = m := ⟨_, rfl⟩
      have HX2 := Lib.hid hx2
      clear hx2
      by_cases q : m = 45
      · have q1 : ((m : Int) == 45) = true := by simp; omega
        have hx45 : x = 45 := UInt8.toNat_inj.1 (by rw [hm, q]; rfl)
        obtain ⟨hb1, hb2, hb3⟩ := bef_at 45 s i hlt (fun j hj => HNO.out j (by omega) hj) (by rw [HX2.out, hx45])
        have e1 : S.extract 0 i = ⟨(bef 45 s).toArray⟩ := by rw [← hS, ext_str, hb1]; simp
        have e2 : S.extract (i + 1) s.length = ⟨(aft 45 s).toArray⟩ := by rw [← hS, ext_str, hb2, List.take_of_length_le (by simp)]
        have hok := HOK.out
        unfold ok2 at hok
        rw [hb3] at hok
        have hl1 := bef_le 45 s
        have hl2 := aft_le 45 s
        have hLO : lo2 s = (numV (bef 45 s)).1 := rfl
        have hHI : hi2 s = (numV (aft 45 s)).1 := rfl
        clear hb1 hb2 hb3 hx45
        obtain ⟨y, hy⟩ : ∃ y, bef 45 s = y := ⟨_, rfl⟩
        obtain ⟨z, hz⟩ : ∃ z, aft 45 s = z := ⟨_, rfl⟩
        rw [hy] at e1 hok hl1 hLO
        rw [hz] at e2 hok hl2 hHI
        obtain ⟨⟨n1, b1⟩, f1⟩ : ∃ p, numV y = p := ⟨_, rfl⟩
        obtain ⟨⟨n2, b2⟩, f2⟩ : ∃ p, numV z = p := ⟨_, rfl⟩
        rw [f1, f2] at hok
        rw [f1] at hLO
        rw [f2] at hHI
        dsimp only at hok hLO hHI
        have HLO := Lib.hid hLO
        have HHI := Lib.hid hHI
        have C1 := fun w => refNumber_any y w n1 b1 f1 (by omega)
        have C2 := fun w => refNumber_any z w n2 b2 f2 (by omega)
        have HC1 := Lib.hid C1
        have HC2 := Lib.hid C2
        clear C1 C2 f1 f2 hy hz hLO hHI
        subst hok
        obtain ⟨c0, c1, g0, g1, z0⟩ := blk2 hg
        cases b1
        all_goals
          go_wp2_with fail
          refine (HC1.out _).mono ?_
          rintro e w1 ⟨rfl, hq⟩
          subst w1
          go_wp2_with fail
          refine (HC2.out _).mono ?_
          rintro e w1 ⟨rfl, hq⟩
          subst w1
          go_wp2_with fail
          try rw [Exit.noGoto_ret]
          refine bodyPost_ret (results_rowA rfl _ _ w.heap.size #[.int .i64 n1, .int .i64 n2] _ rfl ((hg.set 0 (.int .i64 n1)).set 1 (.int .i64 n2)) Tryd.underlying72 rfl (by kernel_rfl)) rfl ?_
          exact ⟨n1, n2, rfl, fun _ => ⟨HLO.out.symm, HHI.out.symm⟩, (HB.setCell (p := ⟨w.heap.size, 0, none⟩) (Nat.le_refl _) _).setCell (p := ⟨w.heap.size, 1, none⟩) (Nat.le_refl _) _⟩
      · have q1 : ((m : Int) == 45) = false := by simp; omega
        go_wp2_with fail
        go_roundw
        case rel => exact ⟨i + 1, by go_num, by omega, fun j h hj => by
          by_cases hji : j = i
          · subst hji
            rw [HX2.out]
            intro e
            rw [e] at hm
            exact q hm.symm
          · exact HNO.out j h (by omega), by trivial⟩
        case measure => simp [intOf]; omega
    · have hiI : ¬ (i : Int) < (s.length : Int) := by omega
      have hok := HOK.out
      unfold ok2 at hok
      rw [no_contains 45 s (fun j hj => HNO.out j hj (by omega)), Bool.false_and] at hok
      subst hok
      obtain ⟨c0, c1, g0, g1, z0⟩ := blk2 hg
      go_wp2_with fail
      try rw [Exit.noGoto_ret]
      refine bodyPost_ret (results_rowA rfl _ _ w.heap.size #[.int .i64 0, .int .i64 0] _ rfl ((hg.set 0 (.int .i64 0)).set 1 (.int .i64 0)) Tryd.underlying72 rfl (by kernel_rfl)) rfl ?_
      have HBE := (HB.setCell (p := ⟨w.heap.size, 0, none⟩) (Nat.le_refl _) (.int .i64 0)).setCell (p := ⟨w.heap.size, 1, none⟩) (Nat.le_refl _) (.int .i64 0)
      first
        | exact ⟨0, 0, rfl, fun h => absurd h (by decide), HBE⟩
        | exact ⟨⟨0, 0, rfl⟩, HBE⟩
/-- A part's cells. -/
abbrev pv (x : List UInt8) (lo hi : Int) (y : List UInt8) (v : Value) : Array Value := #[str x, .int .i64 lo, .int .i64 hi, str y, v]
theorem blk5 {w : World} {g : Nat} {t : TypeId} {a b c d e : Value} (h : Blk w g t #[a, b, c, d, e]) :
    w.cell? ⟨g, 0, none⟩ = some a ∧ w.cell? ⟨g, 1, none⟩ = some b ∧ w.cell? ⟨g, 2, none⟩ = some c ∧ w.cell? ⟨g, 3, none⟩ = some d ∧ w.cell? ⟨g, 4, none⟩ = some e ∧
    w.frozen? ⟨g, 0, none⟩ = false ∧ w.frozen? ⟨g, 1, none⟩ = false ∧ w.frozen? ⟨g, 2, none⟩ = false ∧ w.frozen? ⟨g, 3, none⟩ = false ∧ w.frozen? ⟨g, 4, none⟩ = false ∧ g < w.heap.size :=
  ⟨h.cell_ 0 rfl, h.cell_ 1 rfl, h.cell_ 2 rfl, h.cell_ 3 rfl, h.cell_ 4 rfl, h.frozen 0, h.frozen 1, h.frozen 2, h.frozen 3, h.frozen 4, h.lt⟩
theorem blk5_set {w : World} {g : Nat} {t : TypeId} {a b c d e a' b' c' d' e' : Value} (h : Blk w g t #[a, b, c, d, e]) :
    Blk (((((w.setCell ⟨g, 0, none⟩ a').setCell ⟨g, 1, none⟩ b').setCell ⟨g, 2, none⟩ c').setCell ⟨g, 3, none⟩ d').setCell ⟨g, 4, none⟩ e') g t #[a', b', c', d', e'] :=
  blk_eq (((((h.set 0 a').set 1 b').set 2 c').set 3 d').set 4 e') (by simp)
theorem below5 {B : Nat} {w w1 : World} {g : Nat} {a' b' c' d' e' : Value} (h : Below B w w1) (hg : B ≤ g) :
    Below B w (((((w1.setCell ⟨g, 0, none⟩ a').setCell ⟨g, 1, none⟩ b').setCell ⟨g, 2, none⟩ c').setCell ⟨g, 3, none⟩ d').setCell ⟨g, 4, none⟩ e') :=
  ((((h.setCell (p := ⟨g, 0, none⟩) hg _).setCell (p := ⟨g, 1, none⟩) hg _).setCell (p := ⟨g, 2, none⟩) hg _).setCell (p := ⟨g, 3, none⟩) hg _).setCell (p := ⟨g, 4, none⟩) hg _
set_option maxRecDepth 100000 in
set_option maxHeartbeats 4000000 in
theorem fact_num (k : Nat) (hk : k ≤ 2) (x : List UInt8) (w : World) (hs : x.length ≤ 10000) (b : Bool) (hb : ok2 x = b) :
    Calls Tryd.prog 43 #[str (kwS k), str x] w fun e w' => ∃ lo hi, e = .returned (.tuple #[.agg (pv (kwS k) lo hi [] (.slice none 0 0)), .int .i64 2, .bool b]) ∧ (b = true → lo = lo2 x ∧ hi = hi2 x) ∧ Below w.heap.size w w' := by
  have HB := (Below.refl w.heap.size w).alloc (Nat.le_refl _) (.cells (pv [] 0 0 [] (.slice none 0 0)) 75)
  have hg := Blk.new w 75 (pv [] 0 0 [] (.slice none 0 0))
  obtain ⟨w0, hw0⟩ : ∃ w0, w.alloc (.cells (pv [] 0 0 [] (.slice none 0 0)) 75) = w0 := ⟨_, rfl⟩
  rw [hw0] at HB hg
  have hz0 := HB.size
  have C := nums_any x w0 hs b hb
  clear hb
  have k3 : k = 0 ∨ k = 1 ∨ k = 2 := by omega
  rcases k3 with rfl | rfl | rfl
  all_goals
    go_enter Tryd.func43, Tryd.ntmps43
    go_wp2_with fail
    refine C.mono ?_
    clear C
    rintro e w1 ⟨lo, hi, rfl, hlh, hb1⟩
    have HLH := Lib.hid hlh
    have hg1 := hg.below hb1 hg.lt
    have HB1 := HB.trans (hb1.mono hz0)
    have hz1 := HB1.size
    clear hb1 HB hg hlh
    have HB2 := HB1.alloc hz1 (.cells #[.int .i64 lo, .int .i64 hi] 72)
    have hg2 := hg1.alloc (.cells #[.int .i64 lo, .int .i64 hi] 72)
    have hr2 := Blk.new w1 72 #[.int .i64 lo, .int .i64 hi]
    obtain ⟨c0, c1, _⟩ := blk2 hr2
    obtain ⟨d0, d1, d2, d3, d4, f0, f1, f2, f3, f4, _⟩ := blk5 hg2
    go_wp2_with fail
    refine bodyPost_ret (WanW.results_rowB rfl _ _ w.heap.size (pv _ lo hi [] (.slice none 0 0)) _ rfl (blk5_set hg2) Tryd.underlying75 rfl (by kernel_rfl)) rfl ?_
    exact ⟨lo, hi, rfl, HLH.out, below5 HB2 (Nat.le_refl _)⟩
theorem bytes_eq (x v : List UInt8) (b : Bool) (h : WanW.unhexV x = (v, b)) : bytesP x = if (b && !v.isEmpty) = true then some v else none := by
  unfold bytesP
  rw [h]
  cases b <;> cases v <;> simp
set_option maxRecDepth 100000 in
set_option maxHeartbeats 4000000 in
theorem fact_has (x : List UInt8) (w : World) (hs : x.length ≤ 10000) :
    Calls Tryd.prog 43 #[str sHas, str x] w fun e w' => ∃ v b, e = .returned (.tuple #[.agg (pv sHas 0 0 v (.slice none 0 0)), .int .i64 2, .bool b]) ∧ bytesP x = (if b = true then some v else none) ∧ Below w.heap.size w w' := by
  have HB := (Below.refl w.heap.size w).alloc (Nat.le_refl _) (.cells (pv [] 0 0 [] (.slice none 0 0)) 75)
  have hg := Blk.new w 75 (pv [] 0 0 [] (.slice none 0 0))
  obtain ⟨w0, hw0⟩ : ∃ w0, w.alloc (.cells (pv [] 0 0 [] (.slice none 0 0)) 75) = w0 := ⟨_, rfl⟩
  rw [hw0] at HB hg
  have hz0 := HB.size
  obtain ⟨⟨v, b⟩, hv⟩ : ∃ z, WanW.unhexV x = z := ⟨_, rfl⟩
  have C := WanW.refUnhex_any x w0 v b hv (by omega)
  have HBP := Lib.hid (bytes_eq x v b hv)
  clear hv
  cases v <;> cases b
  all_goals
    go_enter Tryd.func43, Tryd.ntmps43
    go_wp2_with fail
    refine C.mono ?_
    clear C
    rintro e w1 ⟨rfl, hb1⟩
    have hg1 := hg.below hb1 hg.lt
    have HB1 := HB.trans (hb1.mono hz0)
    have hz1 := HB1.size
    clear hb1 HB hg
    obtain ⟨d0, d1, d2, d3, d4, f0, f1, f2, f3, f4, _⟩ := blk5 hg1
    go_wp2_with fail
    refine bodyPost_ret (WanW.results_rowB rfl _ _ w.heap.size (pv sHas 0 0 _ (.slice none 0 0)) _ rfl (blk5_set hg1) Tryd.underlying75 rfl (by kernel_rfl)) rfl ?_
    exact ⟨_, _, rfl, HBP.out, below5 HB1 (Nat.le_refl _)⟩
set_option maxRecDepth 100000 in
set_option maxHeartbeats 4000000 in
theorem fact_all (x : List UInt8) (w : World) :
    Calls Tryd.prog 43 #[str sAll, str x] w fun e w' => e = .returned (.tuple #[.agg (pv sAll 0 0 [] (.slice none 0 0)), .int .i64 1, .bool true]) ∧ Below w.heap.size w w' := by
  have HB := (Below.refl w.heap.size w).alloc (Nat.le_refl _) (.cells (pv [] 0 0 [] (.slice none 0 0)) 75)
  have hg := Blk.new w 75 (pv [] 0 0 [] (.slice none 0 0))
  obtain ⟨w0, hw0⟩ : ∃ w0, w.alloc (.cells (pv [] 0 0 [] (.slice none 0 0)) 75) = w0 := ⟨_, rfl⟩
  rw [hw0] at HB hg
  obtain ⟨d0, d1, d2, d3, d4, f0, f1, f2, f3, f4, _⟩ := blk5 hg
  go_enter Tryd.func43, Tryd.ntmps43
  go_wp2_with fail
  refine bodyPost_ret (WanW.results_rowB rfl _ _ w.heap.size (pv sAll 0 0 [] (.slice none 0 0)) _ rfl (blk5_set hg) Tryd.underlying75 rfl (by kernel_rfl)) rfl ?_
  exact ⟨rfl, below5 HB (Nat.le_refl _)⟩
end SieW
end Go.Proofs.YtdeiehgghhiijaaDoor
