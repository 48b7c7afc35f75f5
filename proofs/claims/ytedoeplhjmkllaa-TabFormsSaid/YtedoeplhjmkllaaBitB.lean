/- Walks over bits' reference: bits as bytes, bytes as bits. -/
import Derived.Test.YtedoeplhjmkllaaBitZ
namespace Go.Proofs.Ytedoeplhjmkllaa
set_option linter.unusedVariables false
set_option linter.unusedSimpArgs false
set_option linter.unnecessarySimpa false
open Go.RowKit
namespace BitW

theorem El_int2 : El Try.prog 22 3 1 8 := El.mk' Try.underlying22 (z := .int .i64 0) (by kernel_rfl) rfl (by decide)
theorem El_u82 : El Try.prog 56 5 1 1 := El.mk' Try.underlying56 (z := .int .u8 0) (by kernel_rfl) rfl (by decide)
theorem rd_bc {w : World} {B : Nat} {A : Option Addr} {n : Nat} {l : List Nat} (h : Rd w B 1 A n (bc l)) (hn : 0 < n) :
    ∃ b o, A = some ⟨b, o, none⟩ ∧ b < B ∧ ∀ k (hk : k < l.length), w.cell? ⟨b, o + k, none⟩ = some (.int .i64 (l[k] : Nat)) := by
  obtain ⟨b, o, rfl, hb, hc⟩ := h.at_ hn
  refine ⟨b, o, rfl, hb, fun k hk => ?_⟩
  rw [hc k (by rw [bc_len]; exact hk)]
  simp [bc]
theorem rd_bclen {w : World} {B : Nat} {A : Option Addr} {n : Nat} {l : List Nat} (h : Rd w B 1 A n (bc l)) : l.length = n := by have := h.len; rw [bc_len] at this; omega
def pd (l : List Nat) (k : Nat) : List Nat := l.take k ++ List.replicate (k - l.length) 0
theorem pd_len (l : List Nat) (k : Nat) : (pd l k).length = k := by simp [pd]; omega
theorem pd_lt {l : List Nat} (h : ∀ d ∈ l, d < 2) (k : Nat) : ∀ d ∈ pd l k, d < 2 := by
  intro d hd
  rcases List.mem_append.1 hd with hd | hd
  · exact h d (List.mem_of_mem_take hd)
  · have := (List.mem_replicate.1 hd).2; omega
theorem pd_yes {l : List Nat} {k : Nat} (h : k < l.length) : num (pd l (k + 1)) = 2 * num (pd l k) + l[k] := by
  unfold pd
  rw [List.take_succ_eq_append_getElem h, show k + 1 - l.length = 0 from by omega, show k - l.length = 0 from by omega, List.replicate_zero, List.append_nil, List.append_nil, num_snoc]
theorem pd_no {l : List Nat} {k : Nat} (h : ¬ k < l.length) : num (pd l (k + 1)) = 2 * num (pd l k) := by
  unfold pd
  rw [show k + 1 - l.length = (k - l.length) + 1 from by omega, List.replicate_succ', ← List.append_assoc, num_snoc, List.take_of_length_le (by omega), List.take_of_length_le (by omega)]
  omega

set_option maxRecDepth 100000 in
set_option maxHeartbeats 4000000 in
theorem refText_any (A : Option Addr) (n c : Nat) (l : List Nat) (w : World) (h : Rd w w.heap.size 1 A n (bc l)) (hn : n ≤ 1000000) (h2 : ∀ d ∈ l, d < 2) :
    Calls Try.prog 41 #[.slice A n c] w fun e w' => e = .returned (str (textB l)) ∧ Below w.heap.size w w' := by
  have hl := rd_bclen h
  have hl1 : l.length ≤ n := by omega
  have hl2 : n ≤ l.length := by omega
  have H2 := Lib.hid h2
  have HT0 := Lib.hid (show textB l = [] ++ textB (l.drop (8 * 0)) from rfl)
  clear hl h2
  go_enter Try.func41, Try.ntmps41
  go_wp2_with fail
  go_loopw [3, 4] (fun out i wr => ∃ (m : Nat) (bs : List UInt8) (A2 : Option Addr) (c2 : Nat), i = .int .i64 ((8 * m : Nat) : Int) ∧ out = .slice A2 m c2 ∧ m ≤ n ∧ textB l = bs ++ textB (l.drop (8 * m)) ∧ Own wr w.heap.size 5 1 A2 m c2 (byts bs) ∧ Below w.heap.size w wr) (fun _ i _ => n + 8 - (intOf i).toNat)
  case atStart => exact ⟨0, [], none, 0, by simp, rfl, by omega, HT0.out, Own.nil _ _ _ _, (by first | exact Below.refl _ _ | (repeat (first | exact Below.refl _ _ | assumption | refine Below.drew ?_ | refine Below.drewN_ ?_ _ | refine Below.alloc ?_ (by first | exact Nat.le_refl _ | (simp; done) | (simp; omega) | omega) _ | refine Below.setCell ?_ (by first | exact Nat.le_refl _ | (simp; done) | (simp; omega) | omega) _ | (refine Below.trans ?_ (Below.mono (by assumption) (by first | exact Nat.le_refl _ | (simp; done) | (simp; omega) | omega))))))⟩
  case round =>
    obtain ⟨m, bs, A2, c2, rfl, rfl, hm, hT, o2, hbw⟩ := hrel
    have HT := Lib.hid hT
    clear hT
    have hsz := hbw.size
    by_cases hlt : 8 * m < n
    · obtain ⟨b, o, rfl, hb, hc⟩ := rd_bc (h.below hbw) (by omega)
      have HC := Lib.hid hc
      have hltI : ((8 * m : Nat) : Int) < (n : Int) := by omega
      have hne : l.drop (8 * m) ≠ [] := by
        intro e
        have := congrArg List.length e
        rw [List.length_drop] at this
        simp at this
        omega
      have HS := Lib.hid (textB_cons hne)
      have HD := Lib.hid (fun d hd => H2.out d (List.mem_of_mem_drop hd) : ∀ d ∈ l.drop (8 * m), d < 2)
      have hdl : (l.drop (8 * m)).length = n - 8 * m := by rw [List.length_drop]; omega
      obtain ⟨wo, hwo⟩ : ∃ wo : World, wo = wr := ⟨_, rfl⟩
      clear hc hne
      go_wp2_with fail
      go_loop [5, 6] (fun bv kv => ∃ k : Nat, k ≤ 8 ∧ kv = .int .i64 k ∧ bv = .int .i64 (num (pd (l.drop (8 * m)) k) : Nat)) (fun _ kv => 8 - (intOf kv).toNat)
      case atStart => exact ⟨0, by omega, rfl, by simp [pd, num]⟩
      case round =>
        obtain ⟨k, hk, rfl, rfl⟩ := hrel
        have hnl := num_lt _ (pd_lt HD.out k)
        rw [pd_len] at hnl
        have hn256 : num (pd (l.drop (8 * m)) k) ≤ 256 := by
          have : 2 ^ k ≤ 2 ^ 8 := Nat.pow_le_pow_right (by omega) hk
          omega
        by_cases hk8 : k < 8
        · by_cases hin : 8 * m + k < n
          · have hcell := HC.out (8 * m + k) (by omega)
            have hdk : l[8 * m + k]'(by omega) < 2 := H2.out _ (List.getElem_mem _)
            have HY := Lib.hid (pd_yes (l := l.drop (8 * m)) (k := k) (by omega))
            rw [List.getElem_drop] at HY
            generalize hd : l[8 * m + k]'(by omega) = d at *
            generalize num (pd (l.drop (8 * m)) k) = y at *
            have hI : ((8 * m : Nat) : Int) + (k : Int) < (n : Int) := by omega
            have hI0 : (0 : Int) ≤ ((8 * m : Nat) : Int) + (k : Int) := by omega
            have htn : (((8 * m : Nat) : Int) + (k : Int)).toNat = 8 * m + k := by omega
            clear hd hnl
            go_wp2_with fail
            go_round
            case rel => exact ⟨k + 1, by omega, by go_num, by rw [HY.out]; go_num⟩
            case measure => simp [intOf]; omega
          · have HY := Lib.hid (pd_no (l := l.drop (8 * m)) (k := k) (by omega))
            generalize num (pd (l.drop (8 * m)) k) = y at *
            have hI : ¬ ((8 * m : Nat) : Int) + (k : Int) < (n : Int) := by omega
            clear hnl
            go_wp2_with fail
            go_round
            case rel => exact ⟨k + 1, by omega, by go_num, by rw [HY.out]; go_num⟩
            case measure => simp [intOf]; omega
        · obtain rfl : k = 8 := by omega
          have hoct : byts [oct (l.drop (8 * m))] = [.int .u8 (num (pd (l.drop (8 * m)) 8) : Nat)] := by
            simp only [byts, List.map_cons, List.map_nil, byt]
            congr 2
            show ((UInt8.ofNat (num (pd (l.drop (8 * m)) 8))).toNat : Int) = _
            rw [UInt8.toNat_ofNat']
            omega
          have HOC := Lib.hid hoct
          have hyb : (num (pd (l.drop (8 * m)) 8) : Int) < 256 := by omega
          generalize hy : num (pd (l.drop (8 * m)) 8) = y at *
          have hrn : Rd (wr.alloc (.cells #[.int .u8 (y : Nat)] 5)) (wr.heap.size + 1) 1 (some ⟨wr.heap.size, 0, none⟩) 1 (byts [oct (l.drop (8 * m))]) := by
            rw [hoct]
            exact rd_new (W0 := wr) (t := 5) (cs := [.int .u8 (y : Nat)]) (size := 1) (m := 1) rfl rfl
          clear hoct hy hnl
          go_wp2_with (at_builtin; with_reducible refine wp_append El_u82 rfl (s := .tmp 33) (x := .tmp 36) rfl rfl (o2.alloc _) rfl hrn (byts_one _) (by unfold maxLen; omega) (by omega) (by simp; omega) ?_; intro A4 c4 w4 o4 hg4 hat4; clear hrn)
          have hb4 := below_grown (hbw.alloc hbw.size _) hg4 (o2.alloc _) (Nat.le_refl _)
          have e1 : byts bs ++ byts [oct (l.drop (8 * m))] = byts (bs ++ [oct (l.drop (8 * m))]) := by simp [byts]
          rw [e1] at o4
          go_roundw
          case rel =>
            refine ⟨m + 1, _, A4, c4, by first | rfl | (congr 1; omega), rfl, by omega, ?_, o4, hb4⟩
            rw [HT.out, HS.out, List.drop_drop, show 8 * m + 8 = 8 * (m + 1) from by omega]
            simp
          case measure => simp [intOf]; omega
    · have hfin := HT.out
      rw [List.drop_of_length_le (by omega), textB_nil, List.append_nil] at hfin
      have HF := Lib.hid hfin
      have hltI : ¬ ((8 * m : Nat) : Int) < (n : Int) := by omega
      have hcv := run_bytes_str (P := Try.prog) wr (c := c2) Try.underlying56 Try.underlying5 Try.underlying9 o2.rd
      clear hfin
      go_wp2_with fail
      go_ret
      exact ⟨by rw [HF.out]; rfl, hbw⟩

set_option maxRecDepth 100000 in
set_option maxHeartbeats 4000000 in
theorem refBits_any (s : List UInt8) (w : World) (hs : s.length ≤ 100000) :
    Calls Try.prog 42 #[str s] w fun e w' => ∃ A n c, e = .returned (.slice A n c) ∧ n ≤ c ∧ Rd w' w'.heap.size 1 A n (bc (bitsB s)) ∧ Below w.heap.size w w' := by
  go_enter Try.func42, Try.ntmps42
  go_wp2_with fail
  go_loopw [3, 4] (fun out i wr => ∃ (k n2 c2 : Nat) (A2 : Option Addr), i = .int .i64 k ∧ out = .slice A2 n2 c2 ∧ k ≤ s.length ∧ n2 ≤ 8 * k ∧ 8 * k ≤ n2 ∧ Own wr w.heap.size 3 1 A2 n2 c2 (bc (bitsB (s.take k))) ∧ Below w.heap.size w wr) (fun _ i _ => s.length - (intOf i).toNat)
  case atStart => exact ⟨0, 0, 0, none, rfl, rfl, by omega, by omega, by omega, Own.nil _ _ _ _, (by first | exact Below.refl _ _ | (repeat (first | exact Below.refl _ _ | assumption | refine Below.drew ?_ | refine Below.drewN_ ?_ _ | refine Below.alloc ?_ (by first | exact Nat.le_refl _ | (simp; done) | (simp; omega) | omega) _ | refine Below.setCell ?_ (by first | exact Nat.le_refl _ | (simp; done) | (simp; omega) | omega) _ | (refine Below.trans ?_ (Below.mono (by assumption) (by first | exact Nat.le_refl _ | (simp; done) | (simp; omega) | omega))))))⟩
  case round =>
    obtain ⟨k, n2, c2, A2, rfl, rfl, hk, hn2, hn3, o2, hbw⟩ := hrel
    have hsz := hbw.size
    by_cases hlt : k < s.length
    · have HS := Lib.hid (bitsB_take s k hlt)
      obtain ⟨cb, hb, hb'⟩ : ∃ b, (⟨s.toArray⟩ : ByteArray)[k]'(by show k < s.toArray.size; simpa using hlt) = b ∧ s[k] = b := ⟨_, rfl, rfl⟩
      have HB' := Lib.hid hb'
      have hcb := cb.toNat_lt
      have hcw : IntKind.i64.wrap (cb.toNat : Int) = (cb.toNat : Int) := IntWalk.i64_in _ (by omega)
      have hw64 : wrap64 (cb.toNat : Int) = (cb.toNat : Int) := by unfold wrap64; omega
      clear hb'
      go_wp2_with fail
      refine (digits_in cb.toNat 8 wr (by omega) (by omega)).mono ?_
      rintro e w3 ⟨rfl, o3, hb3⟩
      have o2' := o2.below hb3
      have hbw3 := hbw.trans (hb3.mono hsz)
      have hz3 := hb3.size
      clear hb3
      go_wp2_with (at_builtin; with_reducible refine wp_append El_int2 rfl (s := .tmp 21) (x := .tmp 22) rfl rfl o2' rfl o3.rd (bc_one _) (by unfold maxLen; omega) (by omega) (by omega) ?_; intro A4 c4 w4 o4 hg4 hat4)
      have hb4 := below_grown hbw3 hg4 o2' (Nat.le_refl _)
      rw [← bc_app] at o4
      go_roundw
      case rel => exact ⟨k + 1, n2 + 8, c4, A4, by go_num, rfl, by omega, by omega, by omega, by rw [HS.out, HB'.out]; exact o4, hb4⟩
      case measure => simp [intOf]; omega
    · have hz := Lib.hid (show s.take k = s from List.take_of_length_le (by omega))
      rw [hz.out] at o2
      go_wp2_with fail
      go_ret
      exact ⟨A2, n2, c2, rfl, o2.cap, o2.rd, hbw⟩

theorem num_take {l : List Nat} {a j : Nat} (h : a + j < l.length) : num ((l.drop a).take (j + 1)) = 2 * num ((l.drop a).take j) + l[a + j] := by
  rw [List.take_succ_eq_append_getElem (by rw [List.length_drop]; omega), num_snoc, List.getElem_drop]
end BitW
end Go.Proofs.Ytedoeplhjmkllaa
