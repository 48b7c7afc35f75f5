/- Walks over the reference of package front: ranks, the row, bytes. -/
import Derived.Test.YtehlgpfkpagaeaaFrontR
namespace Go.Proofs.Ytehlgpfkpagaeaa
set_option linter.unusedVariables false
set_option linter.unusedSimpArgs false
set_option linter.unnecessarySimpa false
open Go.RowKit
namespace FrontW

set_option maxHeartbeats 2000000 in
theorem rranks_any (s : List UInt8) (w : World) (hs : s.length ≤ 1000000) :
    Calls Try.prog 36 #[str s] w fun e w' => ∃ A c, e = .returned (.slice A s.length c) ∧ Own w' w.heap.size 3 1 A s.length c (ints (runR s).2) ∧ Below w.heap.size w w' := by
  go_enter Try.func36, Try.ntmps36
  go_wp2_with fail
  refine (rbegun_any _).mono ?_
  rintro e w1 ⟨rfl, hb1⟩
  go_wp2_with fail
  go_loopw [3, 4, 5] (fun r v i wr => ∃ (k c : Nat) (A : Option Addr), k ≤ s.length ∧ i = .int .i64 k ∧ v = .slice A k c ∧ r = str (runR (s.take k)).1 ∧ Own wr w.heap.size 3 1 A k c (ints (runR (s.take k)).2) ∧ Below w.heap.size w wr)
    (fun _ _ i _ => s.length - (intOf i).toNat)
  case atStart => exact ⟨0, 0, none, by omega, rfl, rfl, rfl, Own.nil _ _ _ _, hb1⟩
  case round =>
    obtain ⟨k, c, A, hk, rfl, rfl, rfl, hown, hbw⟩ := hrel
    by_cases hlt : k < s.length
    · have HS := Lib.hid (runR_snoc s k hlt)
      have hF := runR_full (s.take k)
      generalize hq : runR (s.take k) = q at *
      have hlen := hF.len
      have hx := hF.idx s[k]
      have hl1 : q.1.length ≤ 1000000 := by omega
      have hl2 : 256 ≤ q.1.length := by omega
      clear hq hlen
      go_wp2_with fail
      refine (place_any q.1 s[k] _ (hF.mem _) hl1).mono ?_
      rintro e w3 ⟨rfl, rfl⟩
      go_wp2_with (at_builtin; refine wp_append El_int rfl rfl rfl (hown.alloc _) rfl (Rd.of_blk (m := 1) (cs := [.int .i64 (q.1.idxOf s[k] : Nat)]) (Blk.new wr _ _) rfl) (by simp [Value.oneCell']) (by unfold maxLen; omega) (by omega) (by have := hbw.size; simp; omega) ?_; intro A4 c4 w4 hown4 hg4 hat4)
      refine (moved_any q.1 (q.1.idxOf s[k]) _ (by omega) hl1).mono ?_
      rintro e w5 ⟨rfl, hb5⟩
      have hbw4 : Below w.heap.size w w4 := (hbw.alloc hbw.size _).grown hg4 (by have := hbw.size; simp; omega) (fun j hj => by have := hown.blk j hj; omega)
      have hown5 := hown4.below hb5
      go_wp2
      go_roundw
      case rel =>
        refine ⟨k + 1, c4, A4, by omega, by go_num, rfl, by rw [HS.out]; rfl, ?_, hbw4.trans (hb5.mono hbw4.size)⟩
        rw [HS.out]
        simpa [stepR, ints] using hown5
      case measure => simp [intOf]; omega
    · have hfin : Hid (runR (s.take k) = runR s ∧ k = s.length) := ⟨by rw [List.take_of_length_le (by omega)], by omega⟩
      go_wp2
      go_ret
      obtain ⟨h1, h2⟩ := hfin.out
      rw [h1] at hown
      exact ⟨A, c, congrArg (fun x => Ending.returned (.slice A x c)) h2, by rw [← h2]; exact hown, hbw⟩

set_option maxHeartbeats 2000000 in
theorem rrow_any (s : List UInt8) (w : World) (hs : s.length ≤ 1000000) :
    Calls Try.prog 38 #[str s] w fun e w' => e = .returned (str (runR s).1) ∧ Below w.heap.size w w' := by
  go_enter Try.func38, Try.ntmps38
  go_wp2_with fail
  refine (rbegun_any _).mono ?_
  rintro e w1 ⟨rfl, hb1⟩
  go_wp2_with fail
  go_loopw [3, 4] (fun r i wr => ∃ (k : Nat), k ≤ s.length ∧ i = .int .i64 k ∧ r = str (runR (s.take k)).1 ∧ Below w.heap.size w wr)
    (fun _ i _ => s.length - (intOf i).toNat)
  case atStart => exact ⟨0, by omega, rfl, rfl, hb1⟩
  case round =>
    obtain ⟨k, hk, rfl, rfl, hbw⟩ := hrel
    by_cases hlt : k < s.length
    · have HS := Lib.hid (runR_snoc s k hlt)
      have hF := runR_full (s.take k)
      generalize hq : runR (s.take k) = q at *
      have hlen := hF.len
      have hx := hF.idx s[k]
      have hl1 : q.1.length ≤ 1000000 := by omega
      have hl2 : 256 ≤ q.1.length := by omega
      clear hq hlen
      go_wp2_with fail
      refine (place_any q.1 s[k] _ (hF.mem _) hl1).mono ?_
      rintro e w3 ⟨rfl, rfl⟩
      go_wp2_with fail
      refine (moved_any q.1 (q.1.idxOf s[k]) _ (by omega) hl1).mono ?_
      rintro e w5 ⟨rfl, hb5⟩
      go_wp2
      go_roundw
      case rel => exact ⟨k + 1, by omega, by go_num, by rw [HS.out]; rfl, hbw.trans (hb5.mono hbw.size)⟩
      case measure => simp [intOf]; omega
    · have hfin : Hid (s.take k = s) := List.take_of_length_le (by omega)
      go_wp2
      go_ret
      exact ⟨by rw [hfin.out]; rfl, hbw⟩

set_option maxHeartbeats 2000000 in
theorem rtext_any (A0 : Option Addr) (n c0 : Nat) (l : List Int) (w : World) (h : Rd w w.heap.size 1 A0 n (ints l)) (hn : n ≤ 1000000) :
    Calls Try.prog 33 #[.slice A0 n c0] w fun e w' => e = .returned (.tuple #[str (textS l).1, .int .i64 (textS l).2]) ∧ Below w.heap.size w w' := by
  have hl := rd_len h
  have hl1 : l.length ≤ n := by omega
  have hl2 : n ≤ l.length := by omega
  clear hl
  go_enter Try.func33, Try.ntmps33
  go_wp2_with fail
  refine (rbegun_any _).mono ?_
  rintro e w1 ⟨rfl, hb1⟩
  go_wp2_with fail
  go_loopw [4, 5, 6] (fun r v i wr => ∃ (k c : Nat) (A : Option Addr), k ≤ n ∧ i = .int .i64 k ∧ v = .slice A k c ∧ okT (l.take k) ∧ r = str (runT (l.take k)).1 ∧ Own wr w.heap.size 5 1 A k c (byts (runT (l.take k)).2) ∧ Below w.heap.size w wr)
    (fun _ _ i _ => n - (intOf i).toNat)
  case atStart => exact ⟨0, 0, none, by omega, rfl, rfl, by intro m hm; simp at hm, rfl, Own.nil _ _ _ _, hb1⟩
  case round =>
    obtain ⟨k, c, A, hk, rfl, rfl, hok, rfl, hown, hbw⟩ := hrel
    have HOK := Lib.hid hok
    by_cases hlt : k < n
    · have hkl : k < l.length := by omega
      obtain ⟨bb, o, rfl, hbb, hc⟩ := rd_ints h (by omega)
      have HS := Lib.hid (runT_snoc l k hkl)
      have HBad := Lib.hid (textS_bad l k hkl)
      have HSn := Lib.hid (okT_snoc l k hkl hok)
      have hF := runT_full (l.take k) hok
      have d0 : wr.cell? ⟨bb, o + k, none⟩ = some (.int .i64 l[k]) := (hbw.cell (p := ⟨bb, _, none⟩) hbb).trans (hc k hkl)
      clear hc hok
      generalize hq : runT (l.take k) = q at *
      generalize hm : l[k] = m at *
      have hlen := hF.len
      have hq1 : q.1.length ≤ 1000000 := by omega
      have hq2 : 256 ≤ q.1.length := by omega
      clear hq hm hlen
      by_cases h0 : m < 0
      · have HT := Lib.hid (HBad.out (.inl h0))
        go_wp2
        go_ret2
        exact ⟨by rw [HT.out]; rfl, hbw⟩
      · by_cases h1 : 255 < m
        · have HT := Lib.hid (HBad.out (.inr h1))
          go_wp2
          go_ret2
          exact ⟨by rw [HT.out]; rfl, hbw⟩
        · obtain ⟨m, rfl⟩ := Int.eq_ofNat_of_zero_le (show 0 ≤ m by omega)
          go_wp2_with fail
          refine (moved_any q.1 m _ (by omega) hq1).mono ?_
          rintro e w3 ⟨rfl, hb3⟩
          have hown3 := hown.below hb3
          have hbw3 : Below w.heap.size w w3 := hbw.trans (hb3.mono hbw.size)
          have hp : 0 < (mtf q.1 m).length := by simp [mtf]
          have hp0 : (0 : Int) < ((mtf q.1 m).length : Int) := by omega
          go_wp2_with (at_builtin; refine wp_append El_u8 rfl rfl rfl (hown3.alloc _) rfl (Rd.of_blk (m := 1) (cs := [byt (q.1.getD m 0)]) (Blk.new w3 _ _) rfl) (by simp [byt, Value.oneCell']) (by unfold maxLen; omega) (by omega) (by have := hbw3.size; simp; omega) ?_; intro A4 c4 w4 hown4 hg4 hat4)
          go_roundw
          case rel =>
            refine ⟨k + 1, c4, A4, by omega, by go_num, rfl, HSn.out (by omega) (by omega), by rw [HS.out]; rfl, ?_, ?_⟩
            · rw [HS.out]
              simpa [stepT, byts] using hown4
            · exact (hbw3.alloc hbw3.size _).grown hg4 (by have := hbw3.size; simp; omega) (fun j hj => by have := hown3.blk j hj; omega)
          case measure => simp [intOf]; omega
    · have hfin : Hid (l.take k = l) := List.take_of_length_le (by omega)
      have hcv := run_bytes_str (P := Try.prog) wr (c := c) Try.underlying80 Try.underlying5 Try.underlying9 hown.rd
      go_wp2
      go_ret2
      rw [hfin.out] at hok ⊢
      exact ⟨by rw [textS_ok l hok]; rfl, hbw⟩
end FrontW
end Go.Proofs.Ytehlgpfkpagaeaa
