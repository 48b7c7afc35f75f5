/- Walks over package front: bytes of ranks, the row behind bytes. -/
import Derived.Test.YtehlgpfkpagaeaaFrontX
namespace Go.Proofs.Ytehlgpfkpagaeaa
set_option linter.unusedVariables false
set_option linter.unusedSimpArgs false
set_option linter.unnecessarySimpa false
open Go.RowKit
namespace FrontW

def okB (l : List Int) : Bool := l.all fun n => decide (0 ≤ n) && decide (n ≤ 255)
def textS (l : List Int) : List UInt8 × Int := if okB l = true then ((runT l).2, 0) else ([], 60)
theorem okB_iff (l : List Int) : okB l = true ↔ okT l := by simp [okB, okT]
theorem okT_snoc (l : List Int) (k : Nat) (hk : k < l.length) (h : okT (l.take k)) (h0 : 0 ≤ l[k]) (h1 : l[k] ≤ 255) : okT (l.take (k + 1)) := by
  rw [List.take_succ_eq_append_getElem hk]
  intro n hn
  rcases List.mem_append.1 hn with hn | hn
  · exact h n hn
  · obtain rfl : n = l[k] := by simpa using hn
    exact ⟨h0, h1⟩
theorem textS_bad (l : List Int) (k : Nat) (hk : k < l.length) (h : l[k] < 0 ∨ 255 < l[k]) : textS l = ([], 60) := by
  unfold textS
  rw [if_neg]
  rw [okB_iff]
  intro ho
  have := ho l[k] (List.getElem_mem hk)
  omega
theorem textS_ok (l : List Int) (h : okT l) : textS l = ((runT l).2, 0) := by unfold textS; rw [if_pos ((okB_iff l).2 h)]

set_option maxHeartbeats 2000000 in
theorem text_any (A0 : Option Addr) (n c0 : Nat) (l : List Int) (w : World) (h : Rd w w.heap.size 1 A0 n (ints l)) (hn : n ≤ 1000000) :
    Calls Try.prog 32 #[.slice A0 n c0] w fun e w' => e = .returned (.tuple #[str (textS l).1, .int .i64 (textS l).2]) ∧ Below w.heap.size w w' := by
  have hmf : ∀ (fn : Fn) (first cap : Array Value) (w : World), (Instr.makeFunc fn first cap).run Try.prog w = .ok (.func fn first cap) w := fun _ _ _ _ => rfl
  have hl := rd_len h
  have hl1 : l.length ≤ n := by omega
  have hl2 : n ≤ l.length := by omega
  clear hl
  go_enter Try.func32, Try.ntmps32
  go_wp2_with fail
  refine (begun_any _).mono ?_
  rintro e w1 ⟨rfl, hB1, hb1⟩
  have hz1 := hB1.lt
  go_wp2_with (at_make; refine wp_make El_u8 rfl rfl w1.heap.size n rfl rfl (by simp) (by omega) (by unfold maxLen; omega) (Nat.le_refl _) ?_; intro w2 hown2 hg2)
  have hB2 := hB1.grown hg2 (by simp)
  have hb2 : Below w.heap.size w w2 := hb1.grown hg2 hb1.size (by simp)
  go_loopw [5, 15] (fun v i wr => ∃ (k c : Nat) (A : Option Addr), k ≤ n ∧ i = .int .i64 k ∧ v = .slice A k c ∧ okT (l.take k) ∧ Own wr w1.heap.size 5 1 A k c (byts (runT (l.take k)).2) ∧ Blk wr w.heap.size 87 (rowC (runT (l.take k)).1) ∧ Below w.heap.size w wr ∧ w1.heap.size ≤ wr.heap.size)
    (fun _ i _ => n - (intOf i).toNat)
  case atStart => exact ⟨0, n, some ⟨w1.heap.size, 0, none⟩, by omega, rfl, rfl, by intro m hm; simp at hm, hown2, hB2, hb2, hg2.size⟩
  case round =>
    obtain ⟨k, c, A, hk, rfl, rfl, hok, hown, hB, hbw, hzr⟩ := hrel
    have HOK := Lib.hid hok
    by_cases hlt : k < n
    · have hkl : k < l.length := by omega
      obtain ⟨bb, o, rfl, hbb, hc⟩ := rd_ints h (by omega)
      have HS := Lib.hid (runT_snoc l k hkl)
      have HBad := Lib.hid (textS_bad l k hkl)
      have HSn := Lib.hid (okT_snoc l k hkl hok)
      have hF := runT_full (l.take k) hok
      have d0 : wr.cell? ⟨bb, o + k, none⟩ = some (.int .i64 l[k]) := (hbw.cell (p := ⟨bb, _, none⟩) hbb).trans (hc k hkl)
      clear hc hok
      generalize hq : runT (l.take k) = q at *
      generalize hm : l[k] = m at *
      clear hq hm
      by_cases h0 : m < 0
      · have HT := Lib.hid (HBad.out (.inl h0))
        go_wp2
        go_ret2
        exact ⟨by rw [HT.out]; rfl, hbw⟩
      · by_cases h1 : 255 < m
        · have HT := Lib.hid (HBad.out (.inr h1))
          go_wp2
          go_ret2
          exact ⟨by rw [HT.out]; rfl, hbw⟩
        · obtain ⟨m, rfl⟩ := Int.eq_ofNat_of_zero_le (show 0 ≤ m by omega)
          go_wp2_with fail
          refine (at_any _ m q.1 _ hF.len (by omega) hB).mono ?_
          rintro e w3 ⟨rfl, hB3, hg3⟩
          have hown3 := hown.grown hg3 (by
            by_cases h : blkOf A = none
            · exact .inl h
            · refine .inr fun e => ?_
              have := (hown.blk _ e).1
              omega)
          have hbw3 : Below w.heap.size w w3 := hbw.grown hg3 hbw.size (by simp)
          have hz3 := hg3.size
          unfold byt
          go_wp2_with (at_builtin; refine wp_append El_u8 rfl rfl rfl (hown3.alloc _) rfl (Rd.of_blk (m := 1) (cs := [byt (q.1.getD m 0)]) (Blk.new w3 _ _) rfl) (by simp [byt, Value.oneCell']) (by unfold maxLen; omega) (by omega) (by simp; omega) ?_; intro A4 c4 w4 hown4 hg4 hat4)
          go_roundw
          case rel =>
            refine ⟨k + 1, c4, A4, by omega, by go_num, rfl, HSn.out (by omega) (by omega), ?_, ?_, ?_, by have := hg4.size; simp at this; omega⟩
            · rw [HS.out]
              simpa [stepT, byts] using hown4
            · rw [HS.out]
              exact (hB3.alloc _).grown hg4 (fun e => by have := hown3.blk _ e.symm; omega)
            · exact (hbw3.alloc hbw3.size _).grown hg4 (by simp; omega) (fun j hj => by have := hown3.blk j hj; omega)
          case measure => simp [intOf]; omega
    · have hfin : Hid (l.take k = l) := List.take_of_length_le (by omega)
      have hcv := run_bytes_str (P := Try.prog) wr (c := c) Try.underlying80 Try.underlying5 Try.underlying9 hown.rd
      go_wp2
      go_ret2
      rw [hfin.out] at hok ⊢
      exact ⟨by rw [textS_ok l hok]; rfl, hbw⟩

set_option maxHeartbeats 2000000 in
theorem row_any (s : List UInt8) (w : World) (hs : s.length ≤ 1000000) :
    Calls Try.prog 37 #[str s] w fun e w' => e = .returned (str (runR s).1) ∧ Below w.heap.size w w' := by
  go_enter Try.func37, Try.ntmps37
  go_wp2_with fail
  refine (begun_any _).mono ?_
  rintro e w1 ⟨rfl, hB1, hb1⟩
  go_wp2_with fail
  go_loopw [4] (fun i wr => ∃ (k : Nat), k ≤ s.length ∧ i = .int .i64 k ∧ Blk wr w.heap.size 87 (rowC (runR (s.take k)).1) ∧ Below w.heap.size w wr)
    (fun i _ => s.length - (intOf i).toNat)
  case atStart => exact ⟨0, by omega, rfl, hB1, hb1⟩
  case round =>
    obtain ⟨k, hk, rfl, hB, hbw⟩ := hrel
    by_cases hlt : k < s.length
    · have HS := Lib.hid (runR_snoc s k hlt)
      have hF := runR_full (s.take k)
      generalize hq : runR (s.take k) = q at *
      clear hq
      go_wp2_with fail
      refine (rank_any _ s[k] q.1 _ hF hB).mono ?_
      rintro e w3 ⟨rfl, hB3, hg3⟩
      have hbw3 : Below w.heap.size w w3 := hbw.grown hg3 hbw.size (by simp)
      go_wp2
      go_roundw
      case rel => exact ⟨k + 1, by omega, by go_num, by rw [HS.out]; exact hB3, hbw3⟩
      case measure => simp [intOf]; omega
    · have hfin : Hid (s.take k = s) := List.take_of_length_le (by omega)
      have hF := runR_full (s.take k)
      have hlen := hF.len
      have hz := hB.lt
      have hcv := run_bytes_str (P := Try.prog) wr (A := some ⟨w.heap.size, 0, none⟩) (n := 256) (c := 256) (B := w.heap.size + 1) (l := (runR (s.take k)).1) Try.underlying80 Try.underlying5 Try.underlying9 (Rd.of_blk (m := 256) (by exact hB) (by rw [byts_len, hlen]))
      clear hlen
      go_wp2
      go_ret
      exact ⟨by rw [hfin.out]; rfl, hbw⟩
end FrontW
end Go.Proofs.Ytehlgpfkpagaeaa
