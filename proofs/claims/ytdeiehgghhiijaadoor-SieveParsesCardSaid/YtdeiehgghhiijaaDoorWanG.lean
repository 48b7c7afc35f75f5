/- The walks of package want: a Builder's bytes; bytes in the base 16. -/
import Derived.Test.YtdeiehgghhiijaaDoorWanD
import Derived.Test.YtdeiehgghhiijaaDoorBld
import Derived.Test.YtdeiehgghhiijaaDoorShelf
namespace Go.Proofs.YtdeiehgghhiijaaDoor
set_option linter.unusedVariables false
set_option linter.unusedSimpArgs false
set_option linter.unnecessarySimpa false
open Go.RowKit
namespace WanW
open Bld (Bl)

set_option maxHeartbeats 2000000 in
set_option maxRecDepth 100000 in
theorem byte_any (B b : Nat) (l : List UInt8) (c : UInt8) (w : World) (h : Bl B b l w) (hlen : l.length + 1 ≤ 1000000) (hBw : B ≤ w.heap.size) :
    Calls Tryd.prog 45 #[.pointer (some ⟨b, 0, none⟩), byt c] w fun e w' => e = .returned .nilIface ∧ Bl B b (l ++ [c]) w' ∧ Below B w w' := by
  obtain ⟨i0, hi, hz0, hz1, hz2⟩ := info_parts Bld.infoByte
  obtain ⟨n, hn⟩ : ∃ n : Int, (c.toNat : Int) = n := ⟨_, rfl⟩
  have hby : byts (l ++ [c]) = byts l ++ [.int .u8 n] := by subst hn; simp [byts, byt]
  have HBY := Lib.hid hby
  clear hby
  rw [show byt c = .int .u8 n by rw [byt, hn]]
  clear hn
  go_enter Tryd.func45, Tryd.ntmps45
  go_wp2_with fail
  refine (Bld.copyCheck_any B b (byts l) _ h).mono ?_
  rintro e w1 ⟨rfl, h1, hb1⟩
  obtain ⟨hB, v, hbk, hown, hne⟩ := h1
  have hl : (byts l).length = l.length := by simp [byts]
  rw [hl] at hown
  have c0 : w1.cell? ⟨b, 0, none⟩ = some (.pointer (some ⟨b, 0, none⟩)) := by rw [Lib.cell_of_heap hbk]; rfl
  have c1 : w1.cell? ⟨b, 1, none⟩ = some v := by rw [Lib.cell_of_heap hbk]; rfl
  clear hl
  have hlt : b < w1.heap.size := by
    rcases Nat.lt_or_ge b w1.heap.size with h' | h'
    · exact h'
    · simp [Array.getElem?_eq_none h'] at hbk
  have hs1 := hb1.size
  obtain ⟨A, cp, rfl⟩ : ∃ A cp, v = .slice A l.length cp := by
    rcases hown.2 with ⟨hv, h0⟩ | ⟨g, cap, cur, hv, _⟩
    · exact ⟨none, 0, by rw [hv, h0]⟩
    · exact ⟨_, _, hv⟩
  have ho : Own w1 B 5 1 A l.length cp (byts l) := hown
  have hal := ho.alloc (.cells #[.int .u8 n] 5)
  have hrd : Rd (w1.alloc (.cells [.int .u8 n].toArray 5)) (w1.heap.size + 1) 1 (some ⟨w1.heap.size, 0, none⟩) 1 [.int .u8 n] := rd_new rfl rfl
  go_wp2_with (at_builtin; refine wp_append El_u8 rfl rfl rfl hal rfl hrd (by intro u hu; obtain rfl := List.mem_singleton.1 hu; rfl) (by unfold maxLen; omega) (by omega) (by simp; omega) ?_)
  intro A' c' w2 ho2 hg2 at2
  have hgrow := World.grownBy_alloc w1 (.cells #[.int .u8 n] 5) (blkOf A) |>.trans hg2
  have hb2 : w2.heap[b]? = some (.cells #[.pointer (some ⟨b, 0, none⟩), .slice A l.length cp] 105 (0, 0)) := by
    rw [hgrow.block b hlt (by rw [← ownBlock_slice A l.length cp]; exact fun e => hne e.symm)]
    exact hbk
  have d0 : w2.cell? ⟨b, 0, none⟩ = some (.pointer (some ⟨b, 0, none⟩)) := by rw [Lib.cell_of_heap hb2]; rfl
  have d1 : w2.cell? ⟨b, 1, none⟩ = some (.slice A l.length cp) := by rw [Lib.cell_of_heap hb2]; rfl
  have f1 : w2.frozen? ⟨b, 1, none⟩ = false := Lib.frozen_of_heap hb2 1
  have HG := Lib.hid hgrow
  have HO := Lib.hid ho2
  clear hgrow ho2 hg2 at2 hrd hal hown hbk
  go_wp2_with fail
  go_ret
  have ho3 := HO.out
  rw [← HBY.out] at ho3
  have e1 : l.length + 1 = (byts (l ++ [c])).length := by simp [byts]
  refine ⟨rfl, .inr ?_, ?_⟩
  · have h4 : w2.ownsRow B 5 1 (.slice A' (l.length + 1) c') (byts (l ++ [c])).length (byts (l ++ [c])) := by
      rw [← e1]; exact ho3
    exact Lib.BuilderAt.put hB hb2 h4 (by decide)
  · have hb3 : Below B w w2 := Below.grown hb1 HG.out (by have := hb1.size; omega) (fun k hk => (ho.blk k hk).1)
    exact hb3.setCell (p := ⟨b, 1, none⟩) hB _

theorem bl_text (B b : Nat) (l : List UInt8) (w : World) (h : Bl B b l w) (hBw : B ≤ w.heap.size) :
    Calls Tryd.prog 46 #[.pointer (some ⟨b, 0, none⟩)] w fun e w' => e = .returned (str l) ∧ Below B w w' := Tryd.Builder_String_any B b l w h hBw
def sixteenB : ByteArray := ⟨#[48, 49, 50, 51, 52, 53, 54, 55, 56, 57, 97, 98, 99, 100, 101, 102]⟩
theorem sixteen_at (a : Nat) (h : a < 16) : (sixteenB[a]'h) = digB a := by
  have : ∀ a : Fin 16, (sixteenB[a.1]'a.2) = digB a.1 := by decide
  exact this ⟨a, h⟩
set_option maxRecDepth 100000 in
set_option maxHeartbeats 4000000 in
theorem hex_any (s : List UInt8) (w : World) (hs : s.length ≤ 100000) : Calls Tryd.prog 34 #[str s] w fun e w' => e = .returned (str (hexL s)) ∧ Below w.heap.size w w' := by
  obtain ⟨S, hS⟩ : ∃ S : ByteArray, (⟨s.toArray⟩ : ByteArray) = S := ⟨_, rfl⟩
  have HS := Lib.hid hS
  have hsz : S.size = s.length := by rw [← hS]; simp [ByteArray.size]
  have HB0 := Bl.fresh w
  have HBL := (Below.refl w.heap.size w).alloc (Nat.le_refl _) (.cells #[.pointer none, .slice none 0 0] 105)
  go_enter Tryd.func34, Tryd.ntmps34
  go_wp2_with fail
  go_loopw [4] (fun i wr => ∃ k : Nat, i = .int .i64 k ∧ k ≤ s.length ∧ Bl w.heap.size w.heap.size (hexL (s.take k)) wr ∧ Below w.heap.size w wr) (fun i _ => s.length - (intOf i).toNat)
  case atStart => exact ⟨0, rfl, by omega, by simpa [hexL] using HB0, HBL⟩
  case round =>
    obtain ⟨k, rfl, hk, o2, HB⟩ := hrel
    clear HB0 HBL
    have hsz2 := HB.size
    by_cases hlt : k < s.length
    · have hkI : (k : Int) < (s.length : Int) := by omega
      have hk0 : (0 : Int) ≤ (k : Int) := by omega
      have hkS : k < S.size := by rw [hsz]; exact hlt
      obtain ⟨x, hx⟩ : ∃ x, S[k] = x := ⟨_, rfl⟩
      have hx2 : s[k] = x := by
        rw [← hx]
        subst hS
        rfl
      obtain ⟨m, hm⟩ : ∃ m : Nat, x.toNat = m := ⟨_, rfl⟩
      have hm256 : m < 256 := by rw [← hm]; exact x.toNat_lt
      have HN := Lib.hid (show hexL (s.take (k + 1)) = hexL (s.take k) ++ [digB (m / 16), digB (m % 16)] by rw [List.take_succ_eq_append_getElem hlt, hexL_snoc, hx2, hm])
      have hadd : IntKind.i64.wrap ((k : Int) + 1) = (k : Int) + 1 := w64k (by omega) (by omega)
      have hl1 := hexL_len (s.take k)
      have hl2 : (s.take k).length ≤ s.length := by rw [List.length_take]; omega
      have ha : m / 16 < 16 := by omega
      have hb : m % 16 < 16 := by omega
      have HX1 := Lib.hid (sixteen_at (m / 16) ha)
      have HX2 := Lib.hid (sixteen_at (m % 16) hb)
      go_wp2_with fail
      refine (byte_any _ _ _ _ _ o2 (by omega) hsz2).mono ?_
      rintro e w1 ⟨rfl, o3, hb1⟩
      have hs1 := hb1.size
      go_wp2_with fail
      refine (byte_any _ _ _ _ _ o3 (by simp; omega) (by omega)).mono ?_
      rintro e w2 ⟨rfl, o4, hb2⟩
      go_wp2_with fail
      go_roundw
      case rel =>
        refine ⟨k + 1, by go_num, by omega, ?_, (HB.trans hb1).trans hb2⟩
        rw [HN.out, ← HX1.out, ← HX2.out]
        rw [List.append_assoc] at o4
        exact o4
      case measure => simp [intOf]; omega
    · have hkI : ¬ (k : Int) < (s.length : Int) := by omega
      rw [List.take_of_length_le (by omega)] at o2
      go_wp2_with fail
      refine (bl_text _ _ _ _ o2 hsz2).mono ?_
      rintro e w1 ⟨rfl, hb1⟩
      go_wp2_with fail
      go_ret
      exact ⟨rfl, HB.trans hb1⟩
end WanW
end Go.Proofs.YtdeiehgghhiijaaDoor
