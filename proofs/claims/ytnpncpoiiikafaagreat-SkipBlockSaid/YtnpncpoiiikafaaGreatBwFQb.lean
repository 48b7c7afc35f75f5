/- The walk of bwt.Forward. -/
import Derived.Test.YtnpncpoiiikafaaGreatSuEQb
import Derived.Test.YtnpncpoiiikafaaGreatFrontXQb
import Derived.Test.YtnpncpoiiikafaaGreatZruPQb
import Derived.Test.YtnpncpoiiikafaaGreatSuWQb
namespace Go.Proofs.YtnpncpoiiikafaaGreat
set_option linter.unusedVariables false
set_option linter.unusedSimpArgs false
set_option linter.unnecessarySimpa false
open Go.RowKit
namespace BwW
open SufW (nt nt_len rd_nt nt_get rkOf Sa letters letters_len bwtL array_any w64s bwt_len)
open FrontW (wp_make El_u8)

theorem bwt_snoc0 (s : List UInt8) (A : List Nat) (k : Nat) (hk : k < A.length) (h : A[k] = 0) : bwtL s (A.take (k + 1)) = bwtL s (A.take k) := by
  unfold bwtL
  rw [List.take_succ_eq_append_getElem hk, List.filter_append, h]
  simp
theorem bwt_snoc1 (s : List UInt8) (A : List Nat) (k q : Nat) (hk : k < A.length) (h : A[k] = q + 1) (hq : q < s.length) : bwtL s (A.take (k + 1)) = bwtL s (A.take k) ++ [s[q]] := by
  unfold bwtL
  rw [List.take_succ_eq_append_getElem hk, List.filter_append, h, List.map_append]
  have : [q + 1].filter (fun p => decide (p ≠ 0)) = [q + 1] := by simp
  rw [this, List.map_singleton, Nat.add_sub_cancel, List.getElem?_eq_getElem hq]
  rfl
theorem bwt_take_len (s : List UInt8) (A : List Nat) (k : Nat) : (bwtL s (A.take k)).length ≤ k := by
  unfold bwtL
  rw [List.length_map]
  exact Nat.le_trans (List.length_filter_le _ _) (by rw [List.length_take]; omega)
set_option maxRecDepth 100000 in
set_option maxHeartbeats 4000000 in
theorem forward_any (s : List UInt8) (w : World) (hs : s.length ≤ 20000) :
    Calls Tryz.prog 96 #[str s] w fun e w' => ∃ (A : List Nat) (pr : Nat), e = .returned (.tuple #[str (bwtL s A), .int .i64 (pr : Nat), .int .i64 0]) ∧ Sa (letters s) A ∧ A[pr]? = some 0 ∧ Below w.heap.size w w' := by
  go_enter Tryz.func96, Tryz.ntmps96
  go_wp2_with fail
  refine (array_any s w hs).mono ?_
  rintro e w1 ⟨g, A, rfl, bA, sa, hb1⟩
  have hAl : A.length = s.length + 1 := by rw [sa.len, letters_len]
  have HAL := Lib.hid hAl
  have HSA := Lib.hid sa
  have hgl := bA.lt
  clear hAl sa
  obtain ⟨m, hm⟩ : ∃ m, s.length + 1 = m := ⟨_, rfl⟩
  rw [hm] at HAL
  rw [hm]
  have HM := Lib.hid hm
  have hm2 : m ≤ 20001 := by omega
  clear hm
  go_wp2_with (at_make; refine wp_make El_u8 rfl rfl w1.heap.size s.length rfl rfl (by simp) (by omega) (by unfold maxLen; omega) (Nat.le_refl _) ?_; intro w2 hown2 hg2)
  have bA2 := bA.grown hg2 (by simp)
  have hb2 : Below w.heap.size w w2 := hb1.grown hg2 hb1.size (by simp)
  go_loopw [3, 6, 22] (fun v3 v6 i wr => ∃ (k c P n : Nat) (X : Option Addr), k ≤ m ∧ i = .int .i64 k ∧ v3 = .int .i64 (P : Nat) ∧ v6 = .slice X n c ∧ (bwtL s (A.take k)).length = n ∧ (∀ j, j < k → A[j]? = some 0 → P = j) ∧ Own wr w1.heap.size 5 1 X n c (byts (bwtL s (A.take k))) ∧ Blk wr g 3 (nt A).toArray ∧ Below w.heap.size w wr ∧ w1.heap.size ≤ wr.heap.size)
    (fun _ _ i _ => m - (intOf i).toNat)
  case atStart => exact ⟨0, s.length, 0, 0, some ⟨w1.heap.size, 0, none⟩, by omega, rfl, rfl, rfl, by simp [bwtL], by omega, by simpa [bwtL, byts] using hown2, bA2, hb2, hg2.size⟩
  case round =>
    clear bA bA2 hb2 hown2 hg2
    obtain ⟨k, c, P, n, X, hk, rfl, rfl, rfl, hn, hP, hown, bA, hbw, hzr⟩ := hrel
    have hnk : n ≤ k := by rw [← hn]; exact bwt_take_len s A k
    have HN := Lib.hid hn
    have HP := Lib.hid hP
    clear hn hP
    by_cases hlt : k < m
    · have hkl : k < A.length := by rw [HAL.out]; exact hlt
      obtain ⟨p, hp⟩ : ∃ p, A[k] = p := ⟨_, rfl⟩
      have cp : wr.cell? ⟨g, k, none⟩ = some (.int .i64 (p : Nat)) := by rw [bA.cell, List.getElem?_toArray]; exact SufW.nt_at _ _ _ (by rw [List.getElem?_eq_getElem hkl, hp])
      have hkI : (k : Int) < (m : Int) := by omega
      have hk0 : (0 : Int) ≤ (k : Int) := by omega
      have hk1 : IntKind.i64.wrap ((k : Int) + 1) = (k : Int) + 1 := w64s (by omega) (by omega)
      have hpm : p < m := by
        have := (HSA.out.mem p).1 (by rw [← hp]; exact List.getElem_mem _)
        rw [letters_len, HM.out] at this
        exact this
      cases p with
      | zero =>
        have HS := Lib.hid (bwt_snoc0 s A k hkl hp)
        have HP2 : Hid (∀ j, j < k + 1 → A[j]? = some 0 → k = j) := Lib.hid fun j hj h => by
          obtain ⟨h1, h2⟩ := List.getElem?_eq_some_iff.1 h
          have : A[k] = A[j] := by rw [hp, h2]
          exact (List.getElem_inj HSA.out.nodup).1 this
        clear hp hkl
        go_wp2_with fail
        go_roundw
        case rel => exact ⟨k + 1, c, k, n, X, by omega, by go_num, rfl, rfl, by rw [HS.out]; exact HN.out, HP2.out, by rw [HS.out]; exact hown, bA, hbw, hzr⟩
        case measure => simp [intOf]; omega
      | succ q =>
        have hqs : q < s.length := by have := HM.out; omega
        have HS := Lib.hid (bwt_snoc1 s A k q hkl hp hqs)
        have HP2 : Hid (∀ j, j < k + 1 → A[j]? = some 0 → P = j) := Lib.hid fun j hj h => by
          by_cases e : j = k
          · subst e
            rw [List.getElem?_eq_getElem hkl, hp] at h
            simp at h
          · exact HP.out j (by omega) h
        have hq0 : (0 : Int) ≤ (q : Int) := by omega
        have hqw : IntKind.i64.wrap (q : Int) = (q : Int) := w64s (by omega) (by omega)
        have hqI : (q : Int) < (s.length : Int) := by omega
        have hne : ¬ (q : Int) + 1 = 0 := by omega
        clear hp hkl
        go_wp2_with (at_builtin; refine wp_append El_u8 rfl rfl rfl (hown.alloc _) rfl (Rd.of_blk (m := 1) (cs := [byt s[q]]) (Blk.new wr _ _) rfl) (by simp [byt, Value.oneCell']) (by unfold maxLen; omega) (by omega) (by simp; omega) ?_; intro A4 c4 w4 hown4 hg4 hat4)
        go_roundw
        case rel =>
          refine ⟨k + 1, c4, P, n + 1, A4, by omega, by go_num, rfl, rfl, ?_, HP2.out, ?_, ?_, ?_, ?_⟩
          · rw [HS.out, List.length_append, HN.out]; rfl
          · rw [HS.out]; simpa [byts] using hown4
          · exact (bA.alloc _).grown hg4 (fun e => by have := hown.blk _ e.symm; omega)
          · exact (hbw.alloc hbw.size _).grown hg4 (by have := hbw.size; simp; omega) (fun j hj => by have := hown.blk j hj; have := hb1.size; omega)
          · have := hg4.size; simp at this; omega
        case measure => simp [intOf]; omega
    · have hkm : k = m := by omega
      have HF := Lib.hid (show A.take k = A by rw [List.take_of_length_le (by rw [HAL.out]; omega)])
      have hcv := run_bytes_str (P := Tryz.prog) wr (c := c) Tryz.underlying99 Tryz.underlying5 Tryz.underlying9 hown.rd
      have HMEM : Hid (A[P]? = some 0) := Lib.hid (by
        have h0 : 0 ∈ A := (HSA.out.mem 0).2 (by rw [letters_len]; omega)
        obtain ⟨j, hj, e⟩ := List.getElem_of_mem h0
        have hj2 : A[j]? = some 0 := by rw [List.getElem?_eq_getElem hj, e]
        have := HP.out j (by rw [hkm, ← HAL.out]; exact hj) hj2
        rw [this]; exact hj2)
      have hkI : ¬ (k : Int) < (m : Int) := by omega
      have HK := Lib.hid hkm
      clear hkm
      go_wp2_with fail
      go_ret3
      exact ⟨A, P, by rw [HF.out]; rfl, HSA.out, HMEM.out, hbw⟩
end BwW
end Go.Proofs.YtnpncpoiiikafaaGreat

namespace Go.Proofs.YtnpncpoiiikafaaGreat
set_option linter.unusedVariables false
set_option linter.unusedSimpArgs false
set_option linter.unnecessarySimpa false
open Go.RowKit
namespace ZruW
open SufW (nt nt_len nt_at w64s)
open FrontW (wp_make El_int)

def up1 (l : List Nat) : List Nat := l.map (· + 1)
set_option maxRecDepth 100000 in
set_option maxHeartbeats 4000000 in
theorem digits_any (n : Nat) (hn : n ≤ 1000000) (w : World) :
    Calls Tryz.prog 151 #[.int .i64 n] w fun e w' => ∃ A m c, e = .returned (.slice A m c) ∧ (syZ (n + 1)).length = m ∧ Own w' w.heap.size 3 1 A m c (nt (up1 (syZ (n + 1)))) ∧ Below w.heap.size w w' := by
  by_cases h0 : n < 1
  · have e : n = 0 := by omega
    subst e
    go_enter Tryz.func151, Tryz.ntmps151
    go_wp2_with fail
    go_ret
    exact ⟨none, 0, 0, rfl, by rw [syZ_one _ (by omega)]; rfl, by rw [syZ_one _ (by omega)]; exact Own.nil _ _ _ _, Below.refl _ _⟩
  · have h1 : ¬ (n : Int) < 1 := by omega
    go_enter Tryz.func151, Tryz.ntmps151
    go_wp2_with fail
    go_loopw [3, 4] (fun v3 v4 wr => ∃ (A : Option Addr) (k c mm : Nat) (D : List Nat), v3 = .slice A k c ∧ v4 = .int .u64 (mm : Nat) ∧ 1 ≤ mm ∧ mm ≤ 1000001 ∧ D.length = k ∧ D ++ syZ mm = syZ (n + 1) ∧ Own wr w.heap.size 3 1 A k c (nt (up1 D)) ∧ Below w.heap.size w wr) (fun _ v4 _ => (intOf v4).toNat)
    case atStart => exact ⟨none, 0, 0, n + 1, [], rfl, by go_num, by omega, by omega, rfl, rfl, Own.nil _ _ _ _, Below.refl _ _⟩
    case round =>
      obtain ⟨A, k, c, mm, D, rfl, rfl, hm1, hm2, hk, hD, ho, hb⟩ := hrel
      have HK := Lib.hid hk
      have HD := Lib.hid hD
      have hkb : k ≤ 1000000 := by
        have h1 := sy_len (n + 1) (by omega)
        have h2 := congrArg List.length hD
        simp only [List.length_append] at h2
        omega
      clear hk hD
      by_cases hlt : 1 < mm
      · have hI : (1 : Int) < (mm : Int) := by omega
        have HS := Lib.hid (syZ_two mm (by omega))
        obtain ⟨b, hb2⟩ : ∃ b, mm % 2 = b := ⟨_, rfl⟩
        have hb1 : b ≤ 1 := by omega
        have hand : bits BinOp.and IntKind.u64 (mm : Int) 1 = (b : Int) := by
          have := bits_nat_and .u64 mm 1 (by simp [IntKind.bits]; omega) (by decide)
          rw [Nat.and_one_is_mod, hb2, IntKind.wrap_u64] at this
          rw [show (1 : Int) = ((1 : Nat) : Int) from rfl, this]
          omega
        have hw1 : wrap64 (b : Int) = (b : Int) := by unfold wrap64; omega
        have hw2 : wrap64 ((b : Int) + 1) = (b : Int) + 1 := by unfold wrap64; omega
        rw [hb2] at HS
        clear hb2
        go_wp2_with (at_builtin; refine wp_append El_int rfl rfl rfl (ho.alloc _) rfl (Rd.of_blk (m := 1) (cs := [.int .i64 ((b : Int) + 1)]) (Blk.new wr _ _) rfl) (by simp [Value.oneCell']) (by unfold maxLen; omega) (by omega) (by have := hb.size; simp; omega) ?_; intro A4 c4 w4 o4 hg4 hat4)
        go_roundw
        case rel =>
          refine ⟨A4, k + 1, c4, mm / 2, D ++ [b], rfl, by go_num, by omega, by omega, by rw [List.length_append, HK.out]; rfl, ?_, ?_, ?_⟩
          · rw [← HD.out, HS.out, List.append_assoc]; rfl
          · simpa [up1, nt, ints] using o4
          · exact (hb.alloc hb.size _).grown hg4 (by have := hb.size; simp; omega) (fun j hj => by have := ho.blk j hj; omega)
        case measure => simp [intOf]; omega
      · have hI : ¬ (1 : Int) < (mm : Int) := by omega
        have HE := Lib.hid (syZ_one mm (by omega))
        go_wp2_with fail
        go_ret
        have e : D = syZ (n + 1) := by rw [← HD.out, HE.out, List.append_nil]
        exact ⟨A, k, c, rfl, by rw [← e]; exact HK.out, by rw [← e]; exact ho, hb⟩
theorem up1_at (l : List Nat) (j : Nat) (h : j < l.length) : (up1 l)[j]? = some (l[j] + 1) := by simp [up1, h]
/-- The run and the row that 'flush' turns. -/
def FlushP (w0 : World) (bR bO base most : Nat) (D : List Nat) (run : Nat) (w : World) : Prop := ∃ (X : Option Addr) (k c : Nat), k ≤ most ∧ Blk w bR 3 #[.int .i64 (run : Nat)] ∧ Blk w bO 84 #[.slice X k c] ∧ Own w base 3 1 X k c (nt D) ∧ blkOf X ≠ some bR ∧ blkOf X ≠ some bO ∧ Below w0.heap.size w0 w
set_option maxRecDepth 100000 in
set_option maxHeartbeats 4000000 in
theorem flush_any (w0 : World) (bR bO base run k c : Nat) (X : Option Addr) (D : List Nat) (w : World) (hb0 : Below w0.heap.size w0 w) (h1 : w0.heap.size ≤ base) (h2 : w0.heap.size ≤ bR) (h3 : w0.heap.size ≤ bO) (hRO : bR ≠ bO)
    (hR : Blk w bR 3 #[.int .i64 (run : Nat)]) (hO : Blk w bO 84 #[.slice X k c]) (ho : Own w base 3 1 X k c (nt D)) (hX : blkOf X ≠ some bR) (hX2 : blkOf X ≠ some bO) (hbs : base ≤ w.heap.size) (hk : k + run ≤ 1000000) :
    Calls Tryz.prog 150 #[.pointer (some ⟨bR, 0, none⟩), .pointer (some ⟨bO, 0, none⟩)] w fun e w' => e = .returned (.tuple #[]) ∧ FlushP w0 bR bO base (k + run) (D ++ syZ (run + 1)) 0 w' ∧ w.heap.size ≤ w'.heap.size := by
  obtain ⟨c0, _, _⟩ := blk1 hR
  have hrl := hR.lt
  have hol := hO.lt
  go_enter Tryz.func150, Tryz.ntmps150
  go_wp2_with fail
  refine (digits_any run (by omega) w).mono ?_
  rintro e w1 ⟨A, m, cm, rfl, hm, oA, hb1⟩
  have hml : m ≤ run := by have := sy_len (run + 1) (by omega); omega
  have R1 := hR.below hb1 hrl
  have O1 := hO.below hb1 hol
  have o1 := ho.below hb1
  have B1 := hb0.trans (hb1.mono hb0.size)
  have hAX : ∀ j, blkOf A = some j → blkOf X ≠ some j := fun j hj e => by have := (ho.blk j e).2; have := (oA.blk j hj).1; omega
  have hz1 := hb1.size
  have HM := Lib.hid hm
  clear hR hO ho hb0 c0 hb1
  go_wp2_with fail
  go_loopw [7] (fun iv wr => ∃ (j kx cx : Nat) (Y : Option Addr), iv = .int .i64 j ∧ j ≤ m ∧ kx = k + j ∧ Blk wr bR 3 #[.int .i64 (run : Nat)] ∧ Blk wr bO 84 #[.slice Y kx cx] ∧ Own wr base 3 1 Y kx cx (nt (D ++ (syZ (run + 1)).take j)) ∧ Own wr w.heap.size 3 1 A m cm (nt (up1 (syZ (run + 1)))) ∧
      blkOf Y ≠ some bR ∧ blkOf Y ≠ some bO ∧ (∀ j, blkOf A = some j → blkOf Y ≠ some j) ∧ Below w0.heap.size w0 wr ∧ w.heap.size ≤ wr.heap.size) (fun iv _ => m - (intOf iv).toNat)
  case atStart => exact ⟨0, k, c, X, rfl, by omega, rfl, R1, O1, by simpa using o1, oA, hX, hX2, hAX, B1, hz1⟩
  case round =>
    clear R1 O1 o1 oA hX hX2 hAX B1 hz1
    obtain ⟨j, kx, cx, Y, rfl, hj, hkx, R1, O1, o1, oA, hX, hX2, hAX, B1, hz1⟩ := hrel
    obtain ⟨cO, fO, lO⟩ := blk1 O1
    obtain ⟨cR, fR, lR⟩ := blk1 R1
    have hkb : kx ≤ 1000000 := by omega
    have HKX := Lib.hid hkx
    clear hkx
    by_cases hlt : j < m
    · have hjl : j < (syZ (run + 1)).length := by rw [HM.out]; exact hlt
      obtain ⟨x, hx⟩ : ∃ x, (syZ (run + 1))[j] = x := ⟨_, rfl⟩
      have hxb : x ≤ 1 := by rw [← hx]; exact sy_bit _ _ (List.getElem_mem _)
      have hcx : (nt (up1 (syZ (run + 1))))[j]? = some (.int .i64 ((x + 1 : Nat) : Int)) := nt_at _ _ _ (by rw [up1_at _ _ hjl, hx])
      have HTK := Lib.hid (show (syZ (run + 1)).take (j + 1) = (syZ (run + 1)).take j ++ [x] by rw [List.take_succ_eq_append_getElem hjl, hx])
      obtain ⟨b, o, rfl, hbb, hcc⟩ := oA.rd.at_ (by omega)
      have cA : wr.cell? ⟨b, o + j, none⟩ = some (.int .i64 ((x + 1 : Nat) : Int)) := by
        obtain ⟨hj2, hj3⟩ := List.getElem?_eq_some_iff.1 hcx
        rw [hcc j hj2, hj3]
      have hjI : (j : Int) < (m : Int) := by omega
      have hj0 : (0 : Int) ≤ (j : Int) := by omega
      have hj1 : IntKind.i64.wrap ((j : Int) + 1) = (j : Int) + 1 := w64s (by omega) (by omega)
      have hxw : IntKind.i64.wrap (x : Int) = (x : Int) := w64s (by omega) (by omega)
      clear hcc hcx hx hjl
      go_wp2_with (at_builtin; refine wp_append El_int rfl rfl rfl (o1.alloc _) rfl (Rd.of_blk (m := 1) (cs := [.int .i64 (x : Int)]) (Blk.new wr _ _) rfl) (by simp [Value.oneCell']) (by unfold maxLen; omega) (by omega) (by simp; omega) ?_; intro A4 c4 w4 o4 hg4 hat4; have O4 := (O1.alloc (.cells #[.int .i64 (x : Int)] 3)).grown hg4 (fun e => hX2 e.symm); obtain ⟨cO4, fO4, lO4⟩ := blk1 O4)
      go_roundw
      case rel =>
        have hYO : blkOf A4 ≠ some bO := by
          rcases hat4 with e | e
          · rw [e]; exact hX2
          · rw [e]; intro e2; simp at e2; omega
        have hYR : blkOf A4 ≠ some bR := by
          rcases hat4 with e | e
          · rw [e]; exact hX
          · rw [e]; intro e2; simp at e2; omega
        have hlb := oA.blk b rfl
        have hYA : ∀ j, blkOf (some ⟨b, o, none⟩) = some j → blkOf A4 ≠ some j := by
          intro j hj
          rcases hat4 with e | e
          · rw [e]; exact hAX j hj
          · rw [e]; intro e2; simp [blkOf] at e2 hj; omega
        have R4 := (R1.alloc (.cells #[.int .i64 (x : Int)] 3)).grown hg4 (fun e => hX e.symm)
        have oA4 := Own.other (B := Y) (oA.alloc (.cells #[.int .i64 (x : Int)] 3)) hg4 hAX
        have B4 : Below w0.heap.size w0 w4 := (B1.alloc B1.size _).grown hg4 (by have := B1.size; simp; omega) (fun j hj => by have := o1.blk j hj; omega)
        have hz4 := hg4.size
        simp only [World.size_alloc] at hz4
        refine ⟨j + 1, kx + 1, c4, A4, by go_num, by omega, by have := HKX.out; omega, R4.far (p := ⟨bO, 0, none⟩) hRO _, blk_eq (O4.set 0 _) (by simp), ?_, oA4.far (p := ⟨bO, 0, none⟩) (by simp [blkOf]; omega) _, hYR, hYO, hYA, B4.setCell (p := ⟨bO, 0, none⟩) h3 _, by rw [World.size_setCell]; omega⟩
        refine Own.far ?_ (p := ⟨bO, 0, none⟩) hYO _
        rw [HTK.out, ← List.append_assoc]
        simpa [nt, ints] using o4
      case measure => simp [intOf]; omega
    · have hjm : j = m := by omega
      have HT := Lib.hid (show (syZ (run + 1)).take j = syZ (run + 1) by rw [List.take_of_length_le (by rw [HM.out]; omega)])
      have hI : ¬ (j : Int) < (m : Int) := by omega
      clear hjm
      go_wp2_with fail
      go_end0
      refine ⟨rfl, ⟨Y, kx, cx, by have := HKX.out; omega, blk_eq (R1.set 0 (.int .i64 0)) (by simp), O1.far (p := ⟨bR, 0, none⟩) (fun e => hRO e.symm) _, ?_, hX, hX2, B1.setCell (p := ⟨bR, 0, none⟩) h2 _⟩, by rw [World.size_setCell]; exact hz1⟩
      have := o1
      rw [HT.out] at this
      exact this.far (p := ⟨bR, 0, none⟩) hX _
end ZruW
end Go.Proofs.YtnpncpoiiikafaaGreat
