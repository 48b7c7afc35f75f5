/- The walk of zrun.Pack. -/
import Derived.Test.YtnpncpoiiikafaaGreatBwFQb
import Derived.WalkMore
import Derived.ScopeJumps
import Derived.Deep.LoopGhost
import Derived.Test.YtnpncpoiiikafaaGreatHufEQb
import Derived.Test.YtnpncpoiiikafaaGreatHufAQb
import Derived.Test.YtnpncpoiiikafaaGreatVarWQb
import Derived.Test.YtnpncpoiiikafaaGreatZruPQb
namespace Go.Proofs.YtnpncpoiiikafaaGreat
set_option linter.unusedVariables false
set_option linter.unusedSimpArgs false
set_option linter.unnecessarySimpa false
open Go.RowKit
namespace ZruW
open SufW (nt nt_len nt_at w64s)
open FrontW (wp_make El_int)

theorem pack_zero (r : List Nat) (j k : Nat) (h : j < r.length) (h0 : r[j] = 0) : packZ (r.drop j) k = packZ (r.drop (j + 1)) (k + 1) := by
  rw [List.drop_eq_getElem_cons h, h0, packZ]
theorem pack_one (r : List Nat) (j k y : Nat) (h : j < r.length) (h0 : r[j] = y + 1) : packZ (r.drop j) k = syZ (k + 1) ++ (y + 2) :: packZ (r.drop (j + 1)) 0 := by
  rw [List.drop_eq_getElem_cons h, h0, packZ]
set_option maxRecDepth 100000 in
set_option maxHeartbeats 8000000 in
theorem pack_any (A : Option Addr) (n c : Nat) (r : List Nat) (w : World) (h : Rd w w.heap.size 1 A n (nt r)) (hn : n ≤ 100000) (hr : ∀ x ∈ r, x ≤ 255) :
    Calls Tryz.prog 97 #[.slice A n c] w fun e w' => ∃ X k c', e = .returned (.tuple #[.slice X k c', .int .i64 0]) ∧ k ≤ n ∧ Rd w' w'.heap.size 1 X k (nt (packZ r 0)) ∧ Below w.heap.size w w' := by
  have hmf : ∀ (fn : Fn) (first cap : Array Value) (w : World), (Instr.makeFunc fn first cap).run Tryz.prog w = .ok (.func fn first cap) w := fun _ _ _ _ => rfl
  have hrl : r.length = n := by have := h.len; rw [nt_len] at this; omega
  have HR := Lib.hid hr
  have HRL := Lib.hid hrl
  clear hr hrl
  go_enter Tryz.func97, Tryz.ntmps97
  go_wp2_with fail
  go_step3
  go_wp2_with (at_make; refine wp_make El_int rfl rfl w.heap.size n rfl rfl (by simp) (by omega) (by unfold maxLen; omega) (Nat.le_refl _) ?_; intro w2 o2 hg2)
  have hb2 : Below w.heap.size w w2 := below_grow (Below.refl _ _) hg2
  obtain ⟨bO, hbO⟩ : ∃ bO, w2.heap.size = bO := ⟨_, rfl⟩
  have hwO : w.heap.size < bO := by rw [← hbO]; exact (o2.blk w.heap.size rfl).2
  obtain ⟨w3, hw3⟩ : ∃ w3, (w2.alloc (.cells #[.slice (some ⟨w.heap.size, 0, none⟩) 0 n] 84)).alloc (.cells #[.int .i64 0] 3) = w3 := ⟨_, rfl⟩
  have F0 : FlushP w (bO + 1) bO w.heap.size 0 [] 0 w3 := by
    refine ⟨some ⟨w.heap.size, 0, none⟩, 0, n, by omega, ?_, ?_, ?_, by simp [blkOf]; omega, by simp [blkOf]; omega, ?_⟩
    · have := Blk.new (w2.alloc (.cells #[.slice (some ⟨w.heap.size, 0, none⟩) 0 n] 84)) 3 #[.int .i64 0]
      rw [World.size_alloc, hbO, hw3] at this
      exact this
    · have := (Blk.new w2 84 #[.slice (some ⟨w.heap.size, 0, none⟩) 0 n]).alloc (.cells #[.int .i64 0] 3)
      rw [hbO, hw3] at this
      exact this
    · rw [← hw3]; exact (o2.alloc _).alloc _
    · rw [← hw3]; exact (hb2.alloc hb2.size _).alloc (by have := hb2.size; simp; omega) _
  rw [hbO, hw3]
  go_step3
  go_wp2_with fail
  clear hw3 hbO o2 hg2 hb2 hmf
  have hz0 : w.heap.size ≤ bO := by omega
  go_loopw [15] (fun iv wr => ∃ (j run most : Nat) (D : List Nat), iv = .int .i64 j ∧ j ≤ n ∧ most + run ≤ j ∧ FlushP w (bO + 1) bO w.heap.size most D run wr ∧ D ++ packZ (r.drop j) run = packZ r 0) (fun iv _ => n - (intOf iv).toNat)
  case atStart => exact ⟨0, 0, 0, [], rfl, by omega, by omega, F0, rfl⟩
  case round =>
    clear F0
    obtain ⟨j, run, most, D, rfl, hj, hmr, F, hD⟩ := hrel
    obtain ⟨X, k, ck, hkm, bR, bOx, oX, hX1, hX2, HB⟩ := F
    obtain ⟨cR, fR, lR⟩ := blk1 bR
    obtain ⟨cO, fO, lO⟩ := blk1 bOx
    have HD := Lib.hid hD
    clear hD
    by_cases hlt : j < n
    · have hjr : j < r.length := by rw [HRL.out]; exact hlt
      obtain ⟨x, hx⟩ : ∃ x, r[j] = x := ⟨_, rfl⟩
      have hx255 : x ≤ 255 := by rw [← hx]; exact HR.out _ (List.getElem_mem _)
      obtain ⟨b, o, rfl, hbb, hcc⟩ := (h.below HB).at_ (by omega)
      have cx : wr.cell? ⟨b, o + j, none⟩ = some (.int .i64 (x : Nat)) := by
        have hjn : j < (nt r).length := by rw [nt_len]; exact hjr
        have h2 := nt_at r j x (by rw [List.getElem?_eq_getElem hjr, hx])
        obtain ⟨_, h3⟩ := List.getElem?_eq_some_iff.1 h2
        rw [hcc j hjn, h3]
      have hjI : (j : Int) < (n : Int) := by omega
      have hj0 : (0 : Int) ≤ (j : Int) := by omega
      have hj1 : IntKind.i64.wrap ((j : Int) + 1) = (j : Int) + 1 := w64s (by omega) (by omega)
      have hx0 : ¬ (x : Int) < 0 := by omega
      have hxb : ¬ (255 : Int) < (x : Int) := by omega
      clear hcc
      cases x with
      | zero =>
        have HS := Lib.hid (pack_zero r j run hjr hx)
        have hrw : IntKind.i64.wrap ((run : Int) + 1) = (run : Int) + 1 := w64s (by omega) (by omega)
        clear hx hjr
        go_wp2_with fail
        go_roundw
        case rel => exact ⟨j + 1, run + 1, most, D, by go_num, by omega, by omega, ⟨X, k, ck, hkm, blk_eq (bR.set 0 _) (by simp), bOx.far (p := ⟨bO + 1, 0, none⟩) (by dsimp only; omega) _, oX.far (p := ⟨bO + 1, 0, none⟩) hX1 _, hX1, hX2, HB.setCell (p := ⟨bO + 1, 0, none⟩) (by dsimp only; omega) _⟩, by rw [← HS.out]; exact HD.out⟩
        case measure => simp [intOf]; omega
      | succ y =>
        have HS := Lib.hid (pack_one r j run y hjr hx)
        have hne : ¬ (y : Int) + 1 = 0 := by omega
        have hyw : IntKind.i64.wrap ((y : Int) + 1 + 1) = (y : Int) + 1 + 1 := w64s (by omega) (by omega)
        have C := flush_any w (bO + 1) bO w.heap.size run k ck X D wr HB (Nat.le_refl _) (by omega) (by omega) (by omega) bR bOx oX hX1 hX2 HB.size (by omega)
        clear hx hjr cR fR lR cO fO lO bR bOx oX hX1 hX2 HB
        go_wp2_with fail
        refine C.mono ?_
        clear C
        rintro e w5 ⟨rfl, ⟨Y, m, cm, hm, bR, bOx, oX, hX1, hX2, HB⟩, hz5⟩
        obtain ⟨cO, fO, lO⟩ := blk1 bOx
        go_wp2_with (at_builtin; refine wp_append El_int rfl rfl rfl (oX.alloc _) rfl (Rd.of_blk (m := 1) (cs := [.int .i64 ((y : Int) + 1 + 1)]) (Blk.new w5 _ _) rfl) (by simp [Value.oneCell']) (by unfold maxLen; omega) (by omega) (by have := HB.size; simp; omega) ?_; intro A4 c4 w4 o4 hg4 hat4; have O4 := (bOx.alloc (.cells #[.int .i64 ((y : Int) + 1 + 1)] 3)).grown hg4 (fun e => hX2 e.symm); obtain ⟨cO4, fO4, lO4⟩ := blk1 O4)
        go_roundw
        case rel =>
          have lR := bR.lt
          have hYO : blkOf A4 ≠ some bO := by
            rcases hat4 with e | e
            · rw [e]; exact hX2
            · rw [e]; intro e2; simp at e2; omega
          have hYR : blkOf A4 ≠ some (bO + 1) := by
            rcases hat4 with e | e
            · rw [e]; exact hX1
            · rw [e]; intro e2; simp at e2; omega
          have R4 := (bR.alloc (.cells #[.int .i64 ((y : Int) + 1 + 1)] 3)).grown hg4 (fun e => hX1 e.symm)
          have B4 : Below w.heap.size w w4 := (HB.alloc HB.size _).grown hg4 (by have := HB.size; simp; omega) (fun j hj => by have := oX.blk j hj; omega)
          refine ⟨j + 1, 0, k + run + 1, D ++ syZ (run + 1) ++ [y + 2], by go_num, by omega, by omega, ⟨A4, m + 1, c4, by omega, R4.far (p := ⟨bO, 0, none⟩) (by dsimp only; omega) _, blk_eq (O4.set 0 _) (by simp), Own.far (p := ⟨bO, 0, none⟩) ?_ hYO _, hYR, hYO, B4.setCell (p := ⟨bO, 0, none⟩) (by dsimp only; omega) _⟩, ?_⟩
          · have e : nt (D ++ syZ (run + 1) ++ [y + 2]) = nt (D ++ syZ (run + 1)) ++ [.int .i64 ((y : Int) + 1 + 1)] := by
              simp [nt, ints]; omega
            rw [e]; exact o4
          · rw [← HD.out, HS.out]; simp
        case measure => simp [intOf]; omega
    · have hI : ¬ (j : Int) < (n : Int) := by omega
      have HE : Hid (D ++ syZ (run + 1) = packZ r 0) := Lib.hid (by
        have := HD.out
        rw [List.drop_eq_nil_of_le (by rw [HRL.out]; omega), packZ] at this
        exact this)
      have C := flush_any w (bO + 1) bO w.heap.size run k ck X D wr HB (Nat.le_refl _) (by omega) (by omega) (by omega) bR bOx oX hX1 hX2 HB.size (by omega)
      clear cR fR lR cO fO lO bR bOx oX hX1 hX2 HB
      go_wp2_with fail
      refine C.mono ?_
      clear C
      rintro e w5 ⟨rfl, ⟨Y, m, cm, hm, bR, bOx, oX, hX1, hX2, HB⟩, hz5⟩
      obtain ⟨cO, fO, lO⟩ := blk1 bOx
      go_wp2_with fail
      try rw [Exit.noGoto_ret]
      go_ret2
      exact ⟨Y, m, cm, rfl, by omega, by rw [← HE.out]; exact oX.rd, HB⟩
end ZruW
end Go.Proofs.YtnpncpoiiikafaaGreat

namespace Go.Proofs.YtnpncpoiiikafaaGreat
set_option linter.unusedVariables false
set_option linter.unusedSimpArgs false
set_option linter.unnecessarySimpa false
open Go.RowKit
namespace SqW
open SufW (nt nt_len Sa letters bwtL w64s bwt_len prim_in)
open FrontW (runR ranks_any runR_len runR_ok)
open HufW (encV encode_any)

theorem hufB_le (r : List Int) (h : r.length ≤ 20000) (hb : r.any HufW.badS = false) : (HufW.hufB r).length ≤ 750000 := by
  have hk := HufW.bL_chk r (by omega)
  have h1 := TabW.tabB_len hk
  have h2 := LenW.symsB_len (HufW.bL r) hk r (HufW.bL_ok r (by omega) hb)
  unfold HufW.hufB
  rw [List.length_append]
  omega
theorem nt_natL (l : List Int) (h : ∀ x ∈ l, 0 ≤ x) : nt (natL l) = ints l := by
  show ints (intL (natL l)) = ints l
  rw [intL_nat l h]
set_option maxRecDepth 100000 in
set_option maxHeartbeats 4000000 in
theorem symbols_any (s : List UInt8) (w : World) (hs : s.length ≤ 20000) :
    Calls Tryz.prog 41 #[str s] w fun e w' => ∃ (A : List Nat) (pr : Nat) (X : Option Addr) (k c : Nat), e = .returned (.tuple #[.slice X k c, .int .i64 (pr : Nat), .int .i64 0]) ∧ Sa (letters s) A ∧ A[pr]? = some 0 ∧ Rd w' w'.heap.size 1 X k (ints (symsOf s A)) ∧ Below w.heap.size w w' := by
  go_enter Tryz.func41, Tryz.ntmps41
  go_wp2_with fail
  refine (BwW.forward_any s w hs).mono ?_
  rintro e w1 ⟨A, pr, rfl, sa, hpr, hb1⟩
  have hbl := bwt_len s A sa
  have HSA := Lib.hid sa
  have HPR := Lib.hid hpr
  have HOK := Lib.hid (runR_in (bwtL s A))
  obtain ⟨L, hL⟩ : ∃ L, bwtL s A = L := ⟨_, rfl⟩
  have HSY := Lib.hid (show ints (symsOf s A) = nt (ZruW.packZ (natL (runR L).2) 0) by rw [← hL]; rfl)
  rw [hL] at hbl HOK
  rw [hL]
  have hLl : L.length ≤ 20000 := by omega
  clear sa hpr hbl hL
  have C := ranks_any L w1 (by omega)
  go_wp2_with fail
  refine C.mono ?_
  clear C
  rintro e w2 ⟨X, c, rfl, o2, hb2⟩
  have r2 : Rd w2 w2.heap.size 1 X L.length (nt (natL (runR L).2)) := by rw [nt_natL _ (fun x hx => (HOK.out x hx).1)]; exact o2.rd
  have C := ZruW.pack_any X L.length c (natL (runR L).2) w2 r2 (by omega) (fun x hx => by
    simp only [natL, List.mem_map] at hx
    obtain ⟨y, hy, rfl⟩ := hx
    have := HOK.out y hy
    omega)
  have HB2 := hb1.trans (hb2.mono hb1.size)
  clear r2 o2 hb2 hb1
  go_wp2_with fail
  refine C.mono ?_
  clear C
  rintro e w3 ⟨Y, k, c2, rfl, hk, r3, hb3⟩
  have HB3 := HB2.trans (hb3.mono HB2.size)
  go_wp2_with fail
  go_ret3
  exact ⟨A, pr, Y, k, c2, rfl, HSA.out, HPR.out, by rw [HSY.out]; exact r3, HB3⟩
set_option maxRecDepth 100000 in
set_option maxHeartbeats 4000000 in
theorem pack_any (s : List UInt8) (w : World) (hs : s.length ≤ 20000) :
    Calls Tryz.prog 11 #[str s] w fun e w' => ∃ (A : List Nat) (pr : Nat), e = .returned (.tuple #[str (packB s A pr), .int .i64 0]) ∧ Sa (letters s) A ∧ A[pr]? = some 0 ∧ Below w.heap.size w w' := by
  go_enter Tryz.func11, Tryz.ntmps11
  go_wp2_with fail
  refine (symbols_any s w hs).mono ?_
  rintro e w1 ⟨A, pr, X, k, c, rfl, sa, hpr, r1, hb1⟩
  have hsl := syms_len s A sa
  have hkl : (symsOf s A).length = k := rd_len r1
  obtain ⟨hp1, _, _⟩ := prim_in s A sa pr hpr
  have HSI := Lib.hid (syms_in s A)
  have HEN := Lib.hid (enc_syms s A sa hs)
  have HPB := Lib.hid (show packB s A pr = lput [(s.length : Int), (pr : Int), (k : Int)] ++ textB (HufW.hufB (symsOf s A)) by rw [← hkl]; rfl)
  have HSA := Lib.hid sa
  have HPR := Lib.hid hpr
  obtain ⟨Y, hY⟩ : ∃ Y, symsOf s A = Y := ⟨_, rfl⟩
  rw [hY] at HSI HEN HPB r1 hsl hkl
  have hk2 : k ≤ 20000 := by omega
  clear sa hpr hkl hsl hY
  obtain ⟨l3, hl3⟩ : ∃ l3, [(s.length : Int), (pr : Int), (k : Int)] = l3 := ⟨_, rfl⟩
  have hlen : l3.length = 3 := by rw [← hl3]; rfl
  have hIn : ∀ j (h : j < l3.length), ∃ x : Nat, l3[j] = (x : Int) ∧ x ≤ 20000 := by
    subst hl3
    intro j h
    match j, h with
    | 0, _ => exact ⟨s.length, rfl, hs⟩
    | 1, _ => exact ⟨pr, rfl, by omega⟩
    | 2, _ => exact ⟨k, rfl, hk2⟩
  have hbs : w1.alloc (.cells #[.int .i64 (s.length : Int), .int .i64 (pr : Int), .int .i64 (k : Int)] 3) = w1.alloc (.cells (ints l3).toArray 3) := by rw [← hl3]; rfl
  rw [hl3] at HPB
  have HBS := Lib.hid hbs
  have HLE := Lib.hid hlen
  have HIN := Lib.hid hIn
  clear hbs hlen hIn hl3
  have rN : Rd (w1.alloc (.cells (ints l3).toArray 3)) (w1.heap.size + 1) 1 (some ⟨w1.heap.size, 0, none⟩) 3 (ints l3) := rd_new rfl (by rw [ints_len, HLE.out])
  have HB1 : Below w.heap.size w (w1.alloc (.cells (ints l3).toArray 3)) := hb1.alloc hb1.size _
  have hzz : w1.heap.size + 1 ≤ (w1.alloc (.cells (ints l3).toArray 3)).heap.size := by simp
  have r1' := (r1.below ((Below.refl _ _).alloc (Nat.le_refl _) (.cells (ints l3).toArray 3))).more (show w1.heap.size ≤ w1.heap.size + 1 by omega)
  go_wp2_with fail
  rw [HBS.out]
  generalize w1.alloc (.cells (ints l3).toArray 3) = w2 at *
  have hz1 : w.heap.size ≤ w1.heap.size + 1 := by have := hb1.size; omega
  go_loopw [7, 29] (fun v7 iv wr => ∃ j : Nat, iv = .int .i64 j ∧ j ≤ 3 ∧ v7 = str (lput (l3.take j)) ∧ (lput (l3.take j)).length ≤ 9 * j ∧ Below (w1.heap.size + 1) w2 wr) (fun _ iv _ => 3 - (intOf iv).toNat)
  case atStart => exact ⟨0, rfl, by omega, rfl, by simp [lput], Below.refl _ _⟩
  case round =>
    obtain ⟨j, rfl, hj, rfl, hjl, HB⟩ := hrel
    by_cases hlt : j < 3
    · have hjl3 : j < l3.length := by rw [HLE.out]; exact hlt
      obtain ⟨x, hx, hxb⟩ := HIN.out j hjl3
      have HS := Lib.hid (lput_snoc l3 j hjl3)
      rw [hx, Int.toNat_natCast] at HS
      have cx : wr.cell? ⟨w1.heap.size, j, none⟩ = some (.int .i64 (x : Nat)) := by
        obtain ⟨b, o, e, hbb, hcc⟩ := (rN.below HB).at_ (by omega)
        simp only [Option.some.injEq, Addr.mk.injEq] at e
        obtain ⟨rfl, rfl, _⟩ := e
        have := hcc j (by rw [ints_len]; exact hjl3)
        simp only [Nat.zero_add] at this
        rw [this]
        simp [ints, hx]
      have hjI : (j : Int) < 3 := by omega
      have hj0 : (0 : Int) ≤ (j : Int) := by omega
      have hj1 : IntKind.i64.wrap ((j : Int) + 1) = (j : Int) + 1 := w64s (by omega) (by omega)
      have hvl := vlen_le x
      have hvb := vbytes_len x
      have hvl2 : (vbytes x).length ≤ 9 := by omega
      have hl27 : (lput (l3.take j)).length ≤ 27 := by omega
      have C := VarW.put_yes x wr (by omega)
      clear hvb hvl hx
      go_wp2_with fail
      refine C.mono ?_
      clear C
      rintro e w5 ⟨rfl, hb5⟩
      have HB5 := HB.trans (hb5.mono (Nat.le_trans hzz HB.size))
      go_wp2_with fail
      go_roundw
      case rel => exact ⟨j + 1, by go_num, by omega, by rw [HS.out]; exact congrArg Value.string (str_cat _ _), by rw [HS.out, List.length_append]; omega, HB5⟩
      case measure => simp [intOf]; omega
    · have hj3 : j = 3 := by omega
      have HT := Lib.hid (show l3.take j = l3 by rw [List.take_of_length_le (by rw [HLE.out]; omega)])
      have hl27 : (lput l3).length ≤ 27 := by have := hjl; rw [HT.out] at this; omega
      have hYl : Y.length = k := rd_len r1
      have hbl := hufB_le Y (by omega) (by rw [List.any_eq_false]; intro x hx; have := HSI.out x hx; simp [HufW.badS]; omega)
      have htl : (textB (HufW.hufB Y)).length ≤ 100000 := by rw [textB_len]; omega
      have HB2 := HB1.trans (HB.mono hz1)
      have C := encode_any X k c Y wr ((r1'.below HB).more (Nat.le_trans hzz HB.size)) hk2 (fun x hx => by have := HSI.out x hx; unfold I64; omega) _ HEN.out
      dsimp only at C
      clear hYl hbl HEN HSI hj3 rN r1 r1' HB1 HB
      go_wp2_with fail
      refine C.mono ?_
      clear C
      rintro e w5 ⟨rfl, hb5⟩
      have HB5 := HB2.trans (hb5.mono HB2.size)
      rw [HT.out]
      go_wp2_with fail
      go_ret2
      exact ⟨A, pr, by rw [HPB.out]; rfl, HSA.out, HPR.out, HB5⟩
end SqW
end Go.Proofs.YtnpncpoiiikafaaGreat

namespace Go.Proofs.YtnpncpoiiikafaaGreat
set_option linter.unusedVariables false
set_option linter.unusedSimpArgs false
set_option linter.unnecessarySimpa false
namespace SkpW
theorem row_chain (p : Rc) (l : List Rc) (h : rowFrom (some p) l = 0) : ∀ i (hi : i < l.length), l[i].1 = p.1 + 1 + i ∧ p.2.1 ≤ l[i].2.1 ∧ ∀ j (hj : j < l.length), i ≤ j → l[i].2.1 ≤ l[j].2.1 := by
  induction l generalizing p with
  | nil => intro i hi; simp at hi
  | cons r l ih =>
    unfold rowFrom at h
    by_cases ho : okR r = true
    · rw [if_pos ho] at h
      dsimp only at h
      by_cases hx : nextB p r = true
      · rw [if_pos hx] at h
        have IH := ih r h
        unfold nextB at hx
        simp only [Bool.and_eq_true, decide_eq_true_eq] at hx
        intro i hi
        cases i with
        | zero =>
          refine ⟨by simp only [List.getElem_cons_zero]; omega, by simpa using hx.2, fun j hj _ => ?_⟩
          cases j with
          | zero => simp
          | succ j =>
            have := (IH j (by simpa using hj)).2.1
            simpa using this
        | succ i =>
          have hi' : i < l.length := by simpa using hi
          obtain ⟨h1, h2, h3⟩ := IH i hi'
          refine ⟨by simp only [List.getElem_cons_succ]; push_cast; omega, by simp only [List.getElem_cons_succ]; omega, fun j hj hij => ?_⟩
          cases j with
          | zero => omega
          | succ j =>
            have := h3 j (by simpa using hj) (by omega)
            simpa using this
      · rw [if_neg hx] at h
        omega
    · rw [if_neg ho] at h
      omega
/-- In a row numbers go on by one, times don't fall. -/
theorem row_span {l : List Rc} (h : rowN l = 0) : ∀ i (hi : i < l.length), l[i].1 = (l[0]'(by omega)).1 + i ∧ ∀ j (hj : j < l.length), i ≤ j → l[i].2.1 ≤ l[j].2.1 := by
  cases l with
  | nil => intro i hi; simp at hi
  | cons r l =>
    unfold rowN rowFrom at h
    by_cases ho : okR r = true
    · rw [if_pos ho] at h
      dsimp only at h
      have IH := row_chain r l h
      intro i hi
      cases i with
      | zero =>
        refine ⟨by simp, fun j hj _ => ?_⟩
        cases j with
        | zero => simp
        | succ j =>
          have := (IH j (by simpa using hj)).2.1
          simpa using this
      | succ i =>
        obtain ⟨h1, h2, h3⟩ := IH i (by simpa using hi)
        refine ⟨by simp only [List.getElem_cons_succ, List.getElem_cons_zero]; push_cast; omega, fun j hj hij => ?_⟩
        cases j with
        | zero => omega
        | succ j =>
          have := h3 j (by simpa using hj) (by omega)
          simpa using this
    · rw [if_neg ho] at h
      omega
end SkpW
end Go.Proofs.YtnpncpoiiikafaaGreat

namespace Go.Proofs.YtnpncpoiiikafaaGreat
set_option linter.unusedVariables false
set_option linter.unusedSimpArgs false
set_option linter.unnecessarySimpa false
open Go.RowKit
namespace RecW

set_option maxHeartbeats 1000000 in
theorem check_any (r : Rc) (v : Int) (hv : chkR r = v) (w : World) :
    Calls Tryz.prog 159 #[recv r] w fun e w' => e = .returned (.int .i64 v) ∧ Below w.heap.size w w' := by
  obtain ⟨a, b, d⟩ := r
  have HV := Lib.hid hv
  clear hv
  go_enter Tryz.func159, Tryz.ntmps159
  go_wp2
  all_goals
    go_ret
    refine ⟨ret_int ?_, (by first | exact Below.refl _ _ | (repeat (first | exact Below.refl _ _ | assumption | refine Below.drew ?_ | refine Below.drewN_ ?_ _ | refine Below.alloc ?_ (by first | exact Nat.le_refl _ | (simp; done) | (simp; omega) | omega) _ | refine Below.setCell ?_ (by first | exact Nat.le_refl _ | (simp; done) | (simp; omega) | omega) _ | (refine Below.trans ?_ (Below.mono (by assumption) (by first | exact Nat.le_refl _ | (simp; done) | (simp; omega) | omega))))))⟩
    rw [← HV.out]
    simp only [chkR, okR]
    simp [*]
    try omega

def putRN (r : Rc) : List UInt8 := if okR r then putR r else []
end RecW
end Go.Proofs.YtnpncpoiiikafaaGreat
