/- Walks over bits' reference: Pack, Unpack. -/
import Derived.Test.YtnghmcadhjneeaaBitB
import Derived.Test.YtnghmcadhjneeaaReg2
namespace Go.Proofs.Ytnghmcadhjneeaa
set_option linter.unusedVariables false
set_option linter.unusedSimpArgs false
set_option linter.unnecessarySimpa false
open Go.RowKit
namespace BitW

theorem fieldsB_lt (l : List (Int × Int)) : ∀ d ∈ fieldsB l, d < 2 := by
  intro d h
  obtain ⟨f, _, hd⟩ := List.mem_flatMap.1 h
  exact dg_lt _ _ d hd
set_option maxRecDepth 100000 in
set_option maxHeartbeats 4000000 in
theorem refPack_any (A : Option Addr) (n c : Nat) (l : List (Int × Int)) (w : World) (h : Rd w w.heap.size 2 A n (fcells l)) (h64 : ∀ f ∈ l, I64 f.1 ∧ I64 f.2) (hn : n ≤ 1000) (x : List UInt8 × Int) (hx : packV l = x) :
    Calls Try.prog 18 #[.slice A n c] w fun e w' => e = .returned (.tuple #[str x.1, .int .i64 x.2]) ∧ Below w.heap.size w w' := by
  have hl := rd_flen h
  have hl1 : l.length ≤ n := by omega
  have hl2 : n ≤ l.length := by omega
  have HX := Lib.hid hx
  have H64 := Lib.hid h64
  clear hl hx h64
  go_enter Try.func18, Try.ntmps18
  go_wp2_with fail
  go_loopw [4, 5] (fun out i wr => ∃ (k n2 c2 : Nat) (A2 : Option Addr), i = .int .i64 k ∧ out = .slice A2 n2 c2 ∧ k ≤ n ∧ n2 ≤ 32 * k ∧ (∀ f ∈ l.take k, fitsB f.1 f.2 = true) ∧ Own wr w.heap.size 3 1 A2 n2 c2 (bc (fieldsB (l.take k))) ∧ Below w.heap.size w wr) (fun _ i _ => n - (intOf i).toNat)
  case atStart => exact ⟨0, 0, 0, none, rfl, rfl, by omega, by omega, by simp, Own.nil _ _ _ _, (by first | exact Below.refl _ _ | (repeat (first | exact Below.refl _ _ | assumption | refine Below.drew ?_ | refine Below.drewN_ ?_ _ | refine Below.alloc ?_ (by first | exact Nat.le_refl _ | (simp; done) | (simp; omega) | omega) _ | refine Below.setCell ?_ (by first | exact Nat.le_refl _ | (simp; done) | (simp; omega) | omega) _ | (refine Below.trans ?_ (Below.mono (by assumption) (by first | exact Nat.le_refl _ | (simp; done) | (simp; omega) | omega))))))⟩
  case round =>
    obtain ⟨k, n2, c2, A2, rfl, rfl, hk, hn2, hall, o2, hbw⟩ := hrel
    have HA := Lib.hid hall
    have hsz := hbw.size
    clear hall
    by_cases hlt : k < n
    · have hkl : k < l.length := by omega
      obtain ⟨b, o, rfl, hb, hc⟩ := rd_fcells (h.below hbw) (by omega)
      obtain ⟨d0, d1⟩ := hc k hkl
      have h6 := H64.out l[k] (List.getElem_mem hkl)
      have HS := Lib.hid (fieldsB_snoc l k hkl)
      have HN := Lib.hid (fun h => packV_no hkl h)
      have hT := Lib.hid (show l.take (k + 1) = l.take k ++ [l[k]] from List.take_succ_eq_append_getElem hkl)
      generalize hr : l[k] = r at *
      obtain ⟨x0, x1⟩ := r
      dsimp only at d0 d1 h6 HN
      have C := fun w => digits_any x0 x1 w h6.1
      have hki : (k : Int) < (n : Int) := by omega
      have hk0 : (0 : Int) ≤ (k : Int) := by omega
      have hbr : b < wr.heap.size := by omega
      clear hc hr h6
      have HB : Below wr.heap.size wr wr := Below.refl _ _
      have KEEP := Lib.hid (fun (w' : World) (h : Below wr.heap.size wr w') => show w'.cell? ⟨b, o + k * 2, none⟩ = some (.int .i64 x0) ∧ w'.cell? ⟨b, o + k * 2 + 1, none⟩ = some (.int .i64 x1) from ⟨(h.cell (p := ⟨b, o + k * 2, none⟩) hbr).trans d0, (h.cell (p := ⟨b, o + k * 2 + 1, none⟩) hbr).trans d1⟩)
      go_wp2_with fail
      have zHB := HB.size
      refine wp_region_held_drew (S := (fun w' => w'.cell? ⟨b, o + k * 2, none⟩ = some (.int .i64 x0) ∧ w'.cell? ⟨b, o + k * 2 + 1, none⟩ = some (.int .i64 x1))) (by kernel_rfl) ?_ (fun hHeld => ?_)
      · replace HB := Below.drew HB; replace o2 := Own.drew o2; (try dsimp only); exact KEEP.out _ HB
      replace HB := Below.drew HB
      replace o2 := Own.drew o2
      have zHB := HB.size
      refine take_move 0 (Operand.tmp 0) rfl rfl (by first | exact .inl rfl | exact .inr rfl) rfl (by kernel_rfl) (by kernel_rfl) (by kernel_rfl) (fun _ _ _ h => h) (by assumption) ?_
      simp only [List.setIfInBounds_toArray, List.set_cons_zero, List.set_cons_succ]
      refine take_move 1 (Operand.tmp 5) rfl rfl (by first | exact .inl rfl | exact .inr rfl) rfl (by kernel_rfl) (by kernel_rfl) (by kernel_rfl) (fun _ _ _ h => h) (by assumption) ?_
      simp only [List.setIfInBounds_toArray, List.set_cons_zero, List.set_cons_succ]
      refine take_op (v := ?vu1x2) 2 (Op.indexAddr 32 (Operand.tmp 15) (Operand.tmp 16)) 0 rfl rfl rfl rfl rfl (by kernel_rfl) (by kernel_rfl) (by kernel_rfl) (fun _ _ _ h => h) ?yu1x2 (by assumption) ?ru1x2
      case yu1x2 => (intro w' hSw; (try dsimp only at hSw); go_simp; try (with_reducible rfl))
      simp only [List.setIfInBounds_toArray, List.set_cons_zero, List.set_cons_succ]
      refine take_op (v := ?vu1x3) 3 (Op.fieldAddr 49 (Operand.tmp 17) 0) 0 rfl rfl rfl rfl rfl (by kernel_rfl) (by kernel_rfl) (by kernel_rfl) (fun _ _ _ h => h) ?yu1x3 (by assumption) ?ru1x3
      case yu1x3 => (intro w' hSw; (try dsimp only at hSw); go_simp; try (with_reducible rfl))
      simp only [List.setIfInBounds_toArray, List.set_cons_zero, List.set_cons_succ]
      refine take_op (v := ?vu1x4) 4 (Op.load 3 (Operand.tmp 18)) 3 rfl rfl rfl rfl rfl (by kernel_rfl) (by kernel_rfl) (by kernel_rfl) (fun _ _ _ h => h) ?yu1x4 (by assumption) ?ru1x4
      case yu1x4 => (intro w' hSw; (try dsimp only at hSw); go_simp; try (with_reducible rfl))
      simp only [List.setIfInBounds_toArray, List.set_cons_zero, List.set_cons_succ]
      refine take_move 5 (Operand.tmp 0) rfl rfl (by first | exact .inl rfl | exact .inr rfl) rfl (by kernel_rfl) (by kernel_rfl) (by kernel_rfl) (fun _ _ _ h => h) (by assumption) ?_
      simp only [List.setIfInBounds_toArray, List.set_cons_zero, List.set_cons_succ]
      refine take_move 6 (Operand.tmp 5) rfl rfl (by first | exact .inl rfl | exact .inr rfl) rfl (by kernel_rfl) (by kernel_rfl) (by kernel_rfl) (fun _ _ _ h => h) (by assumption) ?_
      simp only [List.setIfInBounds_toArray, List.set_cons_zero, List.set_cons_succ]
      refine take_op (v := ?vu1x7) 7 (Op.indexAddr 32 (Operand.tmp 20) (Operand.tmp 21)) 0 rfl rfl rfl rfl rfl (by kernel_rfl) (by kernel_rfl) (by kernel_rfl) (fun _ _ _ h => h) ?yu1x7 (by assumption) ?ru1x7
      case yu1x7 => (intro w' hSw; (try dsimp only at hSw); go_simp; try (with_reducible rfl))
      simp only [List.setIfInBounds_toArray, List.set_cons_zero, List.set_cons_succ]
      refine take_op (v := ?vu1x8) 8 (Op.fieldAddr 49 (Operand.tmp 22) 1) 0 rfl rfl rfl rfl rfl (by kernel_rfl) (by kernel_rfl) (by kernel_rfl) (fun _ _ _ h => h) ?yu1x8 (by assumption) ?ru1x8
      case yu1x8 => (intro w' hSw; (try dsimp only at hSw); go_simp; try (with_reducible rfl))
      simp only [List.setIfInBounds_toArray, List.set_cons_zero, List.set_cons_succ]
      refine take_op (v := ?vu1x9) 9 (Op.load 3 (Operand.tmp 23)) 3 rfl rfl rfl rfl rfl (by kernel_rfl) (by kernel_rfl) (by kernel_rfl) (fun _ _ _ h => h) ?yu1x9 (by assumption) ?ru1x9
      case yu1x9 => (intro w' hSw; (try dsimp only at hSw); go_simp; try (with_reducible rfl))
      simp only [List.setIfInBounds_toArray, List.set_cons_zero, List.set_cons_succ]
      refine wpAnyH_ready (rs := [10]) (by kernel_rfl) (by simp) (AllReadyH.cons rfl (fun K10 hK10 => ?ku1x10) AllReadyH.nil)
      refine take_calls 10 24 [Operand.tmp 19, Operand.tmp 24] #[3, 3] rfl rfl (by kernel_rfl) (fun args w => run_enter Try.func24 (by kernel_rfl) rfl args w) ?_
      refine (C _).mono ?_
      rintro e w10 ⟨A3, k3, xs, rfl, hk3, o3, hxs, hb10⟩
      refine ⟨_, rfl, ?_⟩
      have z10 := hb10.size
      try simp only [World.size_drew] at z10
      replace HB := HB.trans (hb10.mono HB.size)
      have zHB10 := HB.size
      replace o2 := Own.below o2 hb10
      refine hK10.out _ _ ?su1x10 (fun hHeld => ?ru1x10)
      case su1x10 => ((try dsimp only); exact KEEP.out _ HB)
      try simp only [List.setIfInBounds_toArray, List.set_cons_zero, List.set_cons_succ]
      refine take_move 11 (Operand.tmp 25) rfl rfl (by first | exact .inl rfl | exact .inr rfl) rfl (by kernel_rfl) (by kernel_rfl) (by kernel_rfl) (fun _ _ _ h => h) (by assumption) ?_
      simp only [List.setIfInBounds_toArray, List.set_cons_zero, List.set_cons_succ]
      refine take_op (v := ?vu1x12) 12 (Op.extract (Operand.tmp 14) 0) 33 rfl rfl rfl rfl rfl (by kernel_rfl) (by kernel_rfl) (by kernel_rfl) (fun _ _ _ h => h) ?yu1x12 (by assumption) ?ru1x12
      case yu1x12 => (intro w' hSw; (try dsimp only at hSw); go_simp; try (with_reducible rfl))
      simp only [List.setIfInBounds_toArray, List.set_cons_zero, List.set_cons_succ]
      refine take_op (v := ?vu1x13) 13 (Op.extract (Operand.tmp 14) 1) 4 rfl rfl rfl rfl rfl (by kernel_rfl) (by kernel_rfl) (by kernel_rfl) (fun _ _ _ h => h) ?yu1x13 (by assumption) ?ru1x13
      case yu1x13 => (intro w' hSw; (try dsimp only at hSw); go_simp; try (with_reducible rfl))
      simp only [List.setIfInBounds_toArray, List.set_cons_zero, List.set_cons_succ]
      refine take_op (v := ?vu1x14) 14 (Op.assign (Operand.tmp 26)) 33 rfl rfl rfl rfl rfl (by kernel_rfl) (by kernel_rfl) (by kernel_rfl) (fun _ _ _ h => h) ?yu1x14 (by assumption) ?ru1x14
      case yu1x14 => (intro w' hSw; (try dsimp only at hSw); go_simp; try (with_reducible rfl))
      simp only [List.setIfInBounds_toArray, List.set_cons_zero, List.set_cons_succ]
      refine take_op (v := ?vu1x15) 15 (Op.assign (Operand.tmp 27)) 4 rfl rfl rfl rfl rfl (by kernel_rfl) (by kernel_rfl) (by kernel_rfl) (fun _ _ _ h => h) ?yu1x15 (by assumption) ?ru1x15
      case yu1x15 => (intro w' hSw; (try dsimp only at hSw); go_simp; try (with_reducible rfl))
      simp only [List.setIfInBounds_toArray, List.set_cons_zero, List.set_cons_succ]
      refine wpAnyH_done (by kernel_rfl) ?_ _
      have hbw2 := hbw.trans (HB.mono hsz)
      have zz := HB.size
      clear d0 d1 C KEEP hb10
      by_cases hf : fitsB x0 x1 = true
      · have hx3 := hxs hf
        subst hx3
        rw [hf]
        have HF := Lib.hid hf
        clear hxs hf
        go_wp2_with (at_builtin; with_reducible refine wp_append El_int2 rfl (s := .tmp 30) (x := .tmp 31) rfl rfl o2 rfl o3.rd (bc_one _) (by unfold maxLen; omega) (by omega) (by omega) ?_; intro A4 c4 w4 o4 hg4 hat4)
        have hb4 := below_grown hbw2 hg4 o2 (Nat.le_refl _)
        rw [← bc_app] at o4
        go_roundw
        case rel =>
          refine ⟨k + 1, n2 + k3, c4, A4, by go_num, rfl, by omega, by omega, ?_, by rw [HS.out]; exact o4, hb4⟩
          intro f hf'
          rw [hT.out, List.mem_append] at hf'
          rcases hf' with hf' | hf'
          · exact HA.out f hf'
          · simp only [List.mem_singleton] at hf'; subst hf'; exact HF.out
        case measure => simp [intOf]; omega
      · have hf' : fitsB x0 x1 = false := by simpa using hf
        have hx := HX.out.symm.trans (HN.out hf')
        subst hx
        rw [hf']
        clear hf hf' hxs
        go_wp2_with fail
        go_ret2
        exact ⟨rfl, hbw2⟩
    · have hz' := Lib.hid (show l.take k = l from List.take_of_length_le (by omega))
      have hall := HA.out
      rw [hz'.out] at hall o2
      have hx := HX.out.symm.trans (packV_yes hall)
      subst hx
      have C := refText_any A2 n2 c2 _ wr o2.rd (by omega) (fieldsB_lt l)
      clear hall
      go_wp2_with fail
      refine C.mono ?_
      clear C
      rintro e w2 ⟨rfl, hb2⟩
      go_wp2_with fail
      go_ret2
      exact ⟨rfl, hbw.trans (hb2.mono hsz)⟩

theorem getB_okl {l : List Nat} {p : Nat} {x : Int} (h : (getB l p x).2 = 0) : 0 ≤ x ∧ x ≤ 32 ∧ p + x.toNat ≤ l.length := by
  unfold getB at h
  split at h
  · cases h
  · split at h
    · cases h
    · omega
set_option maxRecDepth 100000 in
set_option maxHeartbeats 4000000 in
theorem refUnpack_any (s : List UInt8) (A : Option Addr) (n c : Nat) (ws : List Int) (w : World) (h : Rd w w.heap.size 1 A n (ints ws)) (hs : s.length ≤ 100000) (hn : n ≤ 1000000) (x : List Int × Int × Int) (hx : unpackF (bitsB s) ws 0 = x) :
    Calls Try.prog 20 #[str s, .slice A n c] w fun e w' => ∃ A2 n2 c2, e = .returned (.tuple #[.slice A2 n2 c2, .int .i64 x.2.1, .int .i64 x.2.2]) ∧ n2 ≤ c2 ∧ Rd w' w'.heap.size 1 A2 n2 (ints x.1) ∧ Below w.heap.size w w' := by
  have hl := rd_len h
  have hl1 : ws.length ≤ n := by omega
  have hl2 : n ≤ ws.length := by omega
  have hbl := bitsB_len s
  have H2 := Lib.hid (bitsB_lt s)
  have HX := Lib.hid (show x = ([] ++ (unpackF (bitsB s) (ws.drop 0) ((0 : Nat) : Int)).1, (unpackF (bitsB s) (ws.drop 0) ((0 : Nat) : Int)).2) by rw [← hx]; rfl)
  have CB := refBits_any s w hs
  generalize bitsB s = bl at *
  have hbl2 : bl.length ≤ 800000 := by omega
  clear hx hl hbl
  go_enter Try.func20, Try.ntmps20
  go_wp2_with fail
  refine CB.mono ?_
  clear CB
  rintro e w1 ⟨A1, n1, c1, rfl, hc1, r1, hb1⟩
  have hn1 := rd_bclen r1
  have hn1a : n1 ≤ bl.length := by omega
  have hn1b : bl.length ≤ n1 := by omega
  clear hn1
  go_wp2_with fail
  go_loopw [8, 9, 10] (fun out at_ i wr => ∃ (j q : Nat) (acc : List Int) (A2 : Option Addr) (c2 : Nat), i = .int .i64 j ∧ at_ = .int .i64 q ∧ out = .slice A2 j c2 ∧ j ≤ n ∧ q ≤ n1 ∧ x = (acc ++ (unpackF bl (ws.drop j) (q : Nat)).1, (unpackF bl (ws.drop j) (q : Nat)).2) ∧
    Own wr w1.heap.size 3 1 A2 j c2 (ints acc) ∧ Below w1.heap.size w1 wr) (fun _ _ i _ => n - (intOf i).toNat)
  case atStart => exact ⟨0, 0, [], none, 0, rfl, rfl, rfl, by omega, by omega, HX.out, Own.nil _ _ _ _, Below.refl _ _⟩
  case round =>
    obtain ⟨j, q, acc, A2, c2, rfl, rfl, rfl, hj, hq, hr, o2, hbw⟩ := hrel
    have HR := Lib.hid hr
    clear hr
    have hsz := hbw.size
    have hbw0 : Below w.heap.size w wr := hb1.trans (hbw.mono hb1.size)
    by_cases hlt : j < n
    · have hjl : j < ws.length := by omega
      obtain ⟨b, o, rfl, hb, hc⟩ := rd_ints (h.below hbw0) (by omega)
      have d0 := hc j hjl
      have HY := Lib.hid (fun h => unpackF_yes (l := bl) (p := (q : Nat)) hjl h)
      have HN := Lib.hid (fun h => unpackF_no (l := bl) (p := (q : Nat)) hjl h)
      obtain ⟨xw, hxw⟩ : ∃ y, ws[j] = y := ⟨_, rfl⟩
      rw [hxw] at d0 HY HN
      obtain ⟨v, hv⟩ : ∃ v, getB bl (q : Nat) xw = v := ⟨_, rfl⟩
      have C := refGet_any A1 n1 c1 bl q xw wr ((r1.below hbw).more hsz) (by omega) H2.out hq v hv
      have hok := @getB_okl bl q xw
      rw [hv] at HY HN hok
      have HOK := Lib.hid hok
      clear hc hxw hok hv
      obtain ⟨v1, v2⟩ := v
      have hbb : b < wr.heap.size := by have := hbw0.size; omega
      go_wp2_with fail
      refine C.mono ?_
      clear C
      rintro e w3 ⟨rfl, rfl⟩
      by_cases he : v2 = 0
      · subst he
        obtain ⟨k1, k2, k3⟩ := HOK.out rfl
        have hq2 : ((q + xw.toNat : Nat) : Int) = (q : Int) + xw := by omega
        have HXX := Lib.hid (show x = (acc ++ [v1] ++ (unpackF bl (ws.drop (j + 1)) ((q + xw.toNat : Nat) : Int)).1, (unpackF bl (ws.drop (j + 1)) ((q + xw.toNat : Nat) : Int)).2) by rw [HR.out, HY.out rfl, hq2]; simp)
        have HQ := Lib.hid hq2
        have hrn : Rd (wr.alloc (.cells #[.int .i64 v1] 3)) (wr.heap.size + 1) 1 (some ⟨wr.heap.size, 0, none⟩) 1 (ints [v1]) := rd_new (W0 := wr) (t := 3) (cs := ints [v1]) (size := 1) (m := 1) rfl rfl
        have hne : ∀ b, b < w1.heap.size → some b ≠ blkOf A2 := fun b hb e => by have := (o2.blk b e.symm).1; omega
        have hb1s := hb1.size
        clear hq2
        go_wp2_with (at_builtin; with_reducible refine wp_append El_int2 rfl (s := .tmp 36) (x := .tmp 38) rfl rfl (o2.alloc _) rfl hrn (ints_one _) (by unfold maxLen; omega) (by omega) (by simp; omega) ?_; intro A4 c4 w4 o4 hg4 hat4; clear hrn; have hbX := below_grown (hbw.alloc hsz (.cells #[.int .i64 v1] 3)) hg4 (o2.alloc _) (Nat.le_refl _); have d9 := (Below.cell (hb1.trans (hbX.mono hb1.size)) (p := ⟨b, o + j, none⟩) hb).trans ((Below.cell hbw0 (p := ⟨b, o + j, none⟩) hb).symm.trans d0))
        have e1 : ints acc ++ ints [v1] = ints (acc ++ [v1]) := by simp [ints]
        rw [e1] at o4
        go_roundw
        case rel => exact ⟨j + 1, q + xw.toNat, acc ++ [v1], A4, c4, by go_num, by rw [HQ.out], rfl, by omega, by omega, HXX.out, o4, hbX⟩
        case measure => simp [intOf]; omega
      · have heI : (v2 != 0) = true := by simp [he]
        have hx : x = (acc, (q : Int), v2) := by rw [HR.out, HN.out he, List.append_nil]
        subst hx
        clear he
        go_wp2_with fail
        go_ret3
        exact ⟨A2, j, c2, rfl, o2.cap, o2.rd, hbw0⟩
    · have hx : x = (acc, (q : Int), 0) := by rw [HR.out, List.drop_of_length_le (by omega), unpackF, List.append_nil]
      subst hx
      go_wp2_with fail
      go_ret3
      exact ⟨A2, j, c2, rfl, o2.cap, o2.rd, hbw0⟩
end BitW
end Go.Proofs.Ytnghmcadhjneeaa
