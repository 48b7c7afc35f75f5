/- The walks of package tab: Put, Pack, Size. -/
import Derived.Test.YtedoeplhjmkllaaTabW
import Derived.Test.YtedoeplhjmkllaaCanZ
namespace Go.Proofs.Ytedoeplhjmkllaa
set_option linter.unusedVariables false
set_option linter.unusedSimpArgs false
set_option linter.unnecessarySimpa false
open Go.RowKit
namespace TabW
open LenW (okL okL_at chkL chk0 check_any fcells_at fcells_set wfr_pre)
open BitW (gam gamB Wr Wfr Fresh Puts Put_yes Gamma_yes text_any len_any)

theorem own_same {w w' : World} {base e size n c : Nat} {A : Option Addr} {xs : List Value} (h : Own w base e size A n c xs) (hk : ∀ k, blkOf A = some k → w'.heap[k]? = w.heap[k]?) : Own w' base e size A n c xs := by
  refine ⟨h.1, ?_⟩
  rcases h.2 with h2 | ⟨g, cap, cur, hv, hg, hb, r⟩
  · exact .inl h2
  · refine .inr ⟨g, cap, cur, hv, hg, ?_, r⟩
    simp only [Value.slice.injEq] at hv
    obtain ⟨rfl, _, rfl⟩ := hv
    rw [hk g rfl]
    exact hb
theorem wr_own {w : World} {base g : Nat} {ab : Option Nat} {l : List Nat} (h : Wr w base g ab l) : ∀ k, ab = some k → base ≤ k ∧ k < w.heap.size := by
  obtain ⟨⟨A, nb, c, bs, r, k', bG, o, hab, _⟩, _⟩ := h
  intro k hk
  rw [← hab] at hk
  exact o.blk k hk
theorem wr_lt {w : World} {base g : Nat} {ab : Option Nat} {l : List Nat} (h : Wr w base g ab l) : g < w.heap.size := by
  obtain ⟨⟨A, nb, c, bs, r, k', bG, o, hab, _⟩, _⟩ := h
  exact bG.lt
theorem good_fits {r : Int × Int} (h : goodR r) : BitW.Wr = BitW.Wr ∧ fitsB r.1 4 = true ∧ gamB r.2 = true ∧ I64 r.1 ∧ I64 r.2 := by
  obtain ⟨h1, h2, h3, h4⟩ := h
  refine ⟨rfl, ?_, ?_, by unfold I64; omega, by unfold I64; omega⟩
  · unfold fitsB
    simp
    omega
  · unfold gamB fitsB
    simp
    omega
theorem tput_nil (v : Value) (w : World) :
    Calls Try.prog 34 #[.pointer none, v] w fun e w' => e = .returned (.int .i64 1) ∧ w' = w := by
  go_enter Try.func34, Try.ntmps34
  go_wp2_with fail
  go_ret
  exact ⟨rfl, rfl⟩
theorem tput_no (gw : Nat) (A : Option Addr) (n c : Nat) (l : List Int) (w : World) (h : Rd w w.heap.size 1 A n (ints l)) (hn : n ≤ 1000000) (v : Int) (hk : chkL l = v) (hv : ¬ v = 0) :
    Calls Try.prog 34 #[.pointer (some ⟨gw, 0, none⟩), .slice A n c] w fun e w' => e = .returned (.int .i64 v) ∧ w' = w := by
  have C := check_any A n c l w h hn v hk
  have hvI : (v != 0) = true := by simp [hv]
  go_enter Try.func34, Try.ntmps34
  go_wp2_with fail
  refine C.mono ?_
  rintro e w1 ⟨rfl, rfl⟩
  go_wp2_with fail
  go_ret
  exact ⟨rfl, rfl⟩
set_option maxRecDepth 100000 in
set_option maxHeartbeats 4000000 in
theorem tput_yes (base gw : Nat) (ab : Option Nat) (L : List Nat) (A : Option Addr) (n c : Nat) (l : List Int) (w : World) (h : Rd w w.heap.size 1 A n (ints l)) (hn : n ≤ 1000000) (hk : chkL l = 0) (hW : Wr w base gw ab L) (hL : L.length ≤ 800000) (hbs : base ≤ w.heap.size) :
    Calls Try.prog 34 #[.pointer (some ⟨gw, 0, none⟩), .slice A n c] w fun e w' => e = .returned (.int .i64 0) ∧ ∃ ab', Puts w w' base gw ab (L ++ tabB l) ab' := by
  have C := check_any A n c l w h hn 0 hk
  have hl : l.length = n := rd_len h
  have h257 := (chk0 hk).1
  have C2 := runs_any A n c l w h (by omega)
  have hgood := rle_good hk
  have hrl := rle_len l
  go_enter Try.func34, Try.ntmps34
  go_wp2_with fail
  refine C.mono ?_
  clear C
  rintro e w1 ⟨rfl, rfl⟩
  go_wp2_with fail
  refine C2.mono ?_
  clear C2
  rintro e w2 ⟨A2, n2, c2, rfl, hn2, o2, hb2⟩
  have hW2 : Wr w2 base gw ab L := LenW.Wr.low hW hb2
  have hsz2 := hb2.size
  have hgw := wr_lt hW
  have hab := wr_own hW
  have hr2 : (rle l).length = n2 := by have := o2.len; rw [fcells_len] at this; omega
  have HTB := Lib.hid (show tabB l = runsB (rle l) from rfl)
  generalize rle l = R at *
  go_wp2_with fail
  go_loopw [18] (fun i wr => ∃ (k : Nat) (ab' : Option Nat), i = .int .i64 k ∧ k ≤ n2 ∧ Wr wr base gw ab' (L ++ runsB (R.take k)) ∧ Fresh w2 ab ab' ∧ Wfr w2 wr gw ab) (fun i _ => n2 - (intOf i).toNat)
  case atStart => exact ⟨0, ab, rfl, by omega, by simpa [runsB] using hW2, Fresh.refl _ _, Wfr.refl _ _ _⟩
  case round =>
    obtain ⟨k, ab', rfl, hkn, hWr, hfr, hwf⟩ := hrel
    clear hW2
    have hsz := hwf.size
    by_cases hlt : k < n2
    · have hkR : k < R.length := by omega
      have hgd := hgood R[k] (List.getElem_mem hkR)
      have HS := Lib.hid (runsB_snoc R k hkR)
      have hRl := runsB_len (R.take k) (fun r hr => hgood r (List.mem_of_mem_take hr))
      rw [List.length_take] at hRl
      have ow : Own wr w1.heap.size 98 2 A2 n2 c2 (fcells R) := own_same o2 (fun b hb => by
        obtain ⟨q1, q2⟩ := o2.blk b hb
        exact hwf.block b q2 (by omega) (fun e => by have := hab b e; omega))
      obtain ⟨b, o, rfl, hb, hc⟩ := rd_fcells ow.rd (by omega)
      obtain ⟨d0, d1⟩ := hc k hkR
      obtain ⟨_, hf1, hf2, h64a, h64b⟩ := good_fits hgd
      obtain ⟨⟨x, q⟩, hx⟩ : ∃ z, R[k] = z := ⟨_, rfl⟩
      rw [hx] at d0 d1 hf1 hf2 h64a h64b HS
      dsimp only at d0 d1 hf1 hf2 h64a h64b
      have hki : (k : Int) < (n2 : Int) := by omega
      have hk0 : (0 : Int) ≤ (k : Int) := by omega
      clear hc hx hgd
      have hB1 : Below wr.heap.size wr (wr.alloc (.cells #[.int .i64 x, .int .i64 q] 98)) := (Below.refl _ wr).alloc (Nat.le_refl _) _
      have hWa := LenW.Wr.low hWr hB1
      have bx := Blk.new wr 98 #[.int .i64 x, .int .i64 q]
      have bx' := bx
      obtain ⟨x0, x1, _, _, _⟩ := blk2 bx'
      have hwlt := wr_lt hWr
      have hwo := wr_own hWr
      have C := Put_yes base gw ab' _ x 4 _ hf1 h64a hWa (by rw [List.length_append]; omega) (by simp; omega)
      clear hf1 bx'
      go_wp2_with fail
      refine C.mono ?_
      clear C
      rintro e w3 ⟨rfl, ab3, hP3⟩
      have bx3 : Blk w3 wr.heap.size 98 #[.int .i64 x, .int .i64 q] := (hP3.frame.block wr.heap.size (by simp) (by omega) (fun e => by have := (hwo _ e).2; omega)).trans bx
      have hz3 := hP3.frame.size
      rw [World.size_alloc] at hz3
      clear x0 x1
      obtain ⟨x0, x1, _, _, _⟩ := blk2 bx3
      have C := Gamma_yes base gw ab3 _ q w3 hf2 h64b hP3.wr (by simp only [List.length_append, dg_len]; have : (4 : Int).toNat = 4 := rfl; omega) (by omega)
      clear hf2
      go_wp2_with fail
      refine C.mono ?_
      clear C
      rintro e w4 ⟨rfl, ab4, hP4⟩
      have hz4 := hP4.frame.size
      have f3 : Fresh wr ab' ab3 := by
        rcases hP3.fresh with q | ⟨k, q, q2⟩
        · exact .inl q
        · exact .inr ⟨k, q, by simp at q2; omega⟩
      have g3 : Wfr wr w3 gw ab' := wfr_pre hB1 hP3.frame
      have g4 : Wfr wr w4 gw ab' := g3.trans hP4.frame f3
      have f4 : Fresh wr ab' ab4 := f3.trans hP4.fresh (by omega)
      go_wp2_with fail
      go_roundw
      case rel =>
        refine ⟨k + 1, ab4, by go_num, by omega, ?_, hfr.trans f4 hsz, hwf.trans g4 hfr⟩
        rw [HS.out]
        have := hP4.wr
        simp only [List.append_assoc] at this ⊢
        exact this
      case measure => simp [intOf]; omega
    · have hz' := Lib.hid (show R.take k = R from List.take_of_length_le (by omega))
      rw [hz'.out] at hWr
      go_wp2_with fail
      go_ret
      rw [HTB.out]
      refine ⟨rfl, ab', hWr, ?_, wfr_pre hb2 hwf⟩
      rcases hfr with q | ⟨k, q, q2⟩
      · exact .inl q
      · exact .inr ⟨k, q, by omega⟩
theorem tabB_len {l : List Int} (hk : chkL l = 0) : (tabB l).length ≤ 20000 := by
  have h1 := runsB_len (rle l) (rle_good hk)
  have h2 := rle_len l
  have h3 := (chk0 hk).1
  unfold tabB
  omega
set_option maxRecDepth 100000 in
set_option maxHeartbeats 4000000 in
theorem tpack_yes (A : Option Addr) (n c : Nat) (l : List Int) (w : World) (h : Rd w w.heap.size 1 A n (ints l)) (hn : n ≤ 1000000) (hk : chkL l = 0) (t : List UInt8) (ht : textB (tabB l) = t) :
    Calls Try.prog 28 #[.slice A n c] w fun e w' => e = .returned (.tuple #[str t, .int .i64 0]) ∧ Below w.heap.size w w' := by
  have HB1 : Below w.heap.size w (w.alloc (.cells #[.slice none 0 0, .int .u64 0, .int .i64 0] 59)) := (by first | exact Below.refl _ _ | (repeat (first | exact Below.refl _ _ | assumption | refine Below.drew ?_ | refine Below.drewN_ ?_ _ | refine Below.alloc ?_ (by first | exact Nat.le_refl _ | (simp; done) | (simp; omega) | omega) _ | refine Below.setCell ?_ (by first | exact Nat.le_refl _ | (simp; done) | (simp; omega) | omega) _ | (refine Below.trans ?_ (Below.mono (by assumption) (by first | exact Nat.le_refl _ | (simp; done) | (simp; omega) | omega))))))
  have C := tput_yes (w.heap.size + 1) w.heap.size none [] A n c l _ ((h.below HB1).more HB1.size) hn hk (Wr.fresh w) (by simp) (by simp)
  have htl := tabB_len hk
  subst ht
  go_enter Try.func28, Try.ntmps28
  go_wp2_with fail
  refine C.mono ?_
  clear C
  rintro e w1 ⟨rfl, ab, hP⟩
  have hb1 : Below w.heap.size w w1 := HB1.trans (hP.frame.below HB1.size (Nat.le_refl _) (fun k hk => by cases hk))
  have C := text_any _ _ _ _ w1 hP.wr (by simpa using by omega)
  rw [List.nil_append] at C
  go_wp2_with fail
  refine C.mono ?_
  clear C
  rintro e w2 ⟨rfl, hb2⟩
  go_wp2_with fail
  go_ret2
  exact ⟨rfl, hb1.trans (hb2.mono hb1.size)⟩
set_option maxRecDepth 100000 in
set_option maxHeartbeats 4000000 in
theorem tpack_no (A : Option Addr) (n c : Nat) (l : List Int) (w : World) (h : Rd w w.heap.size 1 A n (ints l)) (hn : n ≤ 1000000) (v : Int) (hk : chkL l = v) (hv : ¬ v = 0) :
    Calls Try.prog 28 #[.slice A n c] w fun e w' => e = .returned (.tuple #[str [], .int .i64 v]) ∧ Below w.heap.size w w' := by
  have HB1 : Below w.heap.size w (w.alloc (.cells #[.slice none 0 0, .int .u64 0, .int .i64 0] 59)) := (by first | exact Below.refl _ _ | (repeat (first | exact Below.refl _ _ | assumption | refine Below.drew ?_ | refine Below.drewN_ ?_ _ | refine Below.alloc ?_ (by first | exact Nat.le_refl _ | (simp; done) | (simp; omega) | omega) _ | refine Below.setCell ?_ (by first | exact Nat.le_refl _ | (simp; done) | (simp; omega) | omega) _ | (refine Below.trans ?_ (Below.mono (by assumption) (by first | exact Nat.le_refl _ | (simp; done) | (simp; omega) | omega))))))
  have C := tput_no w.heap.size A n c l _ ((h.below HB1).more HB1.size) hn v hk hv
  have hvI : (v != 0) = true := by simp [hv]
  go_enter Try.func28, Try.ntmps28
  go_wp2_with fail
  refine C.mono ?_
  clear C
  rintro e w1 ⟨rfl, rfl⟩
  go_wp2_with fail
  go_ret2
  exact ⟨rfl, HB1⟩
def sizeT (l : List Int) : Nat := if chkL l = 0 then (tabB l).length else 0
set_option maxRecDepth 100000 in
set_option maxHeartbeats 4000000 in
theorem tsize_any (A : Option Addr) (n c : Nat) (l : List Int) (w : World) (h : Rd w w.heap.size 1 A n (ints l)) (hn : n ≤ 1000000) (k : Nat) (hs : sizeT l = k) :
    Calls Try.prog 30 #[.slice A n c] w fun e w' => e = .returned (.int .i64 k) ∧ Below w.heap.size w w' := by
  have HB1 : Below w.heap.size w (w.alloc (.cells #[.slice none 0 0, .int .u64 0, .int .i64 0] 59)) := (by first | exact Below.refl _ _ | (repeat (first | exact Below.refl _ _ | assumption | refine Below.drew ?_ | refine Below.drewN_ ?_ _ | refine Below.alloc ?_ (by first | exact Nat.le_refl _ | (simp; done) | (simp; omega) | omega) _ | refine Below.setCell ?_ (by first | exact Nat.le_refl _ | (simp; done) | (simp; omega) | omega) _ | (refine Below.trans ?_ (Below.mono (by assumption) (by first | exact Nat.le_refl _ | (simp; done) | (simp; omega) | omega))))))
  by_cases hk : chkL l = 0
  · have C := tput_yes (w.heap.size + 1) w.heap.size none [] A n c l _ ((h.below HB1).more HB1.size) hn hk (Wr.fresh w) (by simp) (by simp)
    have htl := tabB_len hk
    unfold sizeT at hs
    rw [if_pos hk] at hs
    subst hs
    go_enter Try.func30, Try.ntmps30
    go_wp2_with fail
    refine C.mono ?_
    clear C
    rintro e w1 ⟨rfl, ab, hP⟩
    have hb1 : Below w.heap.size w w1 := HB1.trans (hP.frame.below HB1.size (Nat.le_refl _) (fun k hk => by cases hk))
    have C := len_any _ _ _ _ w1 hP.wr (by simpa using by omega)
    rw [List.nil_append] at C
    go_wp2_with fail
    refine C.mono ?_
    clear C
    rintro e w2 ⟨rfl, nq, rfl⟩
    go_wp2_with fail
    go_ret
    exact ⟨rfl, hb1.drewN_ nq⟩
  · have C := tput_no w.heap.size A n c l _ ((h.below HB1).more HB1.size) hn _ rfl hk
    have hvI : (chkL l != 0) = true := by simp [hk]
    unfold sizeT at hs
    rw [if_neg hk] at hs
    subst hs
    generalize chkL l = v at *
    go_enter Try.func30, Try.ntmps30
    go_wp2_with fail
    refine C.mono ?_
    clear C
    rintro e w1 ⟨rfl, rfl⟩
    go_wp2_with fail
    go_ret
    exact ⟨rfl, HB1⟩
end TabW
end Go.Proofs.Ytedoeplhjmkllaa
