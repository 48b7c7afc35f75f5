/- Walks over the laws of package tab. -/
import Derived.Test.YtedoeplhjmkllaaTabS
import Derived.Test.YtedoeplhjmkllaaOpen
import Derived.Test.YtedoeplhjmkllaaOpenI
import Derived.Test.YtedoeplhjmkllaaReg2
namespace Go.Proofs.Ytedoeplhjmkllaa
set_option linter.unusedVariables false
set_option linter.unusedSimpArgs false
set_option linter.unnecessarySimpa false
open Go.RowKit Go.ChangeShapes Go.WideShapes Go.Deep
namespace TabW
open LenW (okL okL_at chkL chk0 check_any refCheck_any)
open BitW (Wr Wfr Fresh Puts rdr RLeft left_any len_any bc bc_len refText_any rd_bclen)

set_option maxRecDepth 100000 in
theorem open_fields {H : Type} {enc : TypeId × Value → H} {w : World} {base : Nat} {spare : Nat → Bool} {held : Bool} {r : Reach} {b0 : Nat} {v : Value} {d : DataW H} {p : List MemPlace}
    (hv : Value.okWide Try.prog w r b0 24 v) (h : DataW.Trod enc Try.prog w base spare held 24 v d p) :
    ∃ (A : Option Addr) (n c : Nat) (l : List (Int × Int)), v = .slice A n c ∧ n ≤ c ∧ c ≤ maxLen ∧ (∀ x ∈ l, I64 x.1 ∧ I64 x.2) ∧ Rd w w.heap.size 2 A n (fcells l) := by
  obtain ⟨A, n, c, l, hv', h1, h2, _, h4, _, h6⟩ := open_rows Try.underlying24 (by kernel_rfl) (by decide) (fun x : Int × Int => [.int .i64 x.1, .int .i64 x.2]) (fun x => I64 x.1 ∧ I64 x.2)
    (fun n cs y => trod_ii Try.underlying47 (by kernel_rfl) Try.underlying3 Try.underlying3 n cs y) hv h
  exact ⟨A, n, c, l, hv', h1, h2, h4, h6⟩

theorem Wr.drew {w : World} {base g : Nat} {ab : Option Nat} {l : List Nat} (h : Wr w base g ab l) : Wr w.drew base g ab l := LenW.Wr.low h ((Below.refl _ w).drew)
theorem Put_both (w0 X : World) (ab : Option Nat) (L : List Nat) (n width : Int) (hX : Below w0.heap.size w0 X) (hz : w0.heap.size + 1 ≤ X.heap.size) (h : Wr X (w0.heap.size + 1) w0.heap.size ab L) (hn : I64 n) (hl : L.length ≤ 900000) :
    Calls Try.prog 32 #[.pointer (some ⟨w0.heap.size, 0, none⟩), .int .i64 n, .int .i64 width] X fun e w' => ∃ er ab' L', e = .returned (.int .i64 er) ∧ Wr w' (w0.heap.size + 1) w0.heap.size ab' L' ∧ L'.length ≤ L.length + 32 ∧ w0.heap.size + 1 ≤ w'.heap.size ∧ Below w0.heap.size w0 w' := by
  by_cases hf : fitsB n width = true
  · refine (BitW.Put_yes (w0.heap.size + 1) w0.heap.size ab L n width X hf hn h (by omega) hz).mono ?_
    rintro e w' ⟨rfl, ab', hP⟩
    have := fits_width hf
    exact ⟨0, ab', _, rfl, hP.wr, by rw [List.length_append, dg_len]; omega, Nat.le_trans hz hP.frame.size, hX.trans (hP.frame.below hX.size (Nat.le_refl _) (fun k hk => by have := (wr_own h k hk).1; omega))⟩
  · refine (BitW.Put_no 0 w0.heap.size n width X (by simpa using hf) hn).mono ?_
    rintro e w' ⟨rfl, rfl⟩
    exact ⟨2, ab, L, rfl, h, by omega, hz, hX⟩
set_option maxRecDepth 100000 in
set_option maxHeartbeats 8000000 in
theorem tab_packs_law (A : Option Addr) (n c : Nat) (l : List Int) (A2 : Option Addr) (n2 c2 : Nat) (hd : List (Int × Int)) (w : World)
    (h : Rd w w.heap.size 1 A n (ints l)) (hn : n ≤ maxLen) (k : Rd w w.heap.size 2 A2 n2 (fcells hd)) (hn2 : n2 ≤ maxLen) (h64 : ∀ x ∈ hd, I64 x.1 ∧ I64 x.2) :
    Calls Try.prog 9 #[.slice A n c, .slice A2 n2 c2] w fun e w' => e = .returned (.bool true) ∧ Below w.heap.size w w' := by
  unfold maxLen at hn hn2
  have hcase : (n : Int) > 300 ∨ (¬ (n : Int) > 300 ∧ (n2 : Int) > 100) ∨ (¬ (n : Int) > 300 ∧ ¬ (n2 : Int) > 100) := by omega
  rcases hcase with h1 | ⟨h1, h2⟩ | ⟨h1, h2⟩
  iterate 2
    clear h h64 k
    go_enter Try.func9, Try.ntmps9
    go_wp2_with fail
    refine (tawake_any _).mono ?_
    rintro e w7 ⟨rfl, hb7⟩
    go_wp2_with fail
    go_ret
    exact ⟨rfl, hb7⟩
  have hl2 : hd.length = n2 := rd_flen k
  have key : ∃ (x : List UInt8 × Int) (sz : Nat), sz ≤ 20000 ∧ (∀ w, Rd w w.heap.size 1 A n (ints l) → Calls Try.prog 28 #[.slice A n c] w fun e w' => e = .returned (.tuple #[str x.1, .int .i64 x.2]) ∧ Below w.heap.size w w') ∧
      (∀ w, Rd w w.heap.size 1 A n (ints l) → Calls Try.prog 29 #[.slice A n c] w fun e w' => e = .returned (.tuple #[str x.1, .int .i64 x.2]) ∧ Below w.heap.size w w') ∧
      (∀ w, Rd w w.heap.size 1 A n (ints l) → Calls Try.prog 30 #[.slice A n c] w fun e w' => e = .returned (.int .i64 sz) ∧ Below w.heap.size w w') ∧
      (∀ w, Rd w w.heap.size 1 A n (ints l) → Calls Try.prog 31 #[.slice A n c] w fun e w' => e = .returned (.int .i64 sz) ∧ Below w.heap.size w w') ∧
      (∀ base gw ab L w, Rd w w.heap.size 1 A n (ints l) → Wr w base gw ab L → L.length ≤ 800000 → base ≤ w.heap.size → Calls Try.prog 34 #[.pointer (some ⟨gw, 0, none⟩), .slice A n c] w fun e w' => e = .returned (.int .i64 x.2) ∧ ∃ ab' L', Puts w w' base gw ab L' ab' ∧ L'.length = L.length + sz) := by
    by_cases hk : chkL l = 0
    · have hsz : sizeT l = (tabB l).length := by unfold sizeT; rw [if_pos hk]
      exact ⟨(textB (tabB l), 0), (tabB l).length, tabB_len hk, fun w H => tpack_yes A n c l w H (by omega) hk _ rfl, fun w H => refPack_tab A n c l w H (by omega) _ (if_pos hk), fun w H => tsize_any A n c l w H (by omega) _ hsz, fun w H => refSize_tab A n c l w H (by omega) _ hsz,
        fun base gw ab L w H hW hL hb => (tput_yes base gw ab L A n c l w H (by omega) hk hW hL hb).mono fun e w' ⟨q1, ab', q2⟩ => ⟨q1, ab', _, q2, by rw [List.length_append]⟩⟩
    · have hsz : sizeT l = 0 := by unfold sizeT; rw [if_neg hk]
      exact ⟨([], chkL l), 0, by omega, fun w H => tpack_no A n c l w H (by omega) _ rfl hk, fun w H => refPack_tab A n c l w H (by omega) _ (if_neg hk), fun w H => tsize_any A n c l w H (by omega) _ hsz, fun w H => refSize_tab A n c l w H (by omega) _ hsz,
        fun base gw ab L w H hW hL hb => (tput_no gw A n c l w H (by omega) _ rfl hk).mono fun e w' ⟨q1, q2⟩ => ⟨q1, ab, L, ⟨by rw [q2]; exact hW, Fresh.refl _ _, by rw [q2]; exact Wfr.refl _ _ _⟩, rfl⟩⟩
  obtain ⟨⟨xs, xe⟩, sz, hsz, C1, C2, C3, C4, C5⟩ := key
  have H1 := Lib.hid C1
  have H2 := Lib.hid C2
  have H3 := Lib.hid C3
  have H4 := Lib.hid C4
  have H5 := Lib.hid C5
  have H64 := Lib.hid h64
  clear C1 C2 C3 C4 C5 h64
  have hxx : (sz != sz) = false := by simp
  go_enter Try.func9, Try.ntmps9
  go_wp2_with fail
  refine (H1.out _ h).mono ?_
  rintro e w1 ⟨rfl, HB⟩
  go_wp2_with fail
  refine (H2.out _ ((h.below HB).more HB.size)).mono ?_
  rintro e w2 ⟨rfl, hb2⟩
  replace HB := HB.trans (hb2.mono HB.size)
  clear hb2
  go_wp2_with fail
  refine (H3.out _ ((h.below HB).more HB.size)).mono ?_
  rintro e w3 ⟨rfl, hb3⟩
  replace HB := HB.trans (hb3.mono HB.size)
  clear hb3
  go_wp2_with fail
  refine (H4.out _ ((h.below HB).more HB.size)).mono ?_
  rintro e w4 ⟨rfl, hb4⟩
  replace HB := HB.trans (hb4.mono HB.size)
  clear hb4 H1 H2 H3
  go_wp2_with fail
  have hWr := Wr.fresh w4
  have HB0 : Below w4.heap.size w4 (w4.alloc (.cells #[.slice none 0 0, .int .u64 0, .int .i64 0] 59)) := (Below.refl _ _).alloc (Nat.le_refl _) _
  have hz0 : w4.heap.size + 1 ≤ (w4.alloc (.cells #[.slice none 0 0, .int .u64 0, .int .i64 0] 59)).heap.size := by simp
  go_loopw [10] (fun i wr => ∃ (j : Nat) (ab : Option Nat) (L : List Nat), i = .int .i64 j ∧ j ≤ n2 ∧ Wr wr (w4.heap.size + 1) w4.heap.size ab L ∧ L.length ≤ 32 * j ∧ w4.heap.size + 1 ≤ wr.heap.size ∧ Below w4.heap.size w4 wr) (fun i _ => n2 - (intOf i).toNat)
  case atStart => exact ⟨0, none, [], rfl, by omega, hWr, by simp, hz0, HB0⟩
  case round =>
    obtain ⟨j, ab, L, rfl, hj, hW, hL, hz, hbw⟩ := hrel
    clear hWr HB0 hz0
    have hz4 := HB.size
    have hbw0 : Below w.heap.size w wr := HB.trans (hbw.mono HB.size)
    by_cases hlt : j < n2
    · obtain ⟨b, o, rfl, hb, hc⟩ := rd_fcells (k.below hbw0) (by omega)
      obtain ⟨d0, d1⟩ := hc j (by omega)
      have h6 := H64.out hd[j] (List.getElem_mem _)
      obtain ⟨⟨x0, x1⟩, hx⟩ : ∃ z, hd[j]'(by omega) = z := ⟨_, rfl⟩
      rw [hx] at d0 d1 h6
      dsimp only at d0 d1 h6
      have hjI : (j : Int) < (n2 : Int) := by omega
      have hj0 : (0 : Int) ≤ (j : Int) := by omega
      have C := fun X HX HZ HW => Put_both w4 X ab L x0 x1 HX HZ HW h6.1 (by omega)
      have hbb : b < w4.heap.size := by omega
      have e0 : w4.cell? ⟨b, o + j * 2, none⟩ = some (.int .i64 x0) := (hbw.cell (p := ⟨b, o + j * 2, none⟩) hbb).symm.trans d0
      have e1 : w4.cell? ⟨b, o + j * 2 + 1, none⟩ = some (.int .i64 x1) := (hbw.cell (p := ⟨b, o + j * 2 + 1, none⟩) hbb).symm.trans d1
      have KEEP := Lib.hid (fun (w' : World) (h : Below w4.heap.size w4 w') => show w'.cell? ⟨b, o + j * 2, none⟩ = some (.int .i64 x0) ∧ w'.cell? ⟨b, o + j * 2 + 1, none⟩ = some (.int .i64 x1) from ⟨(h.cell (p := ⟨b, o + j * 2, none⟩) hbb).trans e0, (h.cell (p := ⟨b, o + j * 2 + 1, none⟩) hbb).trans e1⟩)
      have HC := Lib.hid C
      clear hc hx h6 C e0 e1
      go_wp2_with fail
      refine wp_region_held_drew (S := (fun w' => w'.cell? ⟨b, o + j * 2, none⟩ = some (.int .i64 x0) ∧ w'.cell? ⟨b, o + j * 2 + 1, none⟩ = some (.int .i64 x1))) (by kernel_rfl) ?_ (fun hHeld => ?_)
      · (try dsimp only); exact KEEP.out _ (by first | exact hb11 | exact hbw.drew | exact hbw)
      refine take_move 0 (Operand.tmp 9) rfl rfl (by first | exact .inl rfl | exact .inr rfl) rfl (by kernel_rfl) (by kernel_rfl) (by kernel_rfl) (fun _ _ _ h => h) (by assumption) ?_
      simp only [List.setIfInBounds_toArray, List.set_cons_zero, List.set_cons_succ]
      refine take_move 1 (Operand.tmp 1) rfl rfl (by first | exact .inl rfl | exact .inr rfl) rfl (by kernel_rfl) (by kernel_rfl) (by kernel_rfl) (fun _ _ _ h => h) (by assumption) ?_
      simp only [List.setIfInBounds_toArray, List.set_cons_zero, List.set_cons_succ]
      refine take_move 2 (Operand.tmp 10) rfl rfl (by first | exact .inl rfl | exact .inr rfl) rfl (by kernel_rfl) (by kernel_rfl) (by kernel_rfl) (fun _ _ _ h => h) (by assumption) ?_
      simp only [List.setIfInBounds_toArray, List.set_cons_zero, List.set_cons_succ]
      refine take_op (v := ?vu1x3) 3 (Op.indexAddr 24 (Operand.tmp 55) (Operand.tmp 56)) 0 rfl rfl rfl rfl rfl (by kernel_rfl) (by kernel_rfl) (by kernel_rfl) (fun _ _ _ h => h) ?yu1x3 (by assumption) ?ru1x3
      case yu1x3 => (intro w' hSw; (try dsimp only at hSw); go_simp; try (with_reducible rfl))
      simp only [List.setIfInBounds_toArray, List.set_cons_zero, List.set_cons_succ]
      refine take_op (v := ?vu1x4) 4 (Op.fieldAddr 47 (Operand.tmp 57) 0) 0 rfl rfl rfl rfl rfl (by kernel_rfl) (by kernel_rfl) (by kernel_rfl) (fun _ _ _ h => h) ?yu1x4 (by assumption) ?ru1x4
      case yu1x4 => (intro w' hSw; (try dsimp only at hSw); go_simp; try (with_reducible rfl))
      simp only [List.setIfInBounds_toArray, List.set_cons_zero, List.set_cons_succ]
      refine take_op (v := ?vu1x5) 5 (Op.load 3 (Operand.tmp 58)) 3 rfl rfl rfl rfl rfl (by kernel_rfl) (by kernel_rfl) (by kernel_rfl) (fun _ _ _ h => h) ?yu1x5 (by assumption) ?ru1x5
      case yu1x5 => (intro w' hSw; (try dsimp only at hSw); go_simp; try (with_reducible rfl))
      simp only [List.setIfInBounds_toArray, List.set_cons_zero, List.set_cons_succ]
      refine take_move 6 (Operand.tmp 1) rfl rfl (by first | exact .inl rfl | exact .inr rfl) rfl (by kernel_rfl) (by kernel_rfl) (by kernel_rfl) (fun _ _ _ h => h) (by assumption) ?_
      simp only [List.setIfInBounds_toArray, List.set_cons_zero, List.set_cons_succ]
      refine take_move 7 (Operand.tmp 10) rfl rfl (by first | exact .inl rfl | exact .inr rfl) rfl (by kernel_rfl) (by kernel_rfl) (by kernel_rfl) (fun _ _ _ h => h) (by assumption) ?_
      simp only [List.setIfInBounds_toArray, List.set_cons_zero, List.set_cons_succ]
      refine take_op (v := ?vu1x8) 8 (Op.indexAddr 24 (Operand.tmp 60) (Operand.tmp 61)) 0 rfl rfl rfl rfl rfl (by kernel_rfl) (by kernel_rfl) (by kernel_rfl) (fun _ _ _ h => h) ?yu1x8 (by assumption) ?ru1x8
      case yu1x8 => (intro w' hSw; (try dsimp only at hSw); go_simp; try (with_reducible rfl))
      simp only [List.setIfInBounds_toArray, List.set_cons_zero, List.set_cons_succ]
      refine take_op (v := ?vu1x9) 9 (Op.fieldAddr 47 (Operand.tmp 62) 1) 0 rfl rfl rfl rfl rfl (by kernel_rfl) (by kernel_rfl) (by kernel_rfl) (fun _ _ _ h => h) ?yu1x9 (by assumption) ?ru1x9
      case yu1x9 => (intro w' hSw; (try dsimp only at hSw); go_simp; try (with_reducible rfl))
      simp only [List.setIfInBounds_toArray, List.set_cons_zero, List.set_cons_succ]
      refine take_op (v := ?vu1x10) 10 (Op.load 3 (Operand.tmp 63)) 3 rfl rfl rfl rfl rfl (by kernel_rfl) (by kernel_rfl) (by kernel_rfl) (fun _ _ _ h => h) ?yu1x10 (by assumption) ?ru1x10
      case yu1x10 => (intro w' hSw; (try dsimp only at hSw); go_simp; try (with_reducible rfl))
      simp only [List.setIfInBounds_toArray, List.set_cons_zero, List.set_cons_succ]
      refine wpAnyH_ready (rs := [11]) (by kernel_rfl) (by simp) (AllReadyH.cons rfl (fun K11 hK11 => ?ku1x11) AllReadyH.nil)
      refine take_calls 11 32 [Operand.tmp 54, Operand.tmp 59, Operand.tmp 64] #[55, 3, 3] rfl rfl (by kernel_rfl) (fun args w => run_enter Try.func32 (by kernel_rfl) rfl args w) ?_
      refine (HC.out _ hbw.drew (by simp only [World.size_drew]; omega) (Wr.drew hW)).mono ?_
      rintro e w11 ⟨er, ab4, L4, rfl, hW4, hL4, hz11b, hb11⟩
      refine ⟨_, rfl, ?_⟩
      have z11 := hb11.size
      try simp only [World.size_drew] at z11
      refine hK11.out _ _ ?su1x11 (fun hHeld => ?ru1x11)
      case su1x11 => ((try dsimp only); exact KEEP.out _ (by first | exact hb11 | exact hbw.drew | exact hbw))
      try simp only [List.setIfInBounds_toArray, List.set_cons_zero, List.set_cons_succ]
      refine wpAnyH_done (by kernel_rfl) ?_ _
      go_wp2_with fail
      go_roundw
      case rel => exact ⟨j + 1, ab4, L4, by go_num, by omega, hW4, by omega, hz11b, hb11⟩
      case measure => simp [intOf]; omega
    · have C := len_any _ _ _ _ wr hW (by omega)
      have hrd := (h.below hbw0).more hbw0.size
      go_wp2_with fail
      refine C.mono ?_
      clear C
      rintro e w5 ⟨rfl, nq, rfl⟩
      have hW5 := LenW.Wr.low hW ((Below.refl _ wr).drewN_ nq)
      have hb5 : Below w.heap.size w (wr.drewN nq) := hbw0.drewN_ nq
      have hzz : w4.heap.size + 1 ≤ (wr.drewN nq).heap.size := hz
      generalize hw5 : wr.drewN nq = w5 at *
      clear hw5
      have C := H5.out _ _ _ _ w5 ((h.below hb5).more hb5.size) hW5 (by omega) hzz
      go_wp2_with fail
      refine C.mono ?_
      clear C
      rintro e w6 ⟨rfl, ab6, L6, hP, hL6⟩
      have hb6 : Below w.heap.size w w6 := hb5.trans (hP.frame.below hb5.size (by omega) (fun k hk => by have := (wr_own hW5 k hk).1; omega))
      have C := len_any _ _ _ _ w6 hP.wr (by omega)
      go_wp2_with fail
      refine C.mono ?_
      clear C
      rintro e w7 ⟨rfl, nq7, rfl⟩
      have hb7 : Below w.heap.size w (w6.drewN nq7) := hb6.drewN_ nq7
      generalize w6.drewN nq7 = w7 at *
      go_wp2_with fail
      refine (H4.out _ ((h.below hb7).more hb7.size)).mono ?_
      rintro e w8 ⟨rfl, hb8⟩
      have hb9 := hb7.trans (hb8.mono hb7.size)
      have hLI : ((L6.length : Int) == (L.length : Int) + (sz : Int)) = true := by simp; omega
      clear hb8
      go_wp2_with fail
      refine (tawake_any _).mono ?_
      rintro e w9 ⟨rfl, hb10⟩
      go_wp2_with fail
      go_ret
      exact ⟨rfl, hb9.trans (hb10.mono hb9.size)⟩
end TabW
end Go.Proofs.Ytedoeplhjmkllaa
