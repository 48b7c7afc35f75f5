/- Walk: how many unlike bytes stand between a byte and the same one ahead of it. -/
import Derived.Test.YtehlgpfkpagaeaaFrontE
import Derived.Test.YtehlgpfkpagaeaaFrontH
namespace Go.Proofs.Ytehlgpfkpagaeaa
set_option linter.unusedVariables false
set_option linter.unusedSimpArgs false
set_option linter.unnecessarySimpa false
open Go.RowKit Go.ChangeShapes Go.WideShapes
namespace FrontW

set_option maxRecDepth 100000 in
set_option maxHeartbeats 4000000 in
theorem between_any (s : List UInt8) (i : Nat) (hi : i < s.length) (w : World) (hs : s.length ≤ 1000000) :
    Calls Try.prog 39 #[str s, .int .i64 i] w fun e w' => e = .returned (.int .i64 (if s[i] ∈ s.take i then (((runR (s.take i)).1.idxOf s[i] : Nat) : Int) else -1)) ∧ Below w.heap.size w w' := by
  have hz : Try.zeroCells47 = seenB [] := by kernel_rfl
  have HZ := Lib.hid hz
  clear hz
  obtain ⟨b, hb, hb'⟩ : ∃ b, (⟨s.toArray⟩ : ByteArray)[i]'(by show i < s.toArray.size; simpa using hi) = b ∧ s[i] = b := ⟨_, rfl, rfl⟩
  obtain ⟨t, ht, htl, htm⟩ : ∃ t : List UInt8, s.take i = t ∧ t.length = i ∧ (∀ m (hm : m < t.length) (h2 : m < s.length), s[m] = t[m]) := ⟨_, rfl, by simp; omega, fun m hm h2 => by simp⟩
  rw [hb', ht]
  have hi1 : (i : Int) < (s.length : Int) := by omega
  have hi0 : (0 : Int) ≤ (i : Int) := by omega
  have HTM := Lib.hid htm
  clear hb' ht htm
  have HTL := Lib.hid htl
  have HIA := Lib.hid (idx_at t)
  generalize hres : (if b ∈ t then (((runR t).1.idxOf b : Nat) : Int) else -1) = res
  have HRES := Lib.hid hres
  clear htl hres
  go_enter Try.func39, Try.ntmps39
  go_wp2_with fail
  go_loopw [6, 7] (fun a k wr => ∃ j : Nat, j ≤ i ∧ k = .int .i64 ((j : Int) - 1) ∧ a = .int .i64 ((dd (t.drop j).reverse).length : Nat) ∧ b ∉ t.drop j ∧ Blk wr w.heap.size 47 (seenB (t.drop j)) ∧ Below w.heap.size w wr)
    (fun _ k _ => (intOf k + 1).toNat)
  case atStart =>
    have e : t.drop i = [] := List.drop_of_length_le (by rw [HTL.out]; exact Nat.le_refl _)
    refine ⟨i, Nat.le_refl _, by go_num, by rw [e]; rfl, by rw [e]; exact List.not_mem_nil, ?_, (Below.refl _ _).alloc (Nat.le_refl _) _⟩
    rw [e, ← HZ.out]; exact Blk.new _ _ _
  case round =>
    obtain ⟨j, hj, rfl, rfl, hnb, hB, hbw⟩ := hrel
    cases j with
    | zero =>
      rw [show (((0 : Nat) : Int) - 1) = -1 from rfl]
      rw [List.drop_zero] at hnb
      have HNB := Lib.hid hnb
      clear hnb hB
      generalize (dd (t.drop 0).reverse).length = p
      go_wp2
      go_ret
      exact ⟨ret_int (by rw [← HRES.out, if_neg HNB.out]), hbw⟩
    | succ m =>
      have hm : m < s.length := by omega
      have hmt : m < t.length := by rw [HTL.out]; omega
      have hm0 : (0 : Int) ≤ (m : Int) := by omega
      have hmi : (m : Int) < (s.length : Int) := by omega
      obtain ⟨c, hc, hc'⟩ : ∃ c, (⟨s.toArray⟩ : ByteArray)[m]'(by show m < s.toArray.size; simpa using hm) = c ∧ s[m] = c := ⟨_, rfl, rfl⟩
      have hct : t[m] = c := by rw [← HTM.out m hmt hm]; exact hc'
      have hdr : t.drop m = c :: t.drop (m + 1) := by rw [← hct]; exact List.drop_eq_getElem_cons hmt
      have hc256 : (c.toNat : Int) < 256 := by have := c.toNat_lt; omega
      have hc0 : (0 : Int) ≤ (c.toNat : Int) := by omega
      have hin := dd_in t m hmt
      have hout := dd_out t m hmt
      have hia := HIA.out m hmt
      have hql : (dd (t.drop (m + 1)).reverse).length ≤ 1000000 := by
        have := dd_le (t.drop (m + 1)); omega
      have hmem : c ∈ t := by rw [← hct]; exact List.getElem_mem _
      rw [hct] at hin hout hia
      rw [show (((m + 1 : Nat) : Int) - 1) = (m : Int) by omega]
      have HD := Lib.hid hdr
      have HIN := Lib.hid hin
      have HOUT := Lib.hid hout
      have HI := Lib.hid hia
      have HM := Lib.hid hmem
      have HNB := Lib.hid hnb
      clear hdr hc' hct hin hout hia hmem hnb hmt
      generalize hx : t.drop (m + 1) = x at *
      clear hx
      have hq0 : (0 : Int) ≤ ((dd x.reverse).length : Int) := by omega
      by_cases hcb : c = b
      · subst hcb
        have hle := hql
        generalize hq : (dd x.reverse).length = q at *
        have HQ := Lib.hid hq
        clear hq
        go_wp2_with fail
        refine wp_region_held_drew (S := (fun w' => Blk w' w.heap.size 47 (seenB x) ∧ Below w.heap.size w w')) (by kernel_rfl) ?_ (fun hHeld => ?_)
        · (try dsimp only); (first | exact ⟨hB.drew, hbw.drew⟩ | exact ⟨hB, hbw⟩)
        refine take_move 0 (Operand.tmp 0) rfl rfl (by first | exact .inl rfl | exact .inr rfl) rfl (by kernel_rfl) (by kernel_rfl) (by kernel_rfl) (fun _ _ _ h => h) (by assumption) ?_
        simp only [List.setIfInBounds_toArray, List.set_cons_zero, List.set_cons_succ]
        refine take_move 1 (Operand.tmp 7) rfl rfl (by first | exact .inl rfl | exact .inr rfl) rfl (by kernel_rfl) (by kernel_rfl) (by kernel_rfl) (fun _ _ _ h => h) (by assumption) ?_
        simp only [List.setIfInBounds_toArray, List.set_cons_zero, List.set_cons_succ]
        refine take_op (v := ?vu5x2) 2 (Op.index 9 (Operand.tmp 14) (Operand.tmp 15)) 5 rfl rfl rfl rfl rfl (by kernel_rfl) (by kernel_rfl) (by kernel_rfl) (fun _ _ _ h => h) ?yu5x2 (by assumption) ?ru5x2
        case yu5x2 => (intro w' hSw; (try dsimp only at hSw); go_simp; try (with_reducible rfl))
        simp only [List.setIfInBounds_toArray, List.set_cons_zero, List.set_cons_succ]
        refine take_move 3 (Operand.tmp 0) rfl rfl (by first | exact .inl rfl | exact .inr rfl) rfl (by kernel_rfl) (by kernel_rfl) (by kernel_rfl) (fun _ _ _ h => h) (by assumption) ?_
        simp only [List.setIfInBounds_toArray, List.set_cons_zero, List.set_cons_succ]
        refine take_move 4 (Operand.tmp 1) rfl rfl (by first | exact .inl rfl | exact .inr rfl) rfl (by kernel_rfl) (by kernel_rfl) (by kernel_rfl) (fun _ _ _ h => h) (by assumption) ?_
        simp only [List.setIfInBounds_toArray, List.set_cons_zero, List.set_cons_succ]
        refine take_op (v := ?vu5x5) 5 (Op.index 9 (Operand.tmp 17) (Operand.tmp 18)) 5 rfl rfl rfl rfl rfl (by kernel_rfl) (by kernel_rfl) (by kernel_rfl) (fun _ _ _ h => h) ?yu5x5 (by assumption) ?ru5x5
        case yu5x5 => (intro w' hSw; (try dsimp only at hSw); go_simp; try (with_reducible rfl))
        simp only [List.setIfInBounds_toArray, List.set_cons_zero, List.set_cons_succ]
        refine take_op (v := ?vu5x6) 6 (Op.binOp BinOp.eql 5 (Operand.tmp 16) (Operand.tmp 19) 5) 4 rfl rfl rfl rfl rfl (by kernel_rfl) (by kernel_rfl) (by kernel_rfl) (fun _ _ _ h => h) ?yu5x6 (by assumption) ?ru5x6
        case yu5x6 => (intro w' hSw; (try dsimp only at hSw); go_simp; try (with_reducible rfl))
        simp only [List.setIfInBounds_toArray, List.set_cons_zero, List.set_cons_succ]
        refine wpAnyH_done (by kernel_rfl) ?_ _
        go_wp2
        go_ret
        exact ⟨ret_int (by rw [← HRES.out, if_pos HM.out, HI.out HNB.out]), hHeld.2⟩
      · have hcn : ¬ c.toNat = b.toNat := fun e => hcb (UInt8.toNat_inj.1 e)
        have hcI : ((c.toNat : Int) == (b.toNat : Int)) = false := by rw [beq_eq_false_iff_ne]; omega
        have hcd : decide ((c.toNat : Int) = (b.toNat : Int)) = false := decide_eq_false (by omega)
        have hcN : (c.toNat == b.toNat) = false := by rw [beq_eq_false_iff_ne]; exact hcn
        have HCB := Lib.hid hcb
        clear hcb
        have hnb' : b ∉ t.drop m := by
          rw [HD.out, List.mem_cons, not_or]
          exact ⟨fun e => HCB.out e.symm, HNB.out⟩
        have HNB' := Lib.hid hnb'
        clear hnb'
        by_cases hbx : c ∈ x
        · have hlen : (dd (t.drop m).reverse).length = (dd x.reverse).length := by rw [HIN.out hbx]
          have HL := Lib.hid hlen
          have HBX := Lib.hid hbx
          clear hlen hbx
          go_wp2_with fail
          refine wp_region_held_drew (S := (fun w' => Blk w' w.heap.size 47 (seenB x) ∧ Below w.heap.size w w')) (by kernel_rfl) ?_ (fun hHeld => ?_)
          · (try dsimp only); (first | exact ⟨hB.drew, hbw.drew⟩ | exact ⟨hB, hbw⟩)
          refine take_move 0 (Operand.tmp 0) rfl rfl (by first | exact .inl rfl | exact .inr rfl) rfl (by kernel_rfl) (by kernel_rfl) (by kernel_rfl) (fun _ _ _ h => h) (by assumption) ?_
          simp only [List.setIfInBounds_toArray, List.set_cons_zero, List.set_cons_succ]
          refine take_move 1 (Operand.tmp 7) rfl rfl (by first | exact .inl rfl | exact .inr rfl) rfl (by kernel_rfl) (by kernel_rfl) (by kernel_rfl) (fun _ _ _ h => h) (by assumption) ?_
          simp only [List.setIfInBounds_toArray, List.set_cons_zero, List.set_cons_succ]
          refine take_op (v := ?vu6x2) 2 (Op.index 9 (Operand.tmp 14) (Operand.tmp 15)) 5 rfl rfl rfl rfl rfl (by kernel_rfl) (by kernel_rfl) (by kernel_rfl) (fun _ _ _ h => h) ?yu6x2 (by assumption) ?ru6x2
          case yu6x2 => (intro w' hSw; (try dsimp only at hSw); go_simp; try (with_reducible rfl))
          simp only [List.setIfInBounds_toArray, List.set_cons_zero, List.set_cons_succ]
          refine take_move 3 (Operand.tmp 0) rfl rfl (by first | exact .inl rfl | exact .inr rfl) rfl (by kernel_rfl) (by kernel_rfl) (by kernel_rfl) (fun _ _ _ h => h) (by assumption) ?_
          simp only [List.setIfInBounds_toArray, List.set_cons_zero, List.set_cons_succ]
          refine take_move 4 (Operand.tmp 1) rfl rfl (by first | exact .inl rfl | exact .inr rfl) rfl (by kernel_rfl) (by kernel_rfl) (by kernel_rfl) (fun _ _ _ h => h) (by assumption) ?_
          simp only [List.setIfInBounds_toArray, List.set_cons_zero, List.set_cons_succ]
          refine take_op (v := ?vu6x5) 5 (Op.index 9 (Operand.tmp 17) (Operand.tmp 18)) 5 rfl rfl rfl rfl rfl (by kernel_rfl) (by kernel_rfl) (by kernel_rfl) (fun _ _ _ h => h) ?yu6x5 (by assumption) ?ru6x5
          case yu6x5 => (intro w' hSw; (try dsimp only at hSw); go_simp; try (with_reducible rfl))
          simp only [List.setIfInBounds_toArray, List.set_cons_zero, List.set_cons_succ]
          refine take_op (v := ?vu6x6) 6 (Op.binOp BinOp.eql 5 (Operand.tmp 16) (Operand.tmp 19) 5) 4 rfl rfl rfl rfl rfl (by kernel_rfl) (by kernel_rfl) (by kernel_rfl) (fun _ _ _ h => h) ?yu6x6 (by assumption) ?ru6x6
          case yu6x6 => (intro w' hSw; (try dsimp only at hSw); go_simp; try (with_reducible rfl))
          simp only [List.setIfInBounds_toArray, List.set_cons_zero, List.set_cons_succ]
          refine wpAnyH_done (by kernel_rfl) ?_ _
          obtain ⟨hB2, hbw2⟩ := hHeld
          have f2 := hB2.frozen c.toNat
          have d2 := seen_cell hB2 c
          rw [decide_eq_true HBX.out] at d2
          go_wp2
          go_roundw
          case rel => exact ⟨m, by omega, by go_num, by rw [HL.out], HNB'.out, blk_eq (hB2.set _ _) (by rw [HD.out]; exact seen_set x c), hbw2.setCell (Nat.le_refl _) _⟩
          case measure => first | (simp [intOf]; done) | (simp [intOf]; omega)
        · have hlen : (dd (t.drop m).reverse).length = (dd x.reverse).length + 1 := by rw [HOUT.out hbx]; simp
          have HL := Lib.hid hlen
          have HBX := Lib.hid hbx
          clear hlen hbx
          generalize (dd x.reverse).length = q at *
          go_wp2_with fail
          refine wp_region_held_drew (S := (fun w' => Blk w' w.heap.size 47 (seenB x) ∧ Below w.heap.size w w')) (by kernel_rfl) ?_ (fun hHeld => ?_)
          · (try dsimp only); (first | exact ⟨hB.drew, hbw.drew⟩ | exact ⟨hB, hbw⟩)
          refine take_move 0 (Operand.tmp 0) rfl rfl (by first | exact .inl rfl | exact .inr rfl) rfl (by kernel_rfl) (by kernel_rfl) (by kernel_rfl) (fun _ _ _ h => h) (by assumption) ?_
          simp only [List.setIfInBounds_toArray, List.set_cons_zero, List.set_cons_succ]
          refine take_move 1 (Operand.tmp 7) rfl rfl (by first | exact .inl rfl | exact .inr rfl) rfl (by kernel_rfl) (by kernel_rfl) (by kernel_rfl) (fun _ _ _ h => h) (by assumption) ?_
          simp only [List.setIfInBounds_toArray, List.set_cons_zero, List.set_cons_succ]
          refine take_op (v := ?vu7x2) 2 (Op.index 9 (Operand.tmp 14) (Operand.tmp 15)) 5 rfl rfl rfl rfl rfl (by kernel_rfl) (by kernel_rfl) (by kernel_rfl) (fun _ _ _ h => h) ?yu7x2 (by assumption) ?ru7x2
          case yu7x2 => (intro w' hSw; (try dsimp only at hSw); go_simp; try (with_reducible rfl))
          simp only [List.setIfInBounds_toArray, List.set_cons_zero, List.set_cons_succ]
          refine take_move 3 (Operand.tmp 0) rfl rfl (by first | exact .inl rfl | exact .inr rfl) rfl (by kernel_rfl) (by kernel_rfl) (by kernel_rfl) (fun _ _ _ h => h) (by assumption) ?_
          simp only [List.setIfInBounds_toArray, List.set_cons_zero, List.set_cons_succ]
          refine take_move 4 (Operand.tmp 1) rfl rfl (by first | exact .inl rfl | exact .inr rfl) rfl (by kernel_rfl) (by kernel_rfl) (by kernel_rfl) (fun _ _ _ h => h) (by assumption) ?_
          simp only [List.setIfInBounds_toArray, List.set_cons_zero, List.set_cons_succ]
          refine take_op (v := ?vu7x5) 5 (Op.index 9 (Operand.tmp 17) (Operand.tmp 18)) 5 rfl rfl rfl rfl rfl (by kernel_rfl) (by kernel_rfl) (by kernel_rfl) (fun _ _ _ h => h) ?yu7x5 (by assumption) ?ru7x5
          case yu7x5 => (intro w' hSw; (try dsimp only at hSw); go_simp; try (with_reducible rfl))
          simp only [List.setIfInBounds_toArray, List.set_cons_zero, List.set_cons_succ]
          refine take_op (v := ?vu7x6) 6 (Op.binOp BinOp.eql 5 (Operand.tmp 16) (Operand.tmp 19) 5) 4 rfl rfl rfl rfl rfl (by kernel_rfl) (by kernel_rfl) (by kernel_rfl) (fun _ _ _ h => h) ?yu7x6 (by assumption) ?ru7x6
          case yu7x6 => (intro w' hSw; (try dsimp only at hSw); go_simp; try (with_reducible rfl))
          simp only [List.setIfInBounds_toArray, List.set_cons_zero, List.set_cons_succ]
          refine wpAnyH_done (by kernel_rfl) ?_ _
          obtain ⟨hB2, hbw2⟩ := hHeld
          have f2 := hB2.frozen c.toNat
          have d2 := seen_cell hB2 c
          rw [decide_eq_false HBX.out] at d2
          go_wp2
          go_roundw
          case rel => exact ⟨m, by omega, by go_num, by rw [HL.out]; go_num, HNB'.out, blk_eq (hB2.set _ _) (by rw [HD.out]; exact seen_set x c), hbw2.setCell (Nat.le_refl _) _⟩
          case measure => first | (simp [intOf]; done) | (simp [intOf]; omega)
end FrontW
end Go.Proofs.Ytehlgpfkpagaeaa
