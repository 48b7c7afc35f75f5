/- The reference of package lens: what stands in its rows. -/
import Derived.Test.YtpnccehaomikbaaLfD
import Derived.Deep.OwnRows
namespace Go.Proofs.Ytpnccehaomikbaa
set_option linter.unusedVariables false
set_option linter.unusedSimpArgs false
set_option linter.unnecessarySimpa false
open Go.RowKit
namespace LenW

structure GoodP (m : Nat) (n : Int) (x : PT) : Prop where
  w0 : 0 ≤ x.1
  w1 : x.1 ≤ 1000000 * 2 ^ m
  sl : x.2.1.length ≤ 2 ^ m
  sy : ∀ s ∈ x.2.1, 0 ≤ s ∧ s < n
theorem putP_mem {x z : PT} {l : List PT} (h : z ∈ putP x l) : z = x ∨ z ∈ l := by
  induction l with
  | nil => simp [putP] at h; exact .inl h
  | cons y r ih =>
    unfold putP at h
    split at h
    · rcases List.mem_cons.1 h with rfl | h
      · exact .inr (by simp)
      · rcases ih h with h | h
        · exact .inl h
        · exact .inr (by simp [h])
    · rcases List.mem_cons.1 h with rfl | h
      · exact .inl rfl
      · exact .inr h
theorem putsP_mem {z : PT} (l : List PT) : ∀ r, z ∈ putsP l r → z ∈ l ∨ z ∈ r := by
  induction l with
  | nil => intro r h; exact .inr h
  | cons x l ih =>
    intro r h
    rcases ih (putP x r) h with h | h
    · exact .inl (by simp [h])
    · rcases putP_mem h with rfl | h
      · exact .inl (by simp)
      · exact .inr h
theorem putsP_len (l : List PT) : ∀ r, (putsP l r).length = l.length + r.length := by
  induction l with
  | nil => intro r; simp [putsP]
  | cons x l ih => intro r; show (putsP l (putP x r)).length = _; rw [ih, putP_len]; simp; omega
theorem pksP_mem {z : PT} (r : List PT) (h : z ∈ pksP r) : ∃ a ∈ r, ∃ b ∈ r, z = (a.1 + b.1, a.2.1 ++ b.2.1, false) := by
  obtain ⟨k, hk, rfl⟩ := List.getElem_of_mem h
  have hl := pksP_len r
  have e := pksP_get r k (by omega)
  rw [List.getElem?_eq_getElem hk] at e
  exact ⟨_, List.getElem_mem (show 2 * k < r.length by omega), _, List.getElem_mem (show 2 * k + 1 < r.length by omega), Option.some.inj e⟩
def rowP (F : List PT) : Nat → List PT
  | 0 => F
  | m + 1 => nextP (rowP F m) F
theorem nextP_len (row F : List PT) : (nextP row F).length = row.length / 2 + F.length := by unfold nextP; rw [putsP_len, putsP_len, pksP_len]; simp; omega
theorem rowP_le (F : List PT) (m : Nat) : (rowP F m).length ≤ 2 * F.length := by
  induction m with
  | zero => show F.length ≤ _; omega
  | succ m ih => rw [rowP, nextP_len]; omega
theorem rowP_len (F : List PT) (G : List (Int × Int)) (h : F.length = G.length) (m : Nat) : (rowP F m).length = (rowW G m).length := by
  induction m with
  | zero => exact h
  | succ m ih => rw [rowP, nextP_len, rowW_len, ih, h]; omega
theorem GoodP.up {m : Nat} {n : Int} {x : PT} (h : GoodP 0 n x) : GoodP m n x := by
  obtain ⟨h1, h2, h3, h4⟩ := h
  have p1 : (0 : Int) < 2 ^ m := Int.pow_pos (by omega)
  have p2 : 1 ≤ 2 ^ m := Nat.one_le_two_pow
  refine ⟨h1, ?_, ?_, h4⟩
  · generalize (2 : Int) ^ m = z at *; simp at h2; omega
  · generalize (2 : Nat) ^ m = z at *; simp at h3; omega
theorem rowP_good (F : List PT) (n : Int) (hF : ∀ x ∈ F, GoodP 0 n x) (m : Nat) : ∀ x ∈ rowP F m, GoodP m n x := by
  induction m with
  | zero => exact hF
  | succ m ih =>
    intro x hx
    rcases putsP_mem _ _ hx with h | h
    · exact (hF x h).up
    · rcases putsP_mem _ _ h with h | h
      · obtain ⟨a, ha, b, hb, rfl⟩ := pksP_mem _ h
        obtain ⟨a1, a2, a3, a4⟩ := ih a ha
        obtain ⟨b1, b2, b3, b4⟩ := ih b hb
        refine ⟨by dsimp only; omega, ?_, ?_, fun s hs => ?_⟩
        · rw [Int.pow_succ]; dsimp only; omega
        · rw [Nat.pow_succ, List.length_append]; omega
        · rcases List.mem_append.1 hs with h | h
          · exact a4 s h
          · exact b4 s h
      · simp at h
theorem firstP_good (l : List Int) (hb : l.any badN = false) (k : Nat) (hk : k ≤ l.length) : ∀ x ∈ firstP l k, GoodP 0 (l.length : Int) x := by
  induction k with
  | zero => intro x hx; simp [firstP] at hx
  | succ k ih =>
    intro x hx
    rw [firstP, List.getElem?_eq_getElem (show k < l.length by omega), Option.getD_some] at hx
    split at hx
    · rename_i hp
      rcases putP_mem hx with rfl | hx
      · have := (List.any_eq_false.1 hb) _ (List.getElem_mem (show k < l.length by omega))
        simp [badN] at this
        refine ⟨by dsimp only; omega, by simp; omega, by simp, fun s hs => ?_⟩
        simp at hs
        subst hs
        omega
      · exact ih (by omega) x hx
    · exact ih (by omega) x hx
def incL (L : List Int) (s : Int) : List Int := L.set s.toNat (L[s.toNat]?.getD 0 + 1)
def sumsP (ts : List PT) (L : List Int) : List Int := ts.foldl (fun L t => t.2.1.foldl incL L) L
theorem sumsP_snoc (ts : List PT) (i : Nat) (h : i < ts.length) (L : List Int) : sumsP (ts.take (i + 1)) L = ts[i].2.1.foldl incL (sumsP (ts.take i) L) := by
  unfold sumsP
  rw [List.take_succ_eq_append_getElem h, List.foldl_append]
  rfl
theorem incs_snoc (s : List Int) (k : Nat) (h : k < s.length) (L : List Int) : (s.take (k + 1)).foldl incL L = incL ((s.take k).foldl incL L) s[k] := by
  rw [List.take_succ_eq_append_getElem h, List.foldl_append]
  rfl
theorem incs_len (s : List Int) : ∀ L : List Int, (s.foldl incL L).length = L.length := by
  induction s with
  | nil => intro L; rfl
  | cons x s ih => intro L; rw [List.foldl_cons, ih]; simp [incL]
theorem sumsP_len (ts : List PT) : ∀ L : List Int, (sumsP ts L).length = L.length := by
  induction ts with
  | nil => intro L; rfl
  | cons t ts ih => intro L; show (sumsP ts (t.2.1.foldl incL L)).length = _; rw [ih, incs_len]
theorem pow2_15 {k : Nat} (h : k ≤ 15) : (2 : Nat) ^ k ≤ 32768 := Nat.pow_le_pow_right (n := 2) (by omega) h
set_option maxRecDepth 100000 in
set_option maxHeartbeats 16000000 in
/-- What is taken of the last row. -/
theorem refBest_many (A : Option Addr) (n c : Nat) (l : List Int) (most : Int) (w : World) (h : Rd w w.heap.size 1 A n (ints l)) (hv : refuseW l most = 0) (hf2 : ¬ usedL l < 2) :
    Calls Try.prog 9 #[.slice A n c, .int .i64 most] w fun e w' => ∃ g, w.heap.size ≤ g ∧ g < w'.heap.size ∧ e = .returned (.tuple #[.slice (some ⟨g, 0, none⟩) n n, .int .i64 0]) ∧ Blk w' g 3 (ints (sumsP ((rowP (firstP l l.length) (most.toNat - 1)).take (2 * usedL l - 2)) (List.replicate n 0))).toArray ∧ Below w.heap.size w w' := by
  have hl : l.length = n := rd_len h
  obtain ⟨hl257, hm1, hm15, hbad, hroom⟩ := refuseW_ok hv
  have hn : n ≤ 257 := by omega
  have HGF := Lib.hid (show ∀ x ∈ firstP l l.length, GoodP 0 (n : Int) x from fun x hx => by have := firstP_good l hbad l.length (Nat.le_refl _) x hx; rw [hl] at this; exact this)
  have HFL := Lib.hid (show (firstP l l.length).length = usedL l by rw [firstP_len l _ (Nat.le_refl _), List.take_length])
  have HRR := Lib.hid (show ∀ m, (rowP (firstP l l.length) m).length = (rowW (lvs l) m).length from fun m => rowP_len _ _ (by rw [HFL.out, lvs_len]) m)
  have HRM0 := Lib.hid (rowW_room (lvs l) most.toNat (by rw [lvs_len]; exact hroom))
  have HLV := Lib.hid (lvs_len l)
  have HBAD := Lib.hid hbad
  have CF := fun w (h : Rd w w.heap.size 1 A n (ints l)) => first_any A n c l w h (by omega)
  have hu1 := usedL_le l
  have HLN := Lib.hid hl
  obtain ⟨F, hF⟩ : ∃ F, firstP l l.length = F := ⟨_, rfl⟩
  obtain ⟨f, hf⟩ : ∃ f, usedL l = f := ⟨_, rfl⟩
  rw [hF] at HGF HFL HRR CF
  rw [hf] at HFL CF hu1 hroom hf2 HLV
  rw [hF, hf]
  obtain ⟨mm, rfl⟩ : ∃ mm : Nat, most = ((mm + 1 : Nat) : Int) := ⟨(most - 1).toNat, by omega⟩
  rw [Int.toNat_natCast] at HRM0 hroom ⊢
  rw [Nat.add_sub_cancel]
  have hmm : mm ≤ 14 := by omega
  obtain ⟨z, hz⟩ : ∃ z, 2 ^ (mm + 1) = z := ⟨_, rfl⟩
  have CPW := power_any (mm + 1) (by omega)
  rw [hz] at hroom
  have CPW2 := fun w => CPW w z hz
  have hfz : ¬ (z : Int) < (f : Int) := by omega
  have HRM := Lib.hid (show 2 * f ≤ (rowP F mm).length + 2 by
    have h1 := HRM0.out mm (by omega)
    rw [HLV.out, show mm + 1 - mm = 1 by omega] at h1
    rw [HRR.out]
    omega)
  have hf1 : ¬ (f : Int) = 1 := by omega
  have hf1b : ((f : Int) == 1) = false := by simp; omega
  have hf2I : ¬ (f : Int) < 2 := by omega
  have hfn : f ≤ 257 := by omega
  have hd1 : decide ((mm : Int) + 1 < 1) = false := by simp; omega
  have hd2 : decide ((15 : Int) < (mm : Int) + 1) = false := by simp; omega
  have hd3 : decide ((z : Int) < (f : Int)) = false := by simp; omega
  have hd4 : decide (z < f) = false := by simp; omega
  have hd5 : decide ((f : Int) < 2) = false := by simp; omega
  have hd6 : decide (f < 2) = false := by simp; omega
  have hd7 : decide ((f : Int) = 1) = false := by simp; omega
  have hF1 : ¬ ((n : Int) > 257) := by omega
  have hn0 : l.length ≤ n := by omega
  have hn0' : n ≤ l.length := by omega
  obtain ⟨q2, hq2⟩ : ∃ q2, 2 * f - 2 = q2 := ⟨_, rfl⟩
  obtain ⟨R, hRR⟩ : ∃ R, rowP F mm = R := ⟨_, rfl⟩
  rw [hq2, hRR]
  have HQ2 := Lib.hid hq2
  have HRQ := Lib.hid hRR
  clear hF hf hz CPW HRM0 HRR HLV hv hbad hroom hl hq2 hRR
  go_enter Try.func9, Try.ntmps9
  go_wp2_with fail
  go_loopw [6] (fun s wr => ∃ k : Nat, s = .int .i64 k ∧ k ≤ n ∧ wr = w) (fun s _ => n - (intOf s).toNat)
  case atStart => exact ⟨0, rfl, by omega, rfl⟩
  case round =>
    obtain ⟨k, rfl, hk, rfl⟩ := hrel
    by_cases hlt : k < n
    · have hkl : k < l.length := by omega
      obtain ⟨b, o, rfl, hb, hc⟩ := rd_ints h (by omega)
      have d0 : wr.cell? ⟨b, o + k, none⟩ = some (.int .i64 l[k]) := hc k hkl
      have hx2 := (List.any_eq_false.1 HBAD.out) _ (List.getElem_mem hkl)
      simp only [badN, Bool.or_eq_true, decide_eq_true_eq, not_or] at hx2
      obtain ⟨x, hx⟩ : ∃ x, l[k] = x := ⟨_, rfl⟩
      rw [hx] at d0 hx2
      have hx3 : ¬ x < 0 := hx2.1
      have hx4 : ¬ 1000000 < x := hx2.2
      have hkI : (k : Int) < (n : Int) := by omega
      have hk0 : (0 : Int) ≤ (k : Int) := by omega
      have hadd : IntKind.i64.wrap ((k : Int) + 1) = (k : Int) + 1 := w64k (by omega) (by omega)
      clear hc hx hx2
      go_wp2_with fail
      go_roundw
      case rel => exact ⟨k + 1, by go_num, by omega, by first | rfl | trivial⟩
      case measure => simp [intOf]; omega
    · have hkI : ¬ (k : Int) < (n : Int) := by omega
      go_wp2_with fail
      refine (CF _ h).mono ?_
      rintro e w1 ⟨A2, c2, ts, rfl, R1, hT, hb1⟩
      have h1 := h.below hb1
      have hz1 := hb1.size
      clear CF h
      go_wp2_with fail
      refine (CPW2 _).mono ?_
      rintro e w2 ⟨rfl, rfl⟩
      have hmk : (Instr.makeSlice 22 (.int .i64 n) (.int .i64 n)).run Try.prog w2 = .ok (.slice (some ⟨w2.heap.size, 0, none⟩) n n) (w2.alloc (.cells (madeCells #[.int .i64 0] n) 3)) :=
        run_make_row' 22 3 (.int .i64 0) 8 Try.underlying22 (by kernel_rfl) rfl .i64 .i64 n (by omega) (by omega) w2
      rw [made_ints] at hmk
      have bg := Blk.new w2 3 (ints (List.replicate n 0)).toArray
      have hbW := hb1.alloc hz1 (.cells (ints (List.replicate n 0)).toArray 3)
      go_wp2_with fail
      clear hmk
      obtain ⟨W, hW⟩ : ∃ W, w2.alloc (.cells (ints (List.replicate n 0)).toArray 3) = W := ⟨_, rfl⟩
      have hWs : W.heap.size = w2.heap.size + 1 := by rw [← hW]; simp
      have R2 : RowX (fun k => k ≠ w2.heap.size) W A2 f c2 ts := by
        have q := (R1.turn (Y := fun k => k ≠ w2.heap.size) (fun k hk _ => by omega)).below ((Below.refl _ _).alloc (Nat.le_refl _) (.cells (ints (List.replicate n 0)).toArray 3))
        rw [hW] at q
        exact q
      rw [hW] at bg hbW ⊢
      obtain ⟨g, hg⟩ : ∃ g, w2.heap.size = g := ⟨_, rfl⟩
      rw [hg] at bg hWs hz1 R2 ⊢
      have HT := Lib.hid hT
      clear h1 hb1 hW hg R1 CPW2 hT
      have hX : ∀ V : World, W.heap.size ≤ V.heap.size → ∀ k, V.heap.size ≤ k → k ≠ g := fun V h1 k h2 => by omega
      obtain ⟨V0, hV0⟩ : ∃ V, V = wr := ⟨wr, rfl⟩
      subst hV0
      go_loopw [9, 10] (fun s r wr' => ∃ (q n3 c3 : Nat) (A3 : Option Addr) (ts3 : List TT), r = .int .i64 ((q + 1 : Nat) : Int) ∧ s = .slice A3 n3 c3 ∧ q ≤ mm ∧ RowX (fun k => k ≠ g) wr' A3 n3 c3 ts3 ∧ ts3.map TT.abs = rowP F q ∧ RowX (fun k => k ≠ g) wr' A2 f c2 ts ∧ Blk wr' g 3 (ints (List.replicate n 0)).toArray ∧ Below V0.heap.size V0 wr' ∧ W.heap.size ≤ wr'.heap.size) (fun _ r _ => mm + 1 - (intOf r).toNat)
      case atStart => exact ⟨0, f, c2, A2, ts, rfl, rfl, by omega, R2, HT.out, R2, bg, hbW, Nat.le_refl _⟩
      case round =>
        clear R2 bg hbW
        obtain ⟨q, n3, c3, A3, ts3, rfl, rfl, hq, R3, hT3, R2, bg, HB, hzW⟩ := hrel
        obtain ⟨V1, hV1⟩ : ∃ V, V = wr := ⟨wr, rfl⟩
        subst hV1
        have HT3 := Lib.hid hT3
        have hn3 : n3 ≤ 600 := by
          have e := congrArg List.length hT3
          rw [List.length_map, rd_tlen R3.rd] at e
          have := rowP_le F q
          rw [HFL.out] at this
          omega
        have HN3 := Lib.hid (show (rowP F q).length = n3 by rw [← hT3, List.length_map, rd_tlen R3.rd])
        clear hT3
        have hsz := HB.size
        by_cases hlt2 : q < mm
        · have hqI : ((q + 1 : Nat) : Int) < (mm : Int) + 1 := by omega
          have hqI2 : (q : Int) < (mm : Int) := by omega
          have hadd : IntKind.i64.wrap ((q : Int) + 1 + 1) = (q : Int) + 1 + 1 := w64k (by omega) (by omega)
          have HG := Lib.hid (rowP_good F n HGF.out q)
          have C := next_any (fun k => k ≠ g) A3 n3 c3 ts3 A2 f c2 ts V1 (1000000 * 2 ^ q) (2 ^ q) R3 R2 (hX V1 hzW) hn3 (by omega)
            (fun t ht => by have := HG.out t.abs (by rw [← HT3.out]; exact List.mem_map_of_mem ht); exact ⟨this.w0, this.w1⟩) (pow_small (by omega))
            (fun t ht => (HG.out t.abs (by rw [← HT3.out]; exact List.mem_map_of_mem ht)).sl) (by have := pow2_15 (show q ≤ 15 by omega); omega)
          go_wp2_with fail
          refine C.mono ?_
          rintro e w4 ⟨A4, c4, ts4, rfl, R4, hT4, hb4⟩
          have HT4 := Lib.hid (show ts4.map TT.abs = rowP F (q + 1) by rw [hT4, HT3.out, HT.out]; rfl)
          have R24 := R2.below hb4
          have bg4 := bg.below hb4 (by omega)
          have HB4 := HB.trans (hb4.mono hsz)
          have z4 := hb4.size
          clear hT4 C
          go_wp2_with fail
          go_roundw
          case rel => exact ⟨q + 1, _, c4, A4, ts4, by go_num, rfl, by omega, R4, HT4.out, R24, bg4, HB4, by omega⟩
          case measure => simp [intOf]; omega
        · have hqI : ¬ ((q + 1 : Nat) : Int) < (mm : Int) + 1 := by omega
          have hqI2 : ¬ (q : Int) < (mm : Int) := by omega
          obtain rfl : q = mm := by omega
          have hq3 : q2 + 2 ≤ 2 * f := by have := HQ2.out; omega
          have hq4 : 2 * f ≤ q2 + 2 := by have := HQ2.out; omega
          have hq5 : q2 ≤ n3 := by have h7 := HRM.out; have h8 := HN3.out; omega
          have hw1 : IntKind.i64.wrap (2 * (f : Int)) = 2 * (f : Int) := w64k (by omega) (by omega)
          have hw2 : IntKind.i64.wrap (2 * (f : Int) - 2) = (q2 : Int) := (w64k (by omega) (by omega)).trans (by omega)
          have HG := Lib.hid (rowP_good F n HGF.out q)
          have hRR := HRQ.out
          rw [hRR] at HT3 HN3 HG HRM
          clear hRR R2 hX
          have hgW : g < V1.heap.size := bg.lt
          go_wp2_with fail
          go_loopw [11] (fun s v => ∃ i : Nat, s = .int .i64 i ∧ i ≤ q2 ∧ Blk v g 3 (ints (sumsP (R.take i) (List.replicate n 0))).toArray ∧ (∀ x ∈ sumsP (R.take i) (List.replicate n 0), 0 ≤ x ∧ x ≤ 40000 * (i : Int)) ∧ V1.grownBy v (some g)) (fun s _ => q2 - (intOf s).toNat)
          case atStart => exact ⟨0, rfl, by omega, bg, fun x hx => by have := (List.mem_replicate.1 hx).2; omega, World.grownBy.refl _ _⟩
          case round =>
            clear bg
            obtain ⟨i, rfl, hi, b3, hbd, hgr⟩ := hrel
            have HBD := Lib.hid hbd
            clear hbd
            by_cases hlt3 : i < q2
            · have hiI : (i : Int) < (q2 : Int) := by omega
              have hi0 : (0 : Int) ≤ (i : Int) := by omega
              have hin3 : (i : Int) < (n3 : Int) := by omega
              have hadd : IntKind.i64.wrap ((i : Int) + 1) = (i : Int) + 1 := w64k (by omega) (by omega)
              have hlT := rd_tlen R3.rd
              have hil : i < ts3.length := by omega
              have hiR : i < R.length := by rw [HN3.out]; omega
              have HSN := Lib.hid (sumsP_snoc R i hiR (List.replicate n 0))
              obtain ⟨t, ht⟩ : ∃ t, ts3[i] = t := ⟨_, rfl⟩
              have hRt : R[i] = t.abs := by
                have : (ts3.map TT.abs)[i]'(by rw [List.length_map]; exact hil) = R[i] := by simp only [HT3.out]
                rw [← this, List.getElem_map, ht]
              have hgd := HG.out _ (List.getElem_mem hiR)
              rw [hRt] at HSN hgd
              have hsl2 : t.s.length ≤ 32768 := Nat.le_trans hgd.sl (pow2_15 (by omega))
              have HSY := Lib.hid (show ∀ s ∈ t.s, 0 ≤ s ∧ s < (n : Int) from hgd.sy)
              have HS3 := Lib.hid (fun (v : World) (hv : V1.grownBy v (some g)) => (R3.grown hv (fun k hk => hk)).sym t (by rw [← ht]; exact List.getElem_mem hil))
              have RR := R3.grown hgr (fun k hk => hk)
              obtain ⟨rb, ro, rfl, hrb, hrc⟩ := rd_tcells R3.rd (by omega)
              have HD := Lib.hid (fun (v : World) (hv : V1.grownBy v (some g)) => show v.cell? ⟨rb, ro + i * 3 + 1, none⟩ = some (.slice t.A t.n t.c) by
                have q := R3.grown hv (fun k hk => hk)
                obtain ⟨rb', ro', e', _, hrc'⟩ := rd_tcells q.rd (by omega)
                simp only [Option.some.injEq, Addr.mk.injEq, and_true] at e'
                obtain ⟨rfl, rfl⟩ := e'
                have := (hrc' i hil).2.1
                rw [ht] at this
                exact this)
              obtain ⟨tw, tA, tn, tc, tl, tsy⟩ := t
              dsimp only at hsl2 HSY HD HSN
              have HS4 := Lib.hid (fun (v : World) (hv : V1.grownBy v (some g)) => show Rd v v.heap.size 1 tA tn (ints tsy) from (HS3.out v hv).rd)
              have hsn := rd_len (HS4.out _ hgr)
              have HSLN := Lib.hid hsn
              have hsn6 : tn ≤ 32768 := by omega
              obtain ⟨L0, hL0⟩ : ∃ L0, sumsP (R.take i) (List.replicate n 0) = L0 := ⟨_, rfl⟩
              have HL0n := Lib.hid (show L0.length = n by rw [← hL0, sumsP_len]; simp)
              rw [hL0] at HSN b3 HBD
              have d0 := HD.out _ hgr
              clear ht hRt hgd HS3 RR hrc hsn hL0 hlT hil hiR
              go_wp2_with fail
              go_loopw [12] (fun s v => ∃ k : Nat, s = .int .i64 k ∧ k ≤ tn ∧ Blk v g 3 (ints ((tsy.take k).foldl incL L0)).toArray ∧ (∀ x ∈ (tsy.take k).foldl incL L0, 0 ≤ x ∧ x ≤ 40000 * (i : Int) + k) ∧ V1.grownBy v (some g)) (fun s _ => tn - (intOf s).toNat)
              case atStart => exact ⟨0, rfl, by omega, b3, fun x hx => by have := HBD.out x hx; omega, hgr⟩
              case round =>
                clear b3 hgr d0
                obtain ⟨k, rfl, hk, b4, hbd, hgr⟩ := hrel
                have HBD2 := Lib.hid hbd
                have d0 := HD.out _ hgr
                have hk0 : (0 : Int) ≤ (k : Int) := by omega
                clear hbd
                by_cases hlt4 : k < tn
                · have hkI : (k : Int) < (tn : Int) := by omega
                  have hkl : k < tsy.length := by have := HSLN.out; omega
                  have hadd3 : IntKind.i64.wrap ((k : Int) + 1) = (k : Int) + 1 := w64k (by omega) (by omega)
                  obtain ⟨sb, so, rfl, hsb, hsc⟩ := rd_ints (HS4.out _ hgr) (by omega)
                  have d1 := hsc k hkl
                  have hsy := HSY.out _ (List.getElem_mem hkl)
                  have HIN := Lib.hid (incs_snoc tsy k hkl L0)
                  obtain ⟨x, hx⟩ : ∃ x, tsy[k] = x := ⟨_, rfl⟩
                  rw [hx] at d1 hsy HIN
                  obtain ⟨y, rfl⟩ := Int.eq_ofNat_of_zero_le hsy.1
                  have hyn : (y : Int) < (n : Int) := hsy.2
                  obtain ⟨L2, hL2⟩ : ∃ L2, (tsy.take k).foldl incL L0 = L2 := ⟨_, rfl⟩
                  have hL2n : L2.length = n := by rw [← hL2, incs_len, HL0n.out]
                  have hyl : y < L2.length := by omega
                  rw [hL2] at b4 HBD2 HIN
                  have hu := HBD2.out _ (List.getElem_mem hyl)
                  obtain ⟨u, hue⟩ : ∃ u, L2[y] = u := ⟨_, rfl⟩
                  rw [hue] at hu
                  have hu1 : IntKind.i64.wrap (u + 1) = u + 1 := w64k (by omega) (by omega)
                  have e5 := b4.cell_ y (v := .int .i64 u) (by simp [ints, List.getElem?_eq_getElem hyl, hue])
                  have f5 := b4.frozen y
                  have HFF := Lib.hid (show L2.set y (u + 1) = (tsy.take (k + 1)).foldl incL L0 by rw [HIN.out, incL, Int.toNat_natCast, List.getElem?_eq_getElem hyl, hue]; rfl)
                  have B4 := Lib.hid b4
                  clear hsc hx hsy hL2 hL2n hyl hue b4
                  go_wp2_with fail
                  go_roundw
                  case rel =>
                    refine ⟨k + 1, by go_num, by omega, blk_eq (B4.out.set y _) (by rw [ints_set, HFF.out]), fun x hx => ?_, grown_set hgr _⟩
                    rw [← HFF.out] at hx
                    rcases List.mem_or_eq_of_mem_set hx with h | h
                    · have := HBD2.out x h; omega
                    · omega
                  case measure => simp [intOf]; omega
                · have hkI : ¬ (k : Int) < (tn : Int) := by omega
                  obtain rfl : k = tn := by omega
                  have HE := Lib.hid (show (tsy.take k).foldl incL L0 = sumsP (R.take (i + 1)) (List.replicate n 0) by rw [HSN.out, List.take_of_length_le (Nat.le_of_eq HSLN.out)]; rfl)
                  rw [HE.out] at b4 HBD2
                  go_wp2_with fail
                  go_roundw
                  case rel => exact ⟨i + 1, by go_num, by omega, b4, fun x hx => by have := HBD2.out x hx; omega, hgr⟩
                  case measure => simp [intOf]; omega
            · have hiI : ¬ (i : Int) < (q2 : Int) := by omega
              obtain rfl : i = q2 := by omega
              have HB3 := Below.grown HB hgr hsz (fun k hk => by simp at hk; omega)
              have z3 := hgr.size
              go_wp2_with fail
              go_ret2
              exact ⟨g, hz1, by omega, rfl, b3, HB3⟩
end LenW
end Go.Proofs.Ytpnccehaomikbaa
