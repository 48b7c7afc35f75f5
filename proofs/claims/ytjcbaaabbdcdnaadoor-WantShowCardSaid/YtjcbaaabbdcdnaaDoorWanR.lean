/- The walk of the reference of package want: Parse. -/
import Derived.Test.YtjcbaaabbdcdnaaDoorWanQ
import Derived.Deep.DeepCutAuto
namespace Go.Proofs.YtjcbaaabbdcdnaaDoor
set_option linter.unusedVariables false
set_option linter.unusedSimpArgs false
set_option linter.unnecessarySimpa false
open Go.RowKit Go.Maps
namespace WanW
open SkpW (Qy qv qc chkQ)

def saidC (f : Nat → Bool) : Array Value := #[.bool (f 0), .bool (f 1), .bool (f 2), .bool (f 3), .bool (f 4), .bool (f 5)]
theorem saidC_at (f : Nat → Bool) (k : Nat) (h : k < 6) : (saidC f)[k]? = some (.bool (f k)) := by
  have : k = 0 ∨ k = 1 ∨ k = 2 ∨ k = 3 ∨ k = 4 ∨ k = 5 := by omega
  rcases this with rfl | rfl | rfl | rfl | rfl | rfl <;> rfl
theorem saidC_set (f : Nat → Bool) (k : Nat) (h : k < 6) : (saidC f).setIfInBounds k (.bool true) = saidC (said f k) := by
  have : k = 0 ∨ k = 1 ∨ k = 2 ∨ k = 3 ∨ k = 4 ∨ k = 5 := by omega
  rcases this with rfl | rfl | rfl | rfl | rfl | rfl <;> simp [saidC, said]
theorem kOf_le (t : List UInt8) : kOf t ≤ 5 := by
  unfold kOf
  have h2 := keyN_cases (bef 61 t)
  split
  · rcases h2 with ⟨e, _⟩ | ⟨e, _⟩ | ⟨e, _⟩ | ⟨e, _⟩ | ⟨e, _⟩ | ⟨e, _⟩ <;> omega
  · omega
/-- The word that lies between two places. -/
theorem bef_word (s : List UInt8) (p i : Nat) (hpi : p ≤ i) (hi : i ≤ s.length) (h0 : ∀ j (h : j < s.length), p ≤ j → j < i → s[j] ≠ 32) (h : ∀ h : i < s.length, s[i] = 32) : bef 32 (s.drop p) = (s.drop p).take (i - p) := by
  by_cases hlt : i < s.length
  · refine (bef_at 32 (s.drop p) (i - p) (by rw [List.length_drop]; omega) (fun j hj => ?_) ?_).1
    · rw [List.getElem_drop]
      exact h0 (p + j) (by omega) (by omega) (by omega)
    · rw [List.getElem_drop]
      have := h hlt
      simp only [show p + (i - p) = i by omega]
      exact this
  · have : (s.drop p).contains 32 = false := by
      refine no_contains 32 _ (fun j hj => ?_)
      rw [List.getElem_drop]
      rw [List.length_drop] at hj
      exact h0 (p + j) (by omega) (by omega) (by omega)
    rw [((bef_aft 32 (s.drop p)).2 this).1, List.take_of_length_le (by rw [List.length_drop]; omega)]
set_option maxRecDepth 100000 in
set_option maxHeartbeats 8000000 in
theorem refParse_any (s : List UInt8) (w : World) (hs : s.length ≤ 100000) (q : Qy) (at' e' : Int) (hv : parseV s = (q, at', e')) :
    Calls Tryd.prog 9 #[str s] w fun e w' => e = .returned (.tuple #[qv q, .int .i64 at', .int .i64 e']) ∧ Below w.heap.size w w' := by
  obtain ⟨S, hS⟩ : ∃ S : ByteArray, (⟨s.toArray⟩ : ByteArray) = S := ⟨_, rfl⟩
  have HS := Lib.hid hS
  have hsz : S.size = s.length := by rw [← hS]; simp [ByteArray.size]
  by_cases h1 : 1000 < s.length
  · have hI : (1000 : Int) < (s.length : Int) := by omega
    rw [parseV, if_pos h1] at hv
    obtain ⟨rfl, hv2⟩ := Prod.mk.inj hv
    obtain ⟨rfl, rfl⟩ := Prod.mk.inj hv2
    have HB := (Below.refl w.heap.size w).alloc (Nat.le_refl _) (.cells (qc zeroQ) 26)
    have G := Blk.new w 26 (qc zeroQ)
    go_enter Tryd.func9, Tryd.ntmps9
    go_wp2_with fail
    refine bodyPost_ret (results_rowB rfl _ _ w.heap.size (qc zeroQ) _ rfl G Tryd.underlying26 rfl (by kernel_rfl)) rfl ?_
    exact ⟨rfl, HB⟩
  · have hI : ¬ (1000 : Int) < (s.length : Int) := by omega
    have B1 := (Below.refl w.heap.size w).alloc (Nat.le_refl _) (.cells (qc zeroQ) 26)
    have G1 := Blk.new w 26 (qc zeroQ)
    obtain ⟨w1, hw1⟩ : ∃ w1, w.alloc (.cells (qc zeroQ) 26) = w1 := ⟨_, rfl⟩
    have z1 : w1.heap.size = w.heap.size + 1 := by rw [← hw1]; simp
    rw [hw1] at B1 G1
    have B2 := B1.alloc (by omega) (.cells (qc allQ) 26)
    have G2 := G1.alloc (.cells (qc allQ) 26)
    have Q2 := Blk.new w1 26 (qc allQ)
    rw [z1] at Q2
    obtain ⟨w2, hw2⟩ : ∃ w2, w1.alloc (.cells (qc allQ) 26) = w2 := ⟨_, rfl⟩
    have z2 : w2.heap.size = w.heap.size + 1 + 1 := by rw [← hw2]; simp [z1]
    rw [hw2] at B2 G2 Q2
    have B3 := B2.alloc (by omega) (.cells (saidC fun _ => false) 51)
    have G3 := G2.alloc (.cells (saidC fun _ => false) 51)
    have Q3 := Q2.alloc (.cells (saidC fun _ => false) 51)
    have M3 := Blk.new w2 51 (saidC fun _ => false)
    rw [z2] at M3
    obtain ⟨w3, hw3⟩ : ∃ w3, w2.alloc (.cells (saidC fun _ => false) 51) = w3 := ⟨_, rfl⟩
    rw [hw3] at B3 G3 M3 Q3
    have hw4 : ((w.alloc (.cells (qc zeroQ) 26)).alloc (.cells (qc allQ) 26)).alloc (.cells (saidC fun _ => false) 51) = w3 := by rw [hw1, hw2, hw3]
    clear hw1 hw2 hw3 z1 z2 G1 G2 B1 B2 Q2
    simp only [qc, allQ, zeroQ, saidC, str] at hw4
    go_enter Tryd.func9, Tryd.ntmps9
    go_wp2_with fail
    clear hw4
    obtain ⟨R, hR⟩ : ∃ R, parseL s.length s 0 (allQ, fun _ => false) = R := ⟨_, rfl⟩
    have HV := Lib.hid (show finV R = (q, at', e') by rw [parseV, if_neg h1, hR] at hv; exact hv)
    have HR0 := Lib.hid (show parseL s.length (s.drop 0) 0 (allQ, fun _ => false) = R by rw [List.drop_zero]; exact hR)
    clear hv hR
    go_loopw [7, 8] (fun o7 o8 wr => ∃ (p i : Nat) (st : St), o7 = .int .i64 (p : Int) ∧ o8 = .int .i64 (i : Int) ∧ p ≤ i ∧ i ≤ s.length + 1 ∧ (p ≤ s.length ∨ i = s.length + 1) ∧ (i ≤ s.length → parseL s.length (s.drop p) p st = R) ∧ (i = s.length + 1 → R = (some st, s.length)) ∧ (∀ j (h : j < s.length), p ≤ j → j < i → s[j] ≠ 32) ∧ Blk wr w.heap.size 26 (qc zeroQ) ∧ Blk wr (w.heap.size + 1) 26 (qc st.1) ∧ Blk wr (w.heap.size + 1 + 1) 51 (saidC st.2) ∧ Below w.heap.size w wr) (fun _ o8 _ => s.length + 1 - (intOf o8).toNat)
    case atStart => exact ⟨0, 0, _, rfl, rfl, by omega, by omega, .inl (by omega), fun _ => HR0.out, fun h => absurd h (by omega), fun j _ _ h => absurd h (by omega), G3, Q3, M3, B3⟩
    case round =>
      obtain ⟨p, i, ⟨q0, f⟩, rfl, rfl, hpi, hi, hpl, hpar, hend, hno, g1, g2, g3, HB⟩ := hrel
      clear G3 M3 B3 Q3
      have HP := Lib.hid hpar
      have HE := Lib.hid hend
      have HNO := Lib.hid hno
      have HPL := Lib.hid hpl
      clear hpar hend hno hpl
      have hzr := HB.size
      have hl3 := g3.lt
      by_cases hle : i ≤ s.length
      · have hiL : (i : Int) ≤ (s.length : Int) := by omega
        have hi0 : (0 : Int) ≤ (i : Int) := by omega
        have hp0 : (0 : Int) ≤ (p : Int) := by omega
        have hpiI : (p : Int) ≤ (i : Int) := by omega
        have hadd : IntKind.i64.wrap ((i : Int) + 1) = (i : Int) + 1 := w64k (by omega) (by omega)
        have hcs : (∃ h : i < s.length, s[i] ≠ 32) ∨ (∀ h : i < s.length, s[i] = 32) := by
          by_cases hlt : i < s.length
          · by_cases he : s[i] = 32
            · exact .inr fun _ => he
            · exact .inl ⟨hlt, he⟩
          · exact .inr fun h => absurd h hlt
        rcases hcs with ⟨hlt, hne⟩ | hsp
        · have hiI : (i : Int) < (s.length : Int) := by omega
          have hkS : i < S.size := by rw [hsz]; exact hlt
          obtain ⟨x, hx⟩ : ∃ x, S[i]'hkS = x := ⟨_, rfl⟩
          have hx2 : s[i] = x := by
            rw [← hx]
            subst hS
            rfl
          obtain ⟨m, hm⟩ : ∃ m : Nat, x.toNat = m := ⟨_, rfl⟩
          have hm32 : ¬ m = 32 := by
            intro e
            apply hne
            rw [hx2]
            exact UInt8.toNat_inj.1 (by rw [hm, e]; rfl)
          have q1 : ((m : Int) == 32) = false := by simp; omega
          have q2 : ((m : Int) != 32) = true := by simp; omega
          have HNE := Lib.hid hne
          clear hne hx2 hm32
          go_wp2_with fail
          go_roundw
          case rel => exact ⟨p, i + 1, (q0, f), rfl, by go_num, by omega, by omega, .inl (by rcases HPL.out with h | h <;> omega), fun _ => HP.out hle, fun h => absurd h (by omega), fun j hj h1 h2 => by
            by_cases e : j = i
            · subst e; exact HNE.out
            · exact HNO.out j hj h1 (by omega), g1, g2, g3, HB⟩
          case measure => simp [intOf]; omega
        · have HSP := Lib.hid hsp
          have hB : ((i : Int) < (s.length : Int)) ∨ ¬ ((i : Int) < (s.length : Int)) := by omega
          have HPA := HP.out hle
          have HPAR := Lib.hid HPA
          clear HPA
          by_cases hpi2 : p < i
          · have hpI : (p : Int) < (i : Int) := by omega
            obtain ⟨tx, htx⟩ : ∃ tx, bef 32 (s.drop p) = tx := ⟨_, rfl⟩
            have hbw := bef_word s p i hpi hle HNO.out HSP.out
            rw [htx] at hbw
            have hplt : p < s.length := by omega
            have hnc : ¬ s[p] = 32 := HNO.out p hplt (Nat.le_refl _) hpi2
            have htl : tx.length = i - p := by rw [hbw, List.length_take, List.length_drop]; omega
            have HY := Lib.hid (fun st' h => (parse_yes s p (q0, f) hplt hnc st' (by rw [htx]; exact h)).1)
            have HN := Lib.hid (fun h => parse_no s p (q0, f) hplt hnc (by rw [htx]; exact h))
            rw [htx] at HY
            have HTL := Lib.hid htl
            have htl2 : tx.length ≤ 2000 := by omega
            have e0 : S.extract p i = ⟨tx.toArray⟩ := by rw [← hS, ext_str, ← hbw]
            have HERR := Lib.hid (show stepW (q0, f) tx = none → q = zeroQ ∧ at' = (p : Int) ∧ e' = 380 from fun hn => by
              have := HV.out
              rw [← HPAR.out, HN.out hn] at this
              obtain ⟨r1, r2⟩ := Prod.mk.inj this
              obtain ⟨r3, r4⟩ := Prod.mk.inj r2
              exact ⟨r1.symm, r3.symm, r4.symm⟩)
            clear hbw hnc htl htx
            have hk5 := kOf_le tx
            obtain ⟨k, hk⟩ : ∃ k, kOf tx = k := ⟨_, rfl⟩
            obtain ⟨v, hvv⟩ : ∃ v, vOf tx = v := ⟨_, rfl⟩
            obtain ⟨ok, hok⟩ : ∃ ok, okW k v = ok := ⟨_, rfl⟩
            obtain ⟨kk, hkk⟩ : ∃ kk : Int, (if ok = true then (k : Int) else 0) = kk := ⟨_, rfl⟩
            have C := fun w => refWord_any q0 tx w htl2
            rw [hk] at hk5
            rw [hk, hvv, hok, hkk] at C
            have HC := Lib.hid C
            have HK := Lib.hid hk
            have HVV := Lib.hid hvv
            have HOK := Lib.hid hok
            have HKK := Lib.hid hkk
            clear C hk hvv hok hkk
            have hlast : ∃ b1 b2 : Bool, True := ⟨true, true, trivial⟩
            clear hlast
            rcases hB with hb | hb
            · have hkS : i < S.size := by rw [hsz]; omega
              have hx2 : S[i]'hkS = 32 := by
                have := HSP.out (by omega)
                rw [← this]
                subst hS
                rfl
              go_upto_region 11 with fail
              go_cut [9, 10] from 18 to 59 (fun p9 p10 wx => ∃ (g9 : Nat) (q9 : Qy), p9 = .pointer (some ⟨g9, 0, none⟩) ∧ p10 = .int .i64 kk ∧ (ok = true → q9 = setW k q0 v) ∧ w.heap.size + 1 + 1 < g9 ∧ Blk wx g9 26 (qc q9) ∧ Blk wx w.heap.size 26 (qc zeroQ) ∧ Blk wx (w.heap.size + 1) 26 (qc q0) ∧ Blk wx (w.heap.size + 1 + 1) 51 (saidC f) ∧ Below w.heap.size w wx)
              case first =>
                refine wp_region_held_drew (S := (fun w' => w'.cell? ⟨w.heap.size + 1, 0, none⟩ = some (.int .i64 q0.s1) ∧ w'.cell? ⟨w.heap.size + 1, 1, none⟩ = some (.int .i64 q0.s2) ∧ w'.cell? ⟨w.heap.size + 1, 2, none⟩ = some (.int .i64 q0.t1) ∧ w'.cell? ⟨w.heap.size + 1, 3, none⟩ = some (.int .i64 q0.t2) ∧ w'.cell? ⟨w.heap.size + 1, 4, none⟩ = some (str q0.find) ∧ w'.cell? ⟨w.heap.size + 1, 5, none⟩ = some (.int .i64 q0.limit) ∧ w'.cell? ⟨w.heap.size + 1, 6, none⟩ = some (.int .i64 q0.frm))) (by kernel_rfl) ?_ (fun hHeld => ?_)
                · replace HB := Below.drew HB; replace g1 := Blk.drew g1; replace g2 := Blk.drew g2; replace g3 := Blk.drew g3; (try dsimp only); exact SkpW.blk7 g2
                replace HB := Below.drew HB
                replace g1 := Blk.drew g1
                replace g2 := Blk.drew g2
                replace g3 := Blk.drew g3
                have zHB := HB.size
                refine take_op (v := ?vu1x0) 0 (Op.load 26 (Operand.tmp 5)) 26 rfl rfl rfl rfl rfl (by kernel_rfl) (by kernel_rfl) (by kernel_rfl) (fun _ _ _ h => h) ?yu1x0 (by assumption) ?ru1x0
                case yu1x0 => (intro w' hSw; (try dsimp only at hSw); go_simp; try (with_reducible rfl))
                simp only [List.setIfInBounds_toArray, List.set_cons_zero, List.set_cons_succ]
                refine take_movev (v := ?vu1x1) 1 (Operand.tmp 0) rfl rfl (by first | exact .inl rfl | exact .inr rfl) rfl (by kernel_rfl) (by kernel_rfl) (by kernel_rfl) (fun _ _ _ h => h) (by assumption) ?yu1x1 ?ru1x1
                case yu1x1 => (go_simp; try (with_reducible rfl))
                simp only [List.setIfInBounds_toArray, List.set_cons_zero, List.set_cons_succ]
                refine take_movev (v := ?vu1x2) 2 (Operand.tmp 7) rfl rfl (by first | exact .inl rfl | exact .inr rfl) rfl (by kernel_rfl) (by kernel_rfl) (by kernel_rfl) (fun _ _ _ h => h) (by assumption) ?yu1x2 ?ru1x2
                case yu1x2 => (go_simp; try (with_reducible rfl))
                simp only [List.setIfInBounds_toArray, List.set_cons_zero, List.set_cons_succ]
                refine take_movev (v := ?vu1x3) 3 (Operand.tmp 8) rfl rfl (by first | exact .inl rfl | exact .inr rfl) rfl (by kernel_rfl) (by kernel_rfl) (by kernel_rfl) (fun _ _ _ h => h) (by assumption) ?yu1x3 ?ru1x3
                case yu1x3 => (go_simp; try (with_reducible rfl))
                simp only [List.setIfInBounds_toArray, List.set_cons_zero, List.set_cons_succ]
                refine take_op (v := ?vu1x4) 4 (Op.slice 9 (Operand.tmp 39) (some (Operand.tmp 40)) (some (Operand.tmp 41)) none) 9 rfl rfl rfl rfl rfl (by kernel_rfl) (by kernel_rfl) (by kernel_rfl) (fun _ _ _ h => h) ?yu1x4 (by assumption) ?ru1x4
                case yu1x4 => (intro w' hSw; (try dsimp only at hSw); go_simp; try (with_reducible rfl))
                simp only [List.setIfInBounds_toArray, List.set_cons_zero, List.set_cons_succ]
                refine wpAnyH_ready (rs := [5, 9]) (by kernel_rfl) (by simp) (AllReadyH.cons rfl (fun K5 hK5 => ?ku1x5) (AllReadyH.cons rfl (fun K9 hK9 => ?ku1x9) AllReadyH.nil))
                case ku1x5 =>
                  refine take_calls 5 21 [Operand.tmp 38, Operand.tmp 42] #[26, 9] rfl rfl (by kernel_rfl) (fun args w => run_enter Tryd.func21 (by kernel_rfl) rfl args w) ?_
                  refine (HC.out _).mono ?_
                  rintro e w5 ⟨q5, rfl, hok5, hb5⟩
                  refine ⟨_, rfl, ?_⟩
                  have z5 := hb5.size
                  try simp only [World.size_drew] at z5
                  replace HB := HB.trans (hb5.mono (by first | exact HB.size | omega))
                  have zHB5 := HB.size
                  replace g1 := Blk.below g1 hb5 (by first | exact Nat.le_refl _ | (simp only [World.size_alloc, World.size_setCell, World.size_drew] at *; omega) | omega)
                  replace g2 := Blk.below g2 hb5 (by first | exact Nat.le_refl _ | (simp only [World.size_alloc, World.size_setCell, World.size_drew] at *; omega) | omega)
                  replace g3 := Blk.below g3 hb5 (by first | exact Nat.le_refl _ | (simp only [World.size_alloc, World.size_setCell, World.size_drew] at *; omega) | omega)
                  refine hK5.out _ _ ?su1xb1x5 (fun hHeld => ?ru1xb1x5)
                  case su1xb1x5 => ((try dsimp only); exact SkpW.blk7 g2)
                  try simp only [List.setIfInBounds_toArray, List.set_cons_zero, List.set_cons_succ]
                  refine take_movev (v := ?vu1xb1x6) 6 (Operand.tmp 43) rfl rfl (by first | exact .inl rfl | exact .inr rfl) rfl (by kernel_rfl) (by kernel_rfl) (by kernel_rfl) (fun _ _ _ h => h) (by assumption) ?yu1xb1x6 ?ru1xb1x6
                  case yu1xb1x6 => (go_simp; try (with_reducible rfl))
                  simp only [List.setIfInBounds_toArray, List.set_cons_zero, List.set_cons_succ]
                  refine take_op (v := ?vu1xb1x7) 7 (Op.extract (Operand.tmp 37) 0) 26 rfl rfl rfl rfl rfl (by kernel_rfl) (by kernel_rfl) (by kernel_rfl) (fun _ _ _ h => h) ?yu1xb1x7 (by assumption) ?ru1xb1x7
                  case yu1xb1x7 => (intro w' hSw; (try dsimp only at hSw); go_simp; try (with_reducible rfl))
                  simp only [List.setIfInBounds_toArray, List.set_cons_zero, List.set_cons_succ]
                  refine take_op (v := ?vu1xb1x8) 8 (Op.extract (Operand.tmp 37) 1) 3 rfl rfl rfl rfl rfl (by kernel_rfl) (by kernel_rfl) (by kernel_rfl) (fun _ _ _ h => h) ?yu1xb1x8 (by assumption) ?ru1xb1x8
                  case yu1xb1x8 => (intro w' hSw; (try dsimp only at hSw); go_simp; try (with_reducible rfl))
                  simp only [List.setIfInBounds_toArray, List.set_cons_zero, List.set_cons_succ]
                  refine wpAnyH_ready (rs := [9]) (by kernel_rfl) (by simp) (AllReadyH.cons rfl (fun K9 hK9 => ?ku1xb1x9) AllReadyH.nil)
                  refine take_new (t := 26) (cs := qc zeroQ) 9 (Op.alloc 26) 0 rfl rfl rfl (by kernel_rfl) ?eu1xb1x9 ?_
                  case eu1xb1x9 => (go_simp; try (first | with_reducible rfl | rfl))
                  intro g9 w9 b9 gr9 l9 m9
                  have z9 := gr9.size
                  try simp only [World.size_drew] at z9
                  try simp only [World.size_drew, World.size_alloc] at l9
                  replace HB := below_grow HB gr9
                  have zHB9 := HB.size
                  replace g1 := Blk.grow0 g1 gr9
                  replace g2 := Blk.grow0 g2 gr9
                  replace g3 := Blk.grow0 g3 gr9
                  refine hK9.out _ _ ?su1xb1x9 (fun hHeld => ?ru1xb1x9)
                  case su1xb1x9 => ((try dsimp only); exact SkpW.blk7 g2)
                  try simp only [List.setIfInBounds_toArray, List.set_cons_zero, List.set_cons_succ]
                  refine wpAnyH_ready (rs := [10]) (by kernel_rfl) (by simp) (AllReadyH.cons rfl (fun K10 hK10 => ?ku1xb1x10) AllReadyH.nil)
                  refine take_store 10 (Op.store 26 (Operand.tmp 9) (Operand.tmp 44)) 0 rfl rfl rfl (by kernel_rfl) (w' := (((((((w9.setCell ⟨g9, 0, none⟩ (.int .i64 q5.s1)).setCell ⟨g9, 1, none⟩ (.int .i64 q5.s2)).setCell ⟨g9, 2, none⟩ (.int .i64 q5.t1)).setCell ⟨g9, 3, none⟩ (.int .i64 q5.t2)).setCell ⟨g9, 4, none⟩ (str q5.find)).setCell ⟨g9, 5, none⟩ (.int .i64 q5.limit)).setCell ⟨g9, 6, none⟩ (.int .i64 q5.frm))) (by obtain ⟨k0, k1, k2, k3, k4, k5, k6, f0, f1, f2, f3, f4, f5, f6⟩ := blk7f b9; go_simp; try (with_reducible rfl)) ?_
                  refine hK10.out _ _ (SkpW.blk7 (((((((g2.far (p := ⟨g9, 0, none⟩) (by dsimp only; omega) (.int .i64 q5.s1)).far (p := ⟨g9, 1, none⟩) (by dsimp only; omega) (.int .i64 q5.s2)).far (p := ⟨g9, 2, none⟩) (by dsimp only; omega) (.int .i64 q5.t1)).far (p := ⟨g9, 3, none⟩) (by dsimp only; omega) (.int .i64 q5.t2)).far (p := ⟨g9, 4, none⟩) (by dsimp only; omega) (str q5.find)).far (p := ⟨g9, 5, none⟩) (by dsimp only; omega) (.int .i64 q5.limit)).far (p := ⟨g9, 6, none⟩) (by dsimp only; omega) (.int .i64 q5.frm))) (fun hHeld => ?_)
                  replace b9 := (((((((b9.set 0 (.int .i64 q5.s1)).set 1 (.int .i64 q5.s2)).set 2 (.int .i64 q5.t1)).set 3 (.int .i64 q5.t2)).set 4 (str q5.find)).set 5 (.int .i64 q5.limit)).set 6 (.int .i64 q5.frm))
                  replace g1 := (((((((g1.far (p := ⟨g9, 0, none⟩) (by dsimp only; omega) (.int .i64 q5.s1)).far (p := ⟨g9, 1, none⟩) (by dsimp only; omega) (.int .i64 q5.s2)).far (p := ⟨g9, 2, none⟩) (by dsimp only; omega) (.int .i64 q5.t1)).far (p := ⟨g9, 3, none⟩) (by dsimp only; omega) (.int .i64 q5.t2)).far (p := ⟨g9, 4, none⟩) (by dsimp only; omega) (str q5.find)).far (p := ⟨g9, 5, none⟩) (by dsimp only; omega) (.int .i64 q5.limit)).far (p := ⟨g9, 6, none⟩) (by dsimp only; omega) (.int .i64 q5.frm))
                  replace g2 := (((((((g2.far (p := ⟨g9, 0, none⟩) (by dsimp only; omega) (.int .i64 q5.s1)).far (p := ⟨g9, 1, none⟩) (by dsimp only; omega) (.int .i64 q5.s2)).far (p := ⟨g9, 2, none⟩) (by dsimp only; omega) (.int .i64 q5.t1)).far (p := ⟨g9, 3, none⟩) (by dsimp only; omega) (.int .i64 q5.t2)).far (p := ⟨g9, 4, none⟩) (by dsimp only; omega) (str q5.find)).far (p := ⟨g9, 5, none⟩) (by dsimp only; omega) (.int .i64 q5.limit)).far (p := ⟨g9, 6, none⟩) (by dsimp only; omega) (.int .i64 q5.frm))
                  replace g3 := (((((((g3.far (p := ⟨g9, 0, none⟩) (by dsimp only; omega) (.int .i64 q5.s1)).far (p := ⟨g9, 1, none⟩) (by dsimp only; omega) (.int .i64 q5.s2)).far (p := ⟨g9, 2, none⟩) (by dsimp only; omega) (.int .i64 q5.t1)).far (p := ⟨g9, 3, none⟩) (by dsimp only; omega) (.int .i64 q5.t2)).far (p := ⟨g9, 4, none⟩) (by dsimp only; omega) (str q5.find)).far (p := ⟨g9, 5, none⟩) (by dsimp only; omega) (.int .i64 q5.limit)).far (p := ⟨g9, 6, none⟩) (by dsimp only; omega) (.int .i64 q5.frm))
                  replace HB := (((((((HB.setCell (p := ⟨g9, 0, none⟩) (by dsimp only; omega) (.int .i64 q5.s1)).setCell (p := ⟨g9, 1, none⟩) (by dsimp only; omega) (.int .i64 q5.s2)).setCell (p := ⟨g9, 2, none⟩) (by dsimp only; omega) (.int .i64 q5.t1)).setCell (p := ⟨g9, 3, none⟩) (by dsimp only; omega) (.int .i64 q5.t2)).setCell (p := ⟨g9, 4, none⟩) (by dsimp only; omega) (str q5.find)).setCell (p := ⟨g9, 5, none⟩) (by dsimp only; omega) (.int .i64 q5.limit)).setCell (p := ⟨g9, 6, none⟩) (by dsimp only; omega) (.int .i64 q5.frm))
                  refine take_op (v := ?vu1xb1x11) 11 (Op.assign (Operand.tmp 45)) 3 rfl rfl rfl rfl rfl (by kernel_rfl) (by kernel_rfl) (by kernel_rfl) (fun _ _ _ h => h) ?yu1xb1x11 (by assumption) ?ru1xb1x11
                  case yu1xb1x11 => (intro w' hSw; (try dsimp only at hSw); go_simp; try (with_reducible rfl))
                  simp only [List.setIfInBounds_toArray, List.set_cons_zero, List.set_cons_succ]
                  refine wpAnyH_done (by kernel_rfl) ?_ _
                  go_wp2_with fail
                  go_meet
                  case rel => exact ⟨g9, q5, rfl, rfl, hok5, by omega, b9, g1, g2, g3, HB⟩
                case ku1x9 =>
                  refine take_new (t := 26) (cs := qc zeroQ) 9 (Op.alloc 26) 0 rfl rfl rfl (by kernel_rfl) ?eu1xb4x9 ?_
                  case eu1xb4x9 => (go_simp; try (first | with_reducible rfl | rfl))
                  intro g9 w9 b9 gr9 l9 m9
                  have z9 := gr9.size
                  try simp only [World.size_drew] at z9
                  try simp only [World.size_drew, World.size_alloc] at l9
                  replace HB := below_grow HB gr9
                  have zHB9 := HB.size
                  replace g1 := Blk.grow0 g1 gr9
                  replace g2 := Blk.grow0 g2 gr9
                  replace g3 := Blk.grow0 g3 gr9
                  refine hK9.out _ _ ?su1xb4x9 (fun hHeld => ?ru1xb4x9)
                  case su1xb4x9 => ((try dsimp only); exact SkpW.blk7 g2)
                  try simp only [List.setIfInBounds_toArray, List.set_cons_zero, List.set_cons_succ]
                  refine wpAnyH_ready (rs := [5]) (by kernel_rfl) (by simp) (AllReadyH.cons rfl (fun K5 hK5 => ?ku1xb4x5) AllReadyH.nil)
                  refine take_calls 5 21 [Operand.tmp 38, Operand.tmp 42] #[26, 9] rfl rfl (by kernel_rfl) (fun args w => run_enter Tryd.func21 (by kernel_rfl) rfl args w) ?_
                  refine (HC.out _).mono ?_
                  rintro e w5 ⟨q5, rfl, hok5, hb5⟩
                  refine ⟨_, rfl, ?_⟩
                  have z5 := hb5.size
                  try simp only [World.size_drew] at z5
                  replace HB := HB.trans (hb5.mono (by first | exact HB.size | omega))
                  have zHB5 := HB.size
                  replace g1 := Blk.below g1 hb5 (by first | exact Nat.le_refl _ | (simp only [World.size_alloc, World.size_setCell, World.size_drew] at *; omega) | omega)
                  replace g2 := Blk.below g2 hb5 (by first | exact Nat.le_refl _ | (simp only [World.size_alloc, World.size_setCell, World.size_drew] at *; omega) | omega)
                  replace g3 := Blk.below g3 hb5 (by first | exact Nat.le_refl _ | (simp only [World.size_alloc, World.size_setCell, World.size_drew] at *; omega) | omega)
                  replace b9 := Blk.below b9 hb5 (by first | exact Nat.le_refl _ | (simp only [World.size_alloc, World.size_setCell, World.size_drew] at *; omega) | omega)
                  refine hK5.out _ _ ?su1xb4x5 (fun hHeld => ?ru1xb4x5)
                  case su1xb4x5 => ((try dsimp only); exact SkpW.blk7 g2)
                  try simp only [List.setIfInBounds_toArray, List.set_cons_zero, List.set_cons_succ]
                  refine take_movev (v := ?vu1xb4x6) 6 (Operand.tmp 43) rfl rfl (by first | exact .inl rfl | exact .inr rfl) rfl (by kernel_rfl) (by kernel_rfl) (by kernel_rfl) (fun _ _ _ h => h) (by assumption) ?yu1xb4x6 ?ru1xb4x6
                  case yu1xb4x6 => (go_simp; try (with_reducible rfl))
                  simp only [List.setIfInBounds_toArray, List.set_cons_zero, List.set_cons_succ]
                  refine take_op (v := ?vu1xb4x7) 7 (Op.extract (Operand.tmp 37) 0) 26 rfl rfl rfl rfl rfl (by kernel_rfl) (by kernel_rfl) (by kernel_rfl) (fun _ _ _ h => h) ?yu1xb4x7 (by assumption) ?ru1xb4x7
                  case yu1xb4x7 => (intro w' hSw; (try dsimp only at hSw); go_simp; try (with_reducible rfl))
                  simp only [List.setIfInBounds_toArray, List.set_cons_zero, List.set_cons_succ]
                  refine take_op (v := ?vu1xb4x8) 8 (Op.extract (Operand.tmp 37) 1) 3 rfl rfl rfl rfl rfl (by kernel_rfl) (by kernel_rfl) (by kernel_rfl) (fun _ _ _ h => h) ?yu1xb4x8 (by assumption) ?ru1xb4x8
                  case yu1xb4x8 => (intro w' hSw; (try dsimp only at hSw); go_simp; try (with_reducible rfl))
                  simp only [List.setIfInBounds_toArray, List.set_cons_zero, List.set_cons_succ]
                  refine wpAnyH_ready (rs := [10]) (by kernel_rfl) (by simp) (AllReadyH.cons rfl (fun K10 hK10 => ?ku1xb4x10) AllReadyH.nil)
                  refine take_store 10 (Op.store 26 (Operand.tmp 9) (Operand.tmp 44)) 0 rfl rfl rfl (by kernel_rfl) (w' := (((((((w5.setCell ⟨g9, 0, none⟩ (.int .i64 q5.s1)).setCell ⟨g9, 1, none⟩ (.int .i64 q5.s2)).setCell ⟨g9, 2, none⟩ (.int .i64 q5.t1)).setCell ⟨g9, 3, none⟩ (.int .i64 q5.t2)).setCell ⟨g9, 4, none⟩ (str q5.find)).setCell ⟨g9, 5, none⟩ (.int .i64 q5.limit)).setCell ⟨g9, 6, none⟩ (.int .i64 q5.frm))) (by obtain ⟨k0, k1, k2, k3, k4, k5, k6, f0, f1, f2, f3, f4, f5, f6⟩ := blk7f b9; go_simp; try (with_reducible rfl)) ?_
                  refine hK10.out _ _ (SkpW.blk7 (((((((g2.far (p := ⟨g9, 0, none⟩) (by dsimp only; omega) (.int .i64 q5.s1)).far (p := ⟨g9, 1, none⟩) (by dsimp only; omega) (.int .i64 q5.s2)).far (p := ⟨g9, 2, none⟩) (by dsimp only; omega) (.int .i64 q5.t1)).far (p := ⟨g9, 3, none⟩) (by dsimp only; omega) (.int .i64 q5.t2)).far (p := ⟨g9, 4, none⟩) (by dsimp only; omega) (str q5.find)).far (p := ⟨g9, 5, none⟩) (by dsimp only; omega) (.int .i64 q5.limit)).far (p := ⟨g9, 6, none⟩) (by dsimp only; omega) (.int .i64 q5.frm))) (fun hHeld => ?_)
                  replace b9 := (((((((b9.set 0 (.int .i64 q5.s1)).set 1 (.int .i64 q5.s2)).set 2 (.int .i64 q5.t1)).set 3 (.int .i64 q5.t2)).set 4 (str q5.find)).set 5 (.int .i64 q5.limit)).set 6 (.int .i64 q5.frm))
                  replace g1 := (((((((g1.far (p := ⟨g9, 0, none⟩) (by dsimp only; omega) (.int .i64 q5.s1)).far (p := ⟨g9, 1, none⟩) (by dsimp only; omega) (.int .i64 q5.s2)).far (p := ⟨g9, 2, none⟩) (by dsimp only; omega) (.int .i64 q5.t1)).far (p := ⟨g9, 3, none⟩) (by dsimp only; omega) (.int .i64 q5.t2)).far (p := ⟨g9, 4, none⟩) (by dsimp only; omega) (str q5.find)).far (p := ⟨g9, 5, none⟩) (by dsimp only; omega) (.int .i64 q5.limit)).far (p := ⟨g9, 6, none⟩) (by dsimp only; omega) (.int .i64 q5.frm))
                  replace g2 := (((((((g2.far (p := ⟨g9, 0, none⟩) (by dsimp only; omega) (.int .i64 q5.s1)).far (p := ⟨g9, 1, none⟩) (by dsimp only; omega) (.int .i64 q5.s2)).far (p := ⟨g9, 2, none⟩) (by dsimp only; omega) (.int .i64 q5.t1)).far (p := ⟨g9, 3, none⟩) (by dsimp only; omega) (.int .i64 q5.t2)).far (p := ⟨g9, 4, none⟩) (by dsimp only; omega) (str q5.find)).far (p := ⟨g9, 5, none⟩) (by dsimp only; omega) (.int .i64 q5.limit)).far (p := ⟨g9, 6, none⟩) (by dsimp only; omega) (.int .i64 q5.frm))
                  replace g3 := (((((((g3.far (p := ⟨g9, 0, none⟩) (by dsimp only; omega) (.int .i64 q5.s1)).far (p := ⟨g9, 1, none⟩) (by dsimp only; omega) (.int .i64 q5.s2)).far (p := ⟨g9, 2, none⟩) (by dsimp only; omega) (.int .i64 q5.t1)).far (p := ⟨g9, 3, none⟩) (by dsimp only; omega) (.int .i64 q5.t2)).far (p := ⟨g9, 4, none⟩) (by dsimp only; omega) (str q5.find)).far (p := ⟨g9, 5, none⟩) (by dsimp only; omega) (.int .i64 q5.limit)).far (p := ⟨g9, 6, none⟩) (by dsimp only; omega) (.int .i64 q5.frm))
                  replace HB := (((((((HB.setCell (p := ⟨g9, 0, none⟩) (by dsimp only; omega) (.int .i64 q5.s1)).setCell (p := ⟨g9, 1, none⟩) (by dsimp only; omega) (.int .i64 q5.s2)).setCell (p := ⟨g9, 2, none⟩) (by dsimp only; omega) (.int .i64 q5.t1)).setCell (p := ⟨g9, 3, none⟩) (by dsimp only; omega) (.int .i64 q5.t2)).setCell (p := ⟨g9, 4, none⟩) (by dsimp only; omega) (str q5.find)).setCell (p := ⟨g9, 5, none⟩) (by dsimp only; omega) (.int .i64 q5.limit)).setCell (p := ⟨g9, 6, none⟩) (by dsimp only; omega) (.int .i64 q5.frm))
                  refine take_op (v := ?vu1xb4x11) 11 (Op.assign (Operand.tmp 45)) 3 rfl rfl rfl rfl rfl (by kernel_rfl) (by kernel_rfl) (by kernel_rfl) (fun _ _ _ h => h) ?yu1xb4x11 (by assumption) ?ru1xb4x11
                  case yu1xb4x11 => (intro w' hSw; (try dsimp only at hSw); go_simp; try (with_reducible rfl))
                  simp only [List.setIfInBounds_toArray, List.set_cons_zero, List.set_cons_succ]
                  refine wpAnyH_done (by kernel_rfl) ?_ _
                  go_wp2_with fail
                  go_meet
                  case rel => exact ⟨g9, q5, rfl, rfl, hok5, by omega, b9, g1, g2, g3, HB⟩
              case rest =>
                clear g1 g2 g3 HB hzr hl3
                obtain ⟨g9, q9, rfl, rfl, hok9, hg9, b9, g1, g2, g3, HB⟩ := hcut
                have HOK9 := Lib.hid hok9
                clear hok9
                cases ok
                · have hkk0 : kk = 0 := by have := HKK.out; simpa using this.symm
                  subst hkk0
                  have hst : stepW (q0, f) tx = none := by
                    unfold stepW
                    rw [HK.out, HVV.out, HOK.out]
                    exact if_neg (fun hh => absurd hh.1 (by decide))
                  obtain ⟨c0, c1, c2, c3, c4, c5, c6, f0, f1, f2, f3, f4, f5, f6⟩ := blk7f g1
                  obtain ⟨rfl, rfl, rfl⟩ := HERR.out hst
                  go_wp2_with fail
                  try rw [Exit.noGoto_ret]
                  refine bodyPost_ret (results_rowB rfl _ _ w.heap.size (qc zeroQ) _ rfl (((((((g1.set 0 (.int .i64 0)).set 1 (.int .i64 0)).set 2 (.int .i64 0)).set 3 (.int .i64 0)).set 4 (str [])).set 5 (.int .i64 0)).set 6 (.int .i64 0)) Tryd.underlying26 rfl (by kernel_rfl)) rfl ?_
                  exact ⟨rfl, (((((((HB.setCell (p := ⟨w.heap.size, 0, none⟩) (Nat.le_refl _) (.int .i64 0)).setCell (p := ⟨w.heap.size, 1, none⟩) (Nat.le_refl _) (.int .i64 0)).setCell (p := ⟨w.heap.size, 2, none⟩) (Nat.le_refl _) (.int .i64 0)).setCell (p := ⟨w.heap.size, 3, none⟩) (Nat.le_refl _) (.int .i64 0)).setCell (p := ⟨w.heap.size, 4, none⟩) (Nat.le_refl _) (str [])).setCell (p := ⟨w.heap.size, 5, none⟩) (Nat.le_refl _) (.int .i64 0)).setCell (p := ⟨w.heap.size, 6, none⟩) (Nat.le_refl _) (.int .i64 0))⟩
                · have hkk0 : kk = (k : Int) := by have := HKK.out; simpa using this.symm
                  subst hkk0
                  have hk0 : ¬ k = 0 := by
                    intro e
                    have := HOK.out
                    rw [e] at this
                    cases this
                  have hk0B : ((k : Int) == 0) = false := by simp; omega
                  have hkI : (k : Int) < 6 := by omega
                  have hkI0 : (0 : Int) ≤ (k : Int) := by omega
                  have ck := g3.cell_ k (saidC_at f k (by omega))
                  have cf := g3.frozen k
                  obtain ⟨fk, hfk⟩ : ∃ fk, f k = fk := ⟨_, rfl⟩
                  rw [hfk] at ck
                  have HFK := Lib.hid hfk
                  clear hfk hk0
                  cases fk
                  · have hst : stepW (q0, f) tx = some (setW k q0 v, said f k) := by
                      unfold stepW
                      rw [HK.out, HVV.out, HOK.out]
                      exact if_pos ⟨rfl, HFK.out⟩
                    have hq9 := HOK9.out (by trivial)
                    have hpe := HY.out _ hst
                    rw [← hq9] at hpe
                    rw [show p + tx.length = i by have := HTL.out; omega, HPAR.out] at hpe
                    rw [parse_sp s i (q9, said f k) (by omega) (HSP.out (by omega))] at hpe
                    have HFIN := Lib.hid hpe
                    clear hst hpe hq9 HOK9
                    obtain ⟨c0, c1, c2, c3, c4, c5, c6, f0, f1, f2, f3, f4, f5, f6⟩ := blk7f g2
                    obtain ⟨d0, d1, d2, d3, d4, d5, d6, e0, e1, e2, e3, e4, e5, e6⟩ := blk7f b9
                    go_wp2_with fail
                    go_roundw
                    case rel => exact ⟨i + 1, i + 1, (q9, said f k), by go_num, by go_num, Nat.le_refl _, by omega, .inl (by omega), fun _ => HFIN.out.symm, fun h => absurd h (by omega), fun j _ h1 h2 => absurd h1 (by omega), ((((((((g1.far (p := ⟨w.heap.size + 1 + 1, k, none⟩) (by show w.heap.size ≠ w.heap.size + 1 + 1; omega) (.bool true)).far (p := ⟨w.heap.size + 1, 0, none⟩) (by show w.heap.size ≠ w.heap.size + 1; omega) (.int .i64 q9.s1)).far (p := ⟨w.heap.size + 1, 1, none⟩) (by show w.heap.size ≠ w.heap.size + 1; omega) (.int .i64 q9.s2)).far (p := ⟨w.heap.size + 1, 2, none⟩) (by show w.heap.size ≠ w.heap.size + 1; omega) (.int .i64 q9.t1)).far (p := ⟨w.heap.size + 1, 3, none⟩) (by show w.heap.size ≠ w.heap.size + 1; omega) (.int .i64 q9.t2)).far (p := ⟨w.heap.size + 1, 4, none⟩) (by show w.heap.size ≠ w.heap.size + 1; omega) (str q9.find)).far (p := ⟨w.heap.size + 1, 5, none⟩) (by show w.heap.size ≠ w.heap.size + 1; omega) (.int .i64 q9.limit)).far (p := ⟨w.heap.size + 1, 6, none⟩) (by show w.heap.size ≠ w.heap.size + 1; omega) (.int .i64 q9.frm)), ((((((((g2.far (p := ⟨w.heap.size + 1 + 1, k, none⟩) (by show w.heap.size + 1 ≠ w.heap.size + 1 + 1; omega) (.bool true)).set 0 (.int .i64 q9.s1)).set 1 (.int .i64 q9.s2)).set 2 (.int .i64 q9.t1)).set 3 (.int .i64 q9.t2)).set 4 (str q9.find)).set 5 (.int .i64 q9.limit)).set 6 (.int .i64 q9.frm)), blk_eq ((((((((g3.set k (.bool true)).far (p := ⟨w.heap.size + 1, 0, none⟩) (by show w.heap.size + 1 + 1 ≠ w.heap.size + 1; omega) (.int .i64 q9.s1)).far (p := ⟨w.heap.size + 1, 1, none⟩) (by show w.heap.size + 1 + 1 ≠ w.heap.size + 1; omega) (.int .i64 q9.s2)).far (p := ⟨w.heap.size + 1, 2, none⟩) (by show w.heap.size + 1 + 1 ≠ w.heap.size + 1; omega) (.int .i64 q9.t1)).far (p := ⟨w.heap.size + 1, 3, none⟩) (by show w.heap.size + 1 + 1 ≠ w.heap.size + 1; omega) (.int .i64 q9.t2)).far (p := ⟨w.heap.size + 1, 4, none⟩) (by show w.heap.size + 1 + 1 ≠ w.heap.size + 1; omega) (str q9.find)).far (p := ⟨w.heap.size + 1, 5, none⟩) (by show w.heap.size + 1 + 1 ≠ w.heap.size + 1; omega) (.int .i64 q9.limit)).far (p := ⟨w.heap.size + 1, 6, none⟩) (by show w.heap.size + 1 + 1 ≠ w.heap.size + 1; omega) (.int .i64 q9.frm)) (saidC_set f k (by omega)), ((((((((HB.setCell (p := ⟨w.heap.size + 1 + 1, k, none⟩) (by show w.heap.size ≤ w.heap.size + 1 + 1; omega) (.bool true)).setCell (p := ⟨w.heap.size + 1, 0, none⟩) (by show w.heap.size ≤ w.heap.size + 1; omega) (.int .i64 q9.s1)).setCell (p := ⟨w.heap.size + 1, 1, none⟩) (by show w.heap.size ≤ w.heap.size + 1; omega) (.int .i64 q9.s2)).setCell (p := ⟨w.heap.size + 1, 2, none⟩) (by show w.heap.size ≤ w.heap.size + 1; omega) (.int .i64 q9.t1)).setCell (p := ⟨w.heap.size + 1, 3, none⟩) (by show w.heap.size ≤ w.heap.size + 1; omega) (.int .i64 q9.t2)).setCell (p := ⟨w.heap.size + 1, 4, none⟩) (by show w.heap.size ≤ w.heap.size + 1; omega) (str q9.find)).setCell (p := ⟨w.heap.size + 1, 5, none⟩) (by show w.heap.size ≤ w.heap.size + 1; omega) (.int .i64 q9.limit)).setCell (p := ⟨w.heap.size + 1, 6, none⟩) (by show w.heap.size ≤ w.heap.size + 1; omega) (.int .i64 q9.frm))⟩
                    case measure => simp [intOf]; omega
                  · have hst : stepW (q0, f) tx = none := by
                      unfold stepW
                      rw [HK.out]
                      exact if_neg (fun hh => by
                        have h2 : f k = false := hh.2
                        rw [HFK.out] at h2
                        cases h2)
                    obtain ⟨c0, c1, c2, c3, c4, c5, c6, f0, f1, f2, f3, f4, f5, f6⟩ := blk7f g1
                    obtain ⟨rfl, rfl, rfl⟩ := HERR.out hst
                    go_wp2_with fail
                    try rw [Exit.noGoto_ret]
                    refine bodyPost_ret (results_rowB rfl _ _ w.heap.size (qc zeroQ) _ rfl (((((((g1.set 0 (.int .i64 0)).set 1 (.int .i64 0)).set 2 (.int .i64 0)).set 3 (.int .i64 0)).set 4 (str [])).set 5 (.int .i64 0)).set 6 (.int .i64 0)) Tryd.underlying26 rfl (by kernel_rfl)) rfl ?_
                    exact ⟨rfl, (((((((HB.setCell (p := ⟨w.heap.size, 0, none⟩) (Nat.le_refl _) (.int .i64 0)).setCell (p := ⟨w.heap.size, 1, none⟩) (Nat.le_refl _) (.int .i64 0)).setCell (p := ⟨w.heap.size, 2, none⟩) (Nat.le_refl _) (.int .i64 0)).setCell (p := ⟨w.heap.size, 3, none⟩) (Nat.le_refl _) (.int .i64 0)).setCell (p := ⟨w.heap.size, 4, none⟩) (Nat.le_refl _) (str [])).setCell (p := ⟨w.heap.size, 5, none⟩) (Nat.le_refl _) (.int .i64 0)).setCell (p := ⟨w.heap.size, 6, none⟩) (Nat.le_refl _) (.int .i64 0))⟩
            · have hbe : i = s.length := by omega
              have HBE := Lib.hid hbe
              clear hbe
              go_upto_region 11 with fail
              go_cut [9, 10] from 18 to 59 (fun p9 p10 wx => ∃ (g9 : Nat) (q9 : Qy), p9 = .pointer (some ⟨g9, 0, none⟩) ∧ p10 = .int .i64 kk ∧ (ok = true → q9 = setW k q0 v) ∧ w.heap.size + 1 + 1 < g9 ∧ Blk wx g9 26 (qc q9) ∧ Blk wx w.heap.size 26 (qc zeroQ) ∧ Blk wx (w.heap.size + 1) 26 (qc q0) ∧ Blk wx (w.heap.size + 1 + 1) 51 (saidC f) ∧ Below w.heap.size w wx)
              case first =>
                refine wp_region_held_drew (S := (fun w' => w'.cell? ⟨w.heap.size + 1, 0, none⟩ = some (.int .i64 q0.s1) ∧ w'.cell? ⟨w.heap.size + 1, 1, none⟩ = some (.int .i64 q0.s2) ∧ w'.cell? ⟨w.heap.size + 1, 2, none⟩ = some (.int .i64 q0.t1) ∧ w'.cell? ⟨w.heap.size + 1, 3, none⟩ = some (.int .i64 q0.t2) ∧ w'.cell? ⟨w.heap.size + 1, 4, none⟩ = some (str q0.find) ∧ w'.cell? ⟨w.heap.size + 1, 5, none⟩ = some (.int .i64 q0.limit) ∧ w'.cell? ⟨w.heap.size + 1, 6, none⟩ = some (.int .i64 q0.frm))) (by kernel_rfl) ?_ (fun hHeld => ?_)
                · replace HB := Below.drew HB; replace g1 := Blk.drew g1; replace g2 := Blk.drew g2; replace g3 := Blk.drew g3; (try dsimp only); exact SkpW.blk7 g2
                replace HB := Below.drew HB
                replace g1 := Blk.drew g1
                replace g2 := Blk.drew g2
                replace g3 := Blk.drew g3
                have zHB := HB.size
                refine take_op (v := ?vu2x0) 0 (Op.load 26 (Operand.tmp 5)) 26 rfl rfl rfl rfl rfl (by kernel_rfl) (by kernel_rfl) (by kernel_rfl) (fun _ _ _ h => h) ?yu2x0 (by assumption) ?ru2x0
                case yu2x0 => (intro w' hSw; (try dsimp only at hSw); go_simp; try (with_reducible rfl))
                simp only [List.setIfInBounds_toArray, List.set_cons_zero, List.set_cons_succ]
                refine take_movev (v := ?vu2x1) 1 (Operand.tmp 0) rfl rfl (by first | exact .inl rfl | exact .inr rfl) rfl (by kernel_rfl) (by kernel_rfl) (by kernel_rfl) (fun _ _ _ h => h) (by assumption) ?yu2x1 ?ru2x1
                case yu2x1 => (go_simp; try (with_reducible rfl))
                simp only [List.setIfInBounds_toArray, List.set_cons_zero, List.set_cons_succ]
                refine take_movev (v := ?vu2x2) 2 (Operand.tmp 7) rfl rfl (by first | exact .inl rfl | exact .inr rfl) rfl (by kernel_rfl) (by kernel_rfl) (by kernel_rfl) (fun _ _ _ h => h) (by assumption) ?yu2x2 ?ru2x2
                case yu2x2 => (go_simp; try (with_reducible rfl))
                simp only [List.setIfInBounds_toArray, List.set_cons_zero, List.set_cons_succ]
                refine take_movev (v := ?vu2x3) 3 (Operand.tmp 8) rfl rfl (by first | exact .inl rfl | exact .inr rfl) rfl (by kernel_rfl) (by kernel_rfl) (by kernel_rfl) (fun _ _ _ h => h) (by assumption) ?yu2x3 ?ru2x3
                case yu2x3 => (go_simp; try (with_reducible rfl))
                simp only [List.setIfInBounds_toArray, List.set_cons_zero, List.set_cons_succ]
                refine take_op (v := ?vu2x4) 4 (Op.slice 9 (Operand.tmp 39) (some (Operand.tmp 40)) (some (Operand.tmp 41)) none) 9 rfl rfl rfl rfl rfl (by kernel_rfl) (by kernel_rfl) (by kernel_rfl) (fun _ _ _ h => h) ?yu2x4 (by assumption) ?ru2x4
                case yu2x4 => (intro w' hSw; (try dsimp only at hSw); go_simp; try (with_reducible rfl))
                simp only [List.setIfInBounds_toArray, List.set_cons_zero, List.set_cons_succ]
                refine wpAnyH_ready (rs := [5, 9]) (by kernel_rfl) (by simp) (AllReadyH.cons rfl (fun K5 hK5 => ?ku2x5) (AllReadyH.cons rfl (fun K9 hK9 => ?ku2x9) AllReadyH.nil))
                case ku2x5 =>
                  refine take_calls 5 21 [Operand.tmp 38, Operand.tmp 42] #[26, 9] rfl rfl (by kernel_rfl) (fun args w => run_enter Tryd.func21 (by kernel_rfl) rfl args w) ?_
                  refine (HC.out _).mono ?_
                  rintro e w5 ⟨q5, rfl, hok5, hb5⟩
                  refine ⟨_, rfl, ?_⟩
                  have z5 := hb5.size
                  try simp only [World.size_drew] at z5
                  replace HB := HB.trans (hb5.mono (by first | exact HB.size | omega))
                  have zHB5 := HB.size
                  replace g1 := Blk.below g1 hb5 (by first | exact Nat.le_refl _ | (simp only [World.size_alloc, World.size_setCell, World.size_drew] at *; omega) | omega)
                  replace g2 := Blk.below g2 hb5 (by first | exact Nat.le_refl _ | (simp only [World.size_alloc, World.size_setCell, World.size_drew] at *; omega) | omega)
                  replace g3 := Blk.below g3 hb5 (by first | exact Nat.le_refl _ | (simp only [World.size_alloc, World.size_setCell, World.size_drew] at *; omega) | omega)
                  refine hK5.out _ _ ?su2xb1x5 (fun hHeld => ?ru2xb1x5)
                  case su2xb1x5 => ((try dsimp only); exact SkpW.blk7 g2)
                  try simp only [List.setIfInBounds_toArray, List.set_cons_zero, List.set_cons_succ]
                  refine take_movev (v := ?vu2xb1x6) 6 (Operand.tmp 43) rfl rfl (by first | exact .inl rfl | exact .inr rfl) rfl (by kernel_rfl) (by kernel_rfl) (by kernel_rfl) (fun _ _ _ h => h) (by assumption) ?yu2xb1x6 ?ru2xb1x6
                  case yu2xb1x6 => (go_simp; try (with_reducible rfl))
                  simp only [List.setIfInBounds_toArray, List.set_cons_zero, List.set_cons_succ]
                  refine take_op (v := ?vu2xb1x7) 7 (Op.extract (Operand.tmp 37) 0) 26 rfl rfl rfl rfl rfl (by kernel_rfl) (by kernel_rfl) (by kernel_rfl) (fun _ _ _ h => h) ?yu2xb1x7 (by assumption) ?ru2xb1x7
                  case yu2xb1x7 => (intro w' hSw; (try dsimp only at hSw); go_simp; try (with_reducible rfl))
                  simp only [List.setIfInBounds_toArray, List.set_cons_zero, List.set_cons_succ]
                  refine take_op (v := ?vu2xb1x8) 8 (Op.extract (Operand.tmp 37) 1) 3 rfl rfl rfl rfl rfl (by kernel_rfl) (by kernel_rfl) (by kernel_rfl) (fun _ _ _ h => h) ?yu2xb1x8 (by assumption) ?ru2xb1x8
                  case yu2xb1x8 => (intro w' hSw; (try dsimp only at hSw); go_simp; try (with_reducible rfl))
                  simp only [List.setIfInBounds_toArray, List.set_cons_zero, List.set_cons_succ]
                  refine wpAnyH_ready (rs := [9]) (by kernel_rfl) (by simp) (AllReadyH.cons rfl (fun K9 hK9 => ?ku2xb1x9) AllReadyH.nil)
                  refine take_new (t := 26) (cs := qc zeroQ) 9 (Op.alloc 26) 0 rfl rfl rfl (by kernel_rfl) ?eu2xb1x9 ?_
                  case eu2xb1x9 => (go_simp; try (first | with_reducible rfl | rfl))
                  intro g9 w9 b9 gr9 l9 m9
                  have z9 := gr9.size
                  try simp only [World.size_drew] at z9
                  try simp only [World.size_drew, World.size_alloc] at l9
                  replace HB := below_grow HB gr9
                  have zHB9 := HB.size
                  replace g1 := Blk.grow0 g1 gr9
                  replace g2 := Blk.grow0 g2 gr9
                  replace g3 := Blk.grow0 g3 gr9
                  refine hK9.out _ _ ?su2xb1x9 (fun hHeld => ?ru2xb1x9)
                  case su2xb1x9 => ((try dsimp only); exact SkpW.blk7 g2)
                  try simp only [List.setIfInBounds_toArray, List.set_cons_zero, List.set_cons_succ]
                  refine wpAnyH_ready (rs := [10]) (by kernel_rfl) (by simp) (AllReadyH.cons rfl (fun K10 hK10 => ?ku2xb1x10) AllReadyH.nil)
                  refine take_store 10 (Op.store 26 (Operand.tmp 9) (Operand.tmp 44)) 0 rfl rfl rfl (by kernel_rfl) (w' := (((((((w9.setCell ⟨g9, 0, none⟩ (.int .i64 q5.s1)).setCell ⟨g9, 1, none⟩ (.int .i64 q5.s2)).setCell ⟨g9, 2, none⟩ (.int .i64 q5.t1)).setCell ⟨g9, 3, none⟩ (.int .i64 q5.t2)).setCell ⟨g9, 4, none⟩ (str q5.find)).setCell ⟨g9, 5, none⟩ (.int .i64 q5.limit)).setCell ⟨g9, 6, none⟩ (.int .i64 q5.frm))) (by obtain ⟨k0, k1, k2, k3, k4, k5, k6, f0, f1, f2, f3, f4, f5, f6⟩ := blk7f b9; go_simp; try (with_reducible rfl)) ?_
                  refine hK10.out _ _ (SkpW.blk7 (((((((g2.far (p := ⟨g9, 0, none⟩) (by dsimp only; omega) (.int .i64 q5.s1)).far (p := ⟨g9, 1, none⟩) (by dsimp only; omega) (.int .i64 q5.s2)).far (p := ⟨g9, 2, none⟩) (by dsimp only; omega) (.int .i64 q5.t1)).far (p := ⟨g9, 3, none⟩) (by dsimp only; omega) (.int .i64 q5.t2)).far (p := ⟨g9, 4, none⟩) (by dsimp only; omega) (str q5.find)).far (p := ⟨g9, 5, none⟩) (by dsimp only; omega) (.int .i64 q5.limit)).far (p := ⟨g9, 6, none⟩) (by dsimp only; omega) (.int .i64 q5.frm))) (fun hHeld => ?_)
                  replace b9 := (((((((b9.set 0 (.int .i64 q5.s1)).set 1 (.int .i64 q5.s2)).set 2 (.int .i64 q5.t1)).set 3 (.int .i64 q5.t2)).set 4 (str q5.find)).set 5 (.int .i64 q5.limit)).set 6 (.int .i64 q5.frm))
                  replace g1 := (((((((g1.far (p := ⟨g9, 0, none⟩) (by dsimp only; omega) (.int .i64 q5.s1)).far (p := ⟨g9, 1, none⟩) (by dsimp only; omega) (.int .i64 q5.s2)).far (p := ⟨g9, 2, none⟩) (by dsimp only; omega) (.int .i64 q5.t1)).far (p := ⟨g9, 3, none⟩) (by dsimp only; omega) (.int .i64 q5.t2)).far (p := ⟨g9, 4, none⟩) (by dsimp only; omega) (str q5.find)).far (p := ⟨g9, 5, none⟩) (by dsimp only; omega) (.int .i64 q5.limit)).far (p := ⟨g9, 6, none⟩) (by dsimp only; omega) (.int .i64 q5.frm))
                  replace g2 := (((((((g2.far (p := ⟨g9, 0, none⟩) (by dsimp only; omega) (.int .i64 q5.s1)).far (p := ⟨g9, 1, none⟩) (by dsimp only; omega) (.int .i64 q5.s2)).far (p := ⟨g9, 2, none⟩) (by dsimp only; omega) (.int .i64 q5.t1)).far (p := ⟨g9, 3, none⟩) (by dsimp only; omega) (.int .i64 q5.t2)).far (p := ⟨g9, 4, none⟩) (by dsimp only; omega) (str q5.find)).far (p := ⟨g9, 5, none⟩) (by dsimp only; omega) (.int .i64 q5.limit)).far (p := ⟨g9, 6, none⟩) (by dsimp only; omega) (.int .i64 q5.frm))
                  replace g3 := (((((((g3.far (p := ⟨g9, 0, none⟩) (by dsimp only; omega) (.int .i64 q5.s1)).far (p := ⟨g9, 1, none⟩) (by dsimp only; omega) (.int .i64 q5.s2)).far (p := ⟨g9, 2, none⟩) (by dsimp only; omega) (.int .i64 q5.t1)).far (p := ⟨g9, 3, none⟩) (by dsimp only; omega) (.int .i64 q5.t2)).far (p := ⟨g9, 4, none⟩) (by dsimp only; omega) (str q5.find)).far (p := ⟨g9, 5, none⟩) (by dsimp only; omega) (.int .i64 q5.limit)).far (p := ⟨g9, 6, none⟩) (by dsimp only; omega) (.int .i64 q5.frm))
                  replace HB := (((((((HB.setCell (p := ⟨g9, 0, none⟩) (by dsimp only; omega) (.int .i64 q5.s1)).setCell (p := ⟨g9, 1, none⟩) (by dsimp only; omega) (.int .i64 q5.s2)).setCell (p := ⟨g9, 2, none⟩) (by dsimp only; omega) (.int .i64 q5.t1)).setCell (p := ⟨g9, 3, none⟩) (by dsimp only; omega) (.int .i64 q5.t2)).setCell (p := ⟨g9, 4, none⟩) (by dsimp only; omega) (str q5.find)).setCell (p := ⟨g9, 5, none⟩) (by dsimp only; omega) (.int .i64 q5.limit)).setCell (p := ⟨g9, 6, none⟩) (by dsimp only; omega) (.int .i64 q5.frm))
                  refine take_op (v := ?vu2xb1x11) 11 (Op.assign (Operand.tmp 45)) 3 rfl rfl rfl rfl rfl (by kernel_rfl) (by kernel_rfl) (by kernel_rfl) (fun _ _ _ h => h) ?yu2xb1x11 (by assumption) ?ru2xb1x11
                  case yu2xb1x11 => (intro w' hSw; (try dsimp only at hSw); go_simp; try (with_reducible rfl))
                  simp only [List.setIfInBounds_toArray, List.set_cons_zero, List.set_cons_succ]
                  refine wpAnyH_done (by kernel_rfl) ?_ _
                  go_wp2_with fail
                  go_meet
                  case rel => exact ⟨g9, q5, rfl, rfl, hok5, by omega, b9, g1, g2, g3, HB⟩
                case ku2x9 =>
                  refine take_new (t := 26) (cs := qc zeroQ) 9 (Op.alloc 26) 0 rfl rfl rfl (by kernel_rfl) ?eu2xb4x9 ?_
                  case eu2xb4x9 => (go_simp; try (first | with_reducible rfl | rfl))
                  intro g9 w9 b9 gr9 l9 m9
                  have z9 := gr9.size
                  try simp only [World.size_drew] at z9
                  try simp only [World.size_drew, World.size_alloc] at l9
                  replace HB := below_grow HB gr9
                  have zHB9 := HB.size
                  replace g1 := Blk.grow0 g1 gr9
                  replace g2 := Blk.grow0 g2 gr9
                  replace g3 := Blk.grow0 g3 gr9
                  refine hK9.out _ _ ?su2xb4x9 (fun hHeld => ?ru2xb4x9)
                  case su2xb4x9 => ((try dsimp only); exact SkpW.blk7 g2)
                  try simp only [List.setIfInBounds_toArray, List.set_cons_zero, List.set_cons_succ]
                  refine wpAnyH_ready (rs := [5]) (by kernel_rfl) (by simp) (AllReadyH.cons rfl (fun K5 hK5 => ?ku2xb4x5) AllReadyH.nil)
                  refine take_calls 5 21 [Operand.tmp 38, Operand.tmp 42] #[26, 9] rfl rfl (by kernel_rfl) (fun args w => run_enter Tryd.func21 (by kernel_rfl) rfl args w) ?_
                  refine (HC.out _).mono ?_
                  rintro e w5 ⟨q5, rfl, hok5, hb5⟩
                  refine ⟨_, rfl, ?_⟩
                  have z5 := hb5.size
                  try simp only [World.size_drew] at z5
                  replace HB := HB.trans (hb5.mono (by first | exact HB.size | omega))
                  have zHB5 := HB.size
                  replace g1 := Blk.below g1 hb5 (by first | exact Nat.le_refl _ | (simp only [World.size_alloc, World.size_setCell, World.size_drew] at *; omega) | omega)
                  replace g2 := Blk.below g2 hb5 (by first | exact Nat.le_refl _ | (simp only [World.size_alloc, World.size_setCell, World.size_drew] at *; omega) | omega)
                  replace g3 := Blk.below g3 hb5 (by first | exact Nat.le_refl _ | (simp only [World.size_alloc, World.size_setCell, World.size_drew] at *; omega) | omega)
                  replace b9 := Blk.below b9 hb5 (by first | exact Nat.le_refl _ | (simp only [World.size_alloc, World.size_setCell, World.size_drew] at *; omega) | omega)
                  refine hK5.out _ _ ?su2xb4x5 (fun hHeld => ?ru2xb4x5)
                  case su2xb4x5 => ((try dsimp only); exact SkpW.blk7 g2)
                  try simp only [List.setIfInBounds_toArray, List.set_cons_zero, List.set_cons_succ]
                  refine take_movev (v := ?vu2xb4x6) 6 (Operand.tmp 43) rfl rfl (by first | exact .inl rfl | exact .inr rfl) rfl (by kernel_rfl) (by kernel_rfl) (by kernel_rfl) (fun _ _ _ h => h) (by assumption) ?yu2xb4x6 ?ru2xb4x6
                  case yu2xb4x6 => (go_simp; try (with_reducible rfl))
                  simp only [List.setIfInBounds_toArray, List.set_cons_zero, List.set_cons_succ]
                  refine take_op (v := ?vu2xb4x7) 7 (Op.extract (Operand.tmp 37) 0) 26 rfl rfl rfl rfl rfl (by kernel_rfl) (by kernel_rfl) (by kernel_rfl) (fun _ _ _ h => h) ?yu2xb4x7 (by assumption) ?ru2xb4x7
                  case yu2xb4x7 => (intro w' hSw; (try dsimp only at hSw); go_simp; try (with_reducible rfl))
                  simp only [List.setIfInBounds_toArray, List.set_cons_zero, List.set_cons_succ]
                  refine take_op (v := ?vu2xb4x8) 8 (Op.extract (Operand.tmp 37) 1) 3 rfl rfl rfl rfl rfl (by kernel_rfl) (by kernel_rfl) (by kernel_rfl) (fun _ _ _ h => h) ?yu2xb4x8 (by assumption) ?ru2xb4x8
                  case yu2xb4x8 => (intro w' hSw; (try dsimp only at hSw); go_simp; try (with_reducible rfl))
                  simp only [List.setIfInBounds_toArray, List.set_cons_zero, List.set_cons_succ]
                  refine wpAnyH_ready (rs := [10]) (by kernel_rfl) (by simp) (AllReadyH.cons rfl (fun K10 hK10 => ?ku2xb4x10) AllReadyH.nil)
                  refine take_store 10 (Op.store 26 (Operand.tmp 9) (Operand.tmp 44)) 0 rfl rfl rfl (by kernel_rfl) (w' := (((((((w5.setCell ⟨g9, 0, none⟩ (.int .i64 q5.s1)).setCell ⟨g9, 1, none⟩ (.int .i64 q5.s2)).setCell ⟨g9, 2, none⟩ (.int .i64 q5.t1)).setCell ⟨g9, 3, none⟩ (.int .i64 q5.t2)).setCell ⟨g9, 4, none⟩ (str q5.find)).setCell ⟨g9, 5, none⟩ (.int .i64 q5.limit)).setCell ⟨g9, 6, none⟩ (.int .i64 q5.frm))) (by obtain ⟨k0, k1, k2, k3, k4, k5, k6, f0, f1, f2, f3, f4, f5, f6⟩ := blk7f b9; go_simp; try (with_reducible rfl)) ?_
                  refine hK10.out _ _ (SkpW.blk7 (((((((g2.far (p := ⟨g9, 0, none⟩) (by dsimp only; omega) (.int .i64 q5.s1)).far (p := ⟨g9, 1, none⟩) (by dsimp only; omega) (.int .i64 q5.s2)).far (p := ⟨g9, 2, none⟩) (by dsimp only; omega) (.int .i64 q5.t1)).far (p := ⟨g9, 3, none⟩) (by dsimp only; omega) (.int .i64 q5.t2)).far (p := ⟨g9, 4, none⟩) (by dsimp only; omega) (str q5.find)).far (p := ⟨g9, 5, none⟩) (by dsimp only; omega) (.int .i64 q5.limit)).far (p := ⟨g9, 6, none⟩) (by dsimp only; omega) (.int .i64 q5.frm))) (fun hHeld => ?_)
                  replace b9 := (((((((b9.set 0 (.int .i64 q5.s1)).set 1 (.int .i64 q5.s2)).set 2 (.int .i64 q5.t1)).set 3 (.int .i64 q5.t2)).set 4 (str q5.find)).set 5 (.int .i64 q5.limit)).set 6 (.int .i64 q5.frm))
                  replace g1 := (((((((g1.far (p := ⟨g9, 0, none⟩) (by dsimp only; omega) (.int .i64 q5.s1)).far (p := ⟨g9, 1, none⟩) (by dsimp only; omega) (.int .i64 q5.s2)).far (p := ⟨g9, 2, none⟩) (by dsimp only; omega) (.int .i64 q5.t1)).far (p := ⟨g9, 3, none⟩) (by dsimp only; omega) (.int .i64 q5.t2)).far (p := ⟨g9, 4, none⟩) (by dsimp only; omega) (str q5.find)).far (p := ⟨g9, 5, none⟩) (by dsimp only; omega) (.int .i64 q5.limit)).far (p := ⟨g9, 6, none⟩) (by dsimp only; omega) (.int .i64 q5.frm))
                  replace g2 := (((((((g2.far (p := ⟨g9, 0, none⟩) (by dsimp only; omega) (.int .i64 q5.s1)).far (p := ⟨g9, 1, none⟩) (by dsimp only; omega) (.int .i64 q5.s2)).far (p := ⟨g9, 2, none⟩) (by dsimp only; omega) (.int .i64 q5.t1)).far (p := ⟨g9, 3, none⟩) (by dsimp only; omega) (.int .i64 q5.t2)).far (p := ⟨g9, 4, none⟩) (by dsimp only; omega) (str q5.find)).far (p := ⟨g9, 5, none⟩) (by dsimp only; omega) (.int .i64 q5.limit)).far (p := ⟨g9, 6, none⟩) (by dsimp only; omega) (.int .i64 q5.frm))
                  replace g3 := (((((((g3.far (p := ⟨g9, 0, none⟩) (by dsimp only; omega) (.int .i64 q5.s1)).far (p := ⟨g9, 1, none⟩) (by dsimp only; omega) (.int .i64 q5.s2)).far (p := ⟨g9, 2, none⟩) (by dsimp only; omega) (.int .i64 q5.t1)).far (p := ⟨g9, 3, none⟩) (by dsimp only; omega) (.int .i64 q5.t2)).far (p := ⟨g9, 4, none⟩) (by dsimp only; omega) (str q5.find)).far (p := ⟨g9, 5, none⟩) (by dsimp only; omega) (.int .i64 q5.limit)).far (p := ⟨g9, 6, none⟩) (by dsimp only; omega) (.int .i64 q5.frm))
                  replace HB := (((((((HB.setCell (p := ⟨g9, 0, none⟩) (by dsimp only; omega) (.int .i64 q5.s1)).setCell (p := ⟨g9, 1, none⟩) (by dsimp only; omega) (.int .i64 q5.s2)).setCell (p := ⟨g9, 2, none⟩) (by dsimp only; omega) (.int .i64 q5.t1)).setCell (p := ⟨g9, 3, none⟩) (by dsimp only; omega) (.int .i64 q5.t2)).setCell (p := ⟨g9, 4, none⟩) (by dsimp only; omega) (str q5.find)).setCell (p := ⟨g9, 5, none⟩) (by dsimp only; omega) (.int .i64 q5.limit)).setCell (p := ⟨g9, 6, none⟩) (by dsimp only; omega) (.int .i64 q5.frm))
                  refine take_op (v := ?vu2xb4x11) 11 (Op.assign (Operand.tmp 45)) 3 rfl rfl rfl rfl rfl (by kernel_rfl) (by kernel_rfl) (by kernel_rfl) (fun _ _ _ h => h) ?yu2xb4x11 (by assumption) ?ru2xb4x11
                  case yu2xb4x11 => (intro w' hSw; (try dsimp only at hSw); go_simp; try (with_reducible rfl))
                  simp only [List.setIfInBounds_toArray, List.set_cons_zero, List.set_cons_succ]
                  refine wpAnyH_done (by kernel_rfl) ?_ _
                  go_wp2_with fail
                  go_meet
                  case rel => exact ⟨g9, q5, rfl, rfl, hok5, by omega, b9, g1, g2, g3, HB⟩
              case rest =>
                clear g1 g2 g3 HB hzr hl3
                obtain ⟨g9, q9, rfl, rfl, hok9, hg9, b9, g1, g2, g3, HB⟩ := hcut
                have HOK9 := Lib.hid hok9
                clear hok9
                cases ok
                · have hkk0 : kk = 0 := by have := HKK.out; simpa using this.symm
                  subst hkk0
                  have hst : stepW (q0, f) tx = none := by
                    unfold stepW
                    rw [HK.out, HVV.out, HOK.out]
                    exact if_neg (fun hh => absurd hh.1 (by decide))
                  obtain ⟨c0, c1, c2, c3, c4, c5, c6, f0, f1, f2, f3, f4, f5, f6⟩ := blk7f g1
                  obtain ⟨rfl, rfl, rfl⟩ := HERR.out hst
                  go_wp2_with fail
                  try rw [Exit.noGoto_ret]
                  refine bodyPost_ret (results_rowB rfl _ _ w.heap.size (qc zeroQ) _ rfl (((((((g1.set 0 (.int .i64 0)).set 1 (.int .i64 0)).set 2 (.int .i64 0)).set 3 (.int .i64 0)).set 4 (str [])).set 5 (.int .i64 0)).set 6 (.int .i64 0)) Tryd.underlying26 rfl (by kernel_rfl)) rfl ?_
                  exact ⟨rfl, (((((((HB.setCell (p := ⟨w.heap.size, 0, none⟩) (Nat.le_refl _) (.int .i64 0)).setCell (p := ⟨w.heap.size, 1, none⟩) (Nat.le_refl _) (.int .i64 0)).setCell (p := ⟨w.heap.size, 2, none⟩) (Nat.le_refl _) (.int .i64 0)).setCell (p := ⟨w.heap.size, 3, none⟩) (Nat.le_refl _) (.int .i64 0)).setCell (p := ⟨w.heap.size, 4, none⟩) (Nat.le_refl _) (str [])).setCell (p := ⟨w.heap.size, 5, none⟩) (Nat.le_refl _) (.int .i64 0)).setCell (p := ⟨w.heap.size, 6, none⟩) (Nat.le_refl _) (.int .i64 0))⟩
                · have hkk0 : kk = (k : Int) := by have := HKK.out; simpa using this.symm
                  subst hkk0
                  have hk0 : ¬ k = 0 := by
                    intro e
                    have := HOK.out
                    rw [e] at this
                    cases this
                  have hk0B : ((k : Int) == 0) = false := by simp; omega
                  have hkI : (k : Int) < 6 := by omega
                  have hkI0 : (0 : Int) ≤ (k : Int) := by omega
                  have ck := g3.cell_ k (saidC_at f k (by omega))
                  have cf := g3.frozen k
                  obtain ⟨fk, hfk⟩ : ∃ fk, f k = fk := ⟨_, rfl⟩
                  rw [hfk] at ck
                  have HFK := Lib.hid hfk
                  clear hfk hk0
                  cases fk
                  · have hst : stepW (q0, f) tx = some (setW k q0 v, said f k) := by
                      unfold stepW
                      rw [HK.out, HVV.out, HOK.out]
                      exact if_pos ⟨rfl, HFK.out⟩
                    have hq9 := HOK9.out (by trivial)
                    have hpe := HY.out _ hst
                    rw [← hq9] at hpe
                    rw [show p + tx.length = i by have := HTL.out; omega, HPAR.out] at hpe
                    rw [HBE.out, List.drop_length, parse_end] at hpe
                    have HFIN := Lib.hid hpe
                    clear hst hpe hq9 HOK9
                    obtain ⟨c0, c1, c2, c3, c4, c5, c6, f0, f1, f2, f3, f4, f5, f6⟩ := blk7f g2
                    obtain ⟨d0, d1, d2, d3, d4, d5, d6, e0, e1, e2, e3, e4, e5, e6⟩ := blk7f b9
                    go_wp2_with fail
                    go_roundw
                    case rel => exact ⟨i + 1, i + 1, (q9, said f k), by go_num, by go_num, Nat.le_refl _, by omega, .inr (by rw [HBE.out]), fun h => absurd h (by rw [HBE.out]; omega), fun _ => HFIN.out, fun j _ h1 h2 => absurd h1 (by omega), ((((((((g1.far (p := ⟨w.heap.size + 1 + 1, k, none⟩) (by show w.heap.size ≠ w.heap.size + 1 + 1; omega) (.bool true)).far (p := ⟨w.heap.size + 1, 0, none⟩) (by show w.heap.size ≠ w.heap.size + 1; omega) (.int .i64 q9.s1)).far (p := ⟨w.heap.size + 1, 1, none⟩) (by show w.heap.size ≠ w.heap.size + 1; omega) (.int .i64 q9.s2)).far (p := ⟨w.heap.size + 1, 2, none⟩) (by show w.heap.size ≠ w.heap.size + 1; omega) (.int .i64 q9.t1)).far (p := ⟨w.heap.size + 1, 3, none⟩) (by show w.heap.size ≠ w.heap.size + 1; omega) (.int .i64 q9.t2)).far (p := ⟨w.heap.size + 1, 4, none⟩) (by show w.heap.size ≠ w.heap.size + 1; omega) (str q9.find)).far (p := ⟨w.heap.size + 1, 5, none⟩) (by show w.heap.size ≠ w.heap.size + 1; omega) (.int .i64 q9.limit)).far (p := ⟨w.heap.size + 1, 6, none⟩) (by show w.heap.size ≠ w.heap.size + 1; omega) (.int .i64 q9.frm)), ((((((((g2.far (p := ⟨w.heap.size + 1 + 1, k, none⟩) (by show w.heap.size + 1 ≠ w.heap.size + 1 + 1; omega) (.bool true)).set 0 (.int .i64 q9.s1)).set 1 (.int .i64 q9.s2)).set 2 (.int .i64 q9.t1)).set 3 (.int .i64 q9.t2)).set 4 (str q9.find)).set 5 (.int .i64 q9.limit)).set 6 (.int .i64 q9.frm)), blk_eq ((((((((g3.set k (.bool true)).far (p := ⟨w.heap.size + 1, 0, none⟩) (by show w.heap.size + 1 + 1 ≠ w.heap.size + 1; omega) (.int .i64 q9.s1)).far (p := ⟨w.heap.size + 1, 1, none⟩) (by show w.heap.size + 1 + 1 ≠ w.heap.size + 1; omega) (.int .i64 q9.s2)).far (p := ⟨w.heap.size + 1, 2, none⟩) (by show w.heap.size + 1 + 1 ≠ w.heap.size + 1; omega) (.int .i64 q9.t1)).far (p := ⟨w.heap.size + 1, 3, none⟩) (by show w.heap.size + 1 + 1 ≠ w.heap.size + 1; omega) (.int .i64 q9.t2)).far (p := ⟨w.heap.size + 1, 4, none⟩) (by show w.heap.size + 1 + 1 ≠ w.heap.size + 1; omega) (str q9.find)).far (p := ⟨w.heap.size + 1, 5, none⟩) (by show w.heap.size + 1 + 1 ≠ w.heap.size + 1; omega) (.int .i64 q9.limit)).far (p := ⟨w.heap.size + 1, 6, none⟩) (by show w.heap.size + 1 + 1 ≠ w.heap.size + 1; omega) (.int .i64 q9.frm)) (saidC_set f k (by omega)), ((((((((HB.setCell (p := ⟨w.heap.size + 1 + 1, k, none⟩) (by show w.heap.size ≤ w.heap.size + 1 + 1; omega) (.bool true)).setCell (p := ⟨w.heap.size + 1, 0, none⟩) (by show w.heap.size ≤ w.heap.size + 1; omega) (.int .i64 q9.s1)).setCell (p := ⟨w.heap.size + 1, 1, none⟩) (by show w.heap.size ≤ w.heap.size + 1; omega) (.int .i64 q9.s2)).setCell (p := ⟨w.heap.size + 1, 2, none⟩) (by show w.heap.size ≤ w.heap.size + 1; omega) (.int .i64 q9.t1)).setCell (p := ⟨w.heap.size + 1, 3, none⟩) (by show w.heap.size ≤ w.heap.size + 1; omega) (.int .i64 q9.t2)).setCell (p := ⟨w.heap.size + 1, 4, none⟩) (by show w.heap.size ≤ w.heap.size + 1; omega) (str q9.find)).setCell (p := ⟨w.heap.size + 1, 5, none⟩) (by show w.heap.size ≤ w.heap.size + 1; omega) (.int .i64 q9.limit)).setCell (p := ⟨w.heap.size + 1, 6, none⟩) (by show w.heap.size ≤ w.heap.size + 1; omega) (.int .i64 q9.frm))⟩
                    case measure => simp [intOf]; omega
                  · have hst : stepW (q0, f) tx = none := by
                      unfold stepW
                      rw [HK.out]
                      exact if_neg (fun hh => by
                        have h2 : f k = false := hh.2
                        rw [HFK.out] at h2
                        cases h2)
                    obtain ⟨c0, c1, c2, c3, c4, c5, c6, f0, f1, f2, f3, f4, f5, f6⟩ := blk7f g1
                    obtain ⟨rfl, rfl, rfl⟩ := HERR.out hst
                    go_wp2_with fail
                    try rw [Exit.noGoto_ret]
                    refine bodyPost_ret (results_rowB rfl _ _ w.heap.size (qc zeroQ) _ rfl (((((((g1.set 0 (.int .i64 0)).set 1 (.int .i64 0)).set 2 (.int .i64 0)).set 3 (.int .i64 0)).set 4 (str [])).set 5 (.int .i64 0)).set 6 (.int .i64 0)) Tryd.underlying26 rfl (by kernel_rfl)) rfl ?_
                    exact ⟨rfl, (((((((HB.setCell (p := ⟨w.heap.size, 0, none⟩) (Nat.le_refl _) (.int .i64 0)).setCell (p := ⟨w.heap.size, 1, none⟩) (Nat.le_refl _) (.int .i64 0)).setCell (p := ⟨w.heap.size, 2, none⟩) (Nat.le_refl _) (.int .i64 0)).setCell (p := ⟨w.heap.size, 3, none⟩) (Nat.le_refl _) (.int .i64 0)).setCell (p := ⟨w.heap.size, 4, none⟩) (Nat.le_refl _) (str [])).setCell (p := ⟨w.heap.size, 5, none⟩) (Nat.le_refl _) (.int .i64 0)).setCell (p := ⟨w.heap.size, 6, none⟩) (Nat.le_refl _) (.int .i64 0))⟩
          · have hpe : p = i := by omega
            have hpI : ¬ (p : Int) < (i : Int) := by omega
            subst hpe
            rcases hB with hb | hb
            · have hkS : p < S.size := by rw [hsz]; omega
              have hx2 : S[p]'hkS = 32 := by
                have := HSP.out (by omega)
                rw [← this]
                subst hS
                rfl
              have hpe := HPAR.out
              rw [parse_sp s p (q0, f) (by omega) (HSP.out (by omega))] at hpe
              have HFIN := Lib.hid hpe
              clear hpe
              go_wp2_with fail
              go_roundw
              case rel => exact ⟨p + 1, p + 1, (q0, f), by go_num, by go_num, Nat.le_refl _, by omega, .inl (by omega), fun _ => HFIN.out, fun h => absurd h (by omega), fun j _ h1 h2 => absurd h1 (by omega), g1, g2, g3, HB⟩
              case measure => simp [intOf]; omega
            · have hbe : p = s.length := by omega
              have hpe := HPAR.out
              rw [hbe, List.drop_length, parse_end] at hpe
              have HFIN := Lib.hid hpe.symm
              have HBE := Lib.hid hbe
              clear hpe hbe
              go_wp2_with fail
              go_roundw
              case rel => exact ⟨p + 1, p + 1, (q0, f), by go_num, by go_num, Nat.le_refl _, by omega, .inr (by rw [HBE.out]), fun h => absurd h (by rw [HBE.out]; omega), fun _ => HFIN.out, fun j _ h1 h2 => absurd h1 (by omega), g1, g2, g3, HB⟩
              case measure => simp [intOf]; omega
      · have hiL : ¬ (i : Int) ≤ (s.length : Int) := by omega
        have hv := HV.out
        rw [HE.out (by omega)] at hv
        unfold finV at hv
        dsimp only at hv
        have hc := SkpW.chk_cases q0
        obtain ⟨ce, hce⟩ : ∃ ce, chkQ q0 = ce := ⟨_, rfl⟩
        have C := SkpW.refCheck_any q0 ce hce
        rw [hce] at hc hv
        have hce2 : ce = 320 ∨ ce = 0 := by
          rcases hc with ⟨e, _⟩ | ⟨e, _⟩
          · exact .inl e
          · exact .inr e
        have HC := Lib.hid C
        clear C hc hce
        obtain ⟨x0, x1, x2, x3, x4, x5, x6⟩ := SkpW.blk7 g2
        rcases hce2 with rfl | rfl
        · rw [if_neg (by decide)] at hv
          obtain ⟨rfl, hv2⟩ := Prod.mk.inj hv
          obtain ⟨rfl, rfl⟩ := Prod.mk.inj hv2
          clear hv hv2
          go_wp2_with fail
          refine (HC.out _).mono ?_
          rintro e w4 ⟨rfl, b4⟩
          have g4 := g2.below b4 (by omega)
          have g5 := g1.below b4 (by omega)
          have B4 := HB.trans (b4.mono hzr)
          obtain ⟨c0, c1, c2, c3, c4, c5, c6, f0, f1, f2, f3, f4, f5, f6⟩ := blk7f g4
          obtain ⟨d0, d1, d2, d3, d4, d5, d6, e0, e1, e2, e3, e4, e5, e6⟩ := blk7f g5
          go_wp2_with fail
          try rw [Exit.noGoto_ret]
          refine bodyPost_ret (results_rowB rfl _ _ w.heap.size (qc zeroQ) _ rfl (((((((g5.set 0 (.int .i64 0)).set 1 (.int .i64 0)).set 2 (.int .i64 0)).set 3 (.int .i64 0)).set 4 (str [])).set 5 (.int .i64 0)).set 6 (.int .i64 0)) Tryd.underlying26 rfl (by kernel_rfl)) rfl ?_
          exact ⟨rfl, (((((((B4.setCell (p := ⟨w.heap.size, 0, none⟩) (Nat.le_refl _) (.int .i64 0)).setCell (p := ⟨w.heap.size, 1, none⟩) (Nat.le_refl _) (.int .i64 0)).setCell (p := ⟨w.heap.size, 2, none⟩) (Nat.le_refl _) (.int .i64 0)).setCell (p := ⟨w.heap.size, 3, none⟩) (Nat.le_refl _) (.int .i64 0)).setCell (p := ⟨w.heap.size, 4, none⟩) (Nat.le_refl _) (str [])).setCell (p := ⟨w.heap.size, 5, none⟩) (Nat.le_refl _) (.int .i64 0)).setCell (p := ⟨w.heap.size, 6, none⟩) (Nat.le_refl _) (.int .i64 0))⟩

        · rw [if_pos rfl] at hv
          obtain ⟨rfl, hv2⟩ := Prod.mk.inj hv
          obtain ⟨rfl, rfl⟩ := Prod.mk.inj hv2
          clear hv hv2
          go_wp2_with fail
          refine (HC.out _).mono ?_
          rintro e w4 ⟨rfl, b4⟩
          have g4 := g2.below b4 (by omega)
          have g5 := g1.below b4 (by omega)
          have B4 := HB.trans (b4.mono hzr)
          obtain ⟨c0, c1, c2, c3, c4, c5, c6, f0, f1, f2, f3, f4, f5, f6⟩ := blk7f g4
          obtain ⟨d0, d1, d2, d3, d4, d5, d6, e0, e1, e2, e3, e4, e5, e6⟩ := blk7f g5
          go_wp2_with fail
          try rw [Exit.noGoto_ret]
          refine bodyPost_ret (results_rowB rfl _ _ w.heap.size (qc q0) _ rfl (((((((g5.set 0 (.int .i64 q0.s1)).set 1 (.int .i64 q0.s2)).set 2 (.int .i64 q0.t1)).set 3 (.int .i64 q0.t2)).set 4 (str q0.find)).set 5 (.int .i64 q0.limit)).set 6 (.int .i64 q0.frm)) Tryd.underlying26 rfl (by kernel_rfl)) rfl ?_
          exact ⟨rfl, (((((((B4.setCell (p := ⟨w.heap.size, 0, none⟩) (Nat.le_refl _) (.int .i64 q0.s1)).setCell (p := ⟨w.heap.size, 1, none⟩) (Nat.le_refl _) (.int .i64 q0.s2)).setCell (p := ⟨w.heap.size, 2, none⟩) (Nat.le_refl _) (.int .i64 q0.t1)).setCell (p := ⟨w.heap.size, 3, none⟩) (Nat.le_refl _) (.int .i64 q0.t2)).setCell (p := ⟨w.heap.size, 4, none⟩) (Nat.le_refl _) (str q0.find)).setCell (p := ⟨w.heap.size, 5, none⟩) (Nat.le_refl _) (.int .i64 q0.limit)).setCell (p := ⟨w.heap.size, 6, none⟩) (Nat.le_refl _) (.int .i64 q0.frm))⟩

end WanW
end Go.Proofs.YtjcbaaabbdcdnaaDoor
