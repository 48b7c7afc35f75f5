/- The walks of tab's reference, and of Unpack. -/
import Derived.Test.YtedoeplhjmkllaaTabG
import Derived.Test.YtedoeplhjmkllaaBitH
namespace Go.Proofs.Ytedoeplhjmkllaa
set_option linter.unusedVariables false
set_option linter.unusedSimpArgs false
set_option linter.unnecessarySimpa false
open Go.RowKit
namespace TabW
open LenW (okL okL_at chkL chk0 check_any refCheck_any)
open BitW (rdr RLeft ungB El_int2 left_any bc bc_app bc_one bc_len digits_any refGamma_any refText_any rd_bclen gam gamB)

/-- Lengths from one on: a run, and what is behind it. -/
theorem span_at (l : List Int) (k m : Nat) (x : Int) (hk : k < m) (hm : m ≤ l.length) (h : ∀ i, k ≤ i → i < m → l[i]? = some x) (hne : ∀ y, l[m]? = some y → y ≠ x) : rle (l.drop k) = (x, ((m - k : Nat) : Int)) :: rle (l.drop m) := by
  obtain ⟨d, hd⟩ : ∃ d, m = k + (d + 1) := ⟨m - k - 1, by omega⟩
  have e : l.drop k = List.replicate (d + 1) x ++ l.drop m := by
    rw [← List.take_append_drop (d + 1) (l.drop k), List.drop_drop, ← hd]
    congr 1
    apply List.ext_getElem?
    intro i
    by_cases hi : i < d + 1
    · rw [List.getElem?_take_of_lt hi, List.getElem?_drop, h (k + i) (by omega) (by omega), List.getElem?_replicate, if_pos hi]
    · rw [List.getElem?_eq_none (by simp; omega), List.getElem?_eq_none (by simp; omega)]
  rw [e, rle_span x d (l.drop m) (fun y hy => hne y (by rwa [List.head?_drop] at hy)), show m - k = d + 1 by omega]
theorem runsB_cons (r : Int × Int) (R : List (Int × Int)) : runsB (r :: R) = dg 4 r.1.toNat ++ (gam r.2.toNat ++ runsB R) := by simp [runsB, runB]
set_option maxRecDepth 100000 in
set_option maxHeartbeats 8000000 in
theorem refBits_tab (A : Option Addr) (n c : Nat) (l : List Int) (w : World) (h : Rd w w.heap.size 1 A n (ints l)) (hk : chkL l = 0) (T : List Nat) (hT : tabB l = T) :
    Calls Try.prog 49 #[.slice A n c] w fun e w' => ∃ A2 n2 c2, e = .returned (.slice A2 n2 c2) ∧ Own w' w.heap.size 3 1 A2 n2 c2 (bc T) ∧ Below w.heap.size w w' := by
  have hl : l.length = n := rd_len h
  obtain ⟨h257, hok, _⟩ := chk0 hk
  have HOK := Lib.hid (fun i hi => okL_at l i hi hok)
  have HT := Lib.hid hT
  have HSP := Lib.hid (span_at l)
  clear hok hk hT
  go_enter Try.func49, Try.ntmps49
  go_wp2_with fail
  go_loopw [3, 4] (fun out i wr => ∃ (k n2 c2 : Nat) (A2 : Option Addr) (L : List Nat), i = .int .i64 k ∧ out = .slice A2 n2 c2 ∧ k ≤ n ∧ n2 ≤ 100 * k ∧ T = L ++ runsB (rle (l.drop k)) ∧ Own wr w.heap.size 3 1 A2 n2 c2 (bc L) ∧ Below w.heap.size w wr) (fun _ i _ => n - (intOf i).toNat)
  case atStart => exact ⟨0, 0, 0, none, [], rfl, rfl, by omega, by omega, by rw [← HT.out]; rfl, Own.nil _ _ _ _, Below.refl _ _⟩
  case round =>
    obtain ⟨k, n2, c2, A2, L, rfl, rfl, hkn, hn2, hTL, o2, hbw⟩ := hrel
    have HTL := Lib.hid hTL
    clear hTL
    have hsz := hbw.size
    by_cases hlt : k < n
    · have hkl : k < l.length := by omega
      obtain ⟨b, o, rfl, hb, hc⟩ := rd_ints (h.below hbw) (by omega)
      have d0 : wr.cell? ⟨b, o + k, none⟩ = some (.int .i64 l[k]) := hc k hkl
      have hx15 := HOK.out k hkl
      have HX0 := Lib.hid (show l[k]? = some l[k] from List.getElem?_eq_getElem hkl)
      obtain ⟨x, hx⟩ : ∃ x, l[k] = x := ⟨_, rfl⟩
      rw [hx] at d0 hx15 HX0
      have HC := Lib.hid hc
      clear hx hc
      have hkI : (k : Int) < (n : Int) := by omega
      have hk0 : (0 : Int) ≤ (k : Int) := by omega
      go_wp2_with fail
      go_loopw [5] (fun i wr' => ∃ (m nq : Nat), i = .int .i64 m ∧ k ≤ m ∧ m ≤ n ∧ (∀ i, k ≤ i → i < m → l[i]? = some x) ∧ wr' = wr.drewN nq) (fun i _ => n - (intOf i).toNat)
      case atStart => exact ⟨k, 0, rfl, by omega, by omega, fun i h1 h2 => by omega, rfl⟩
      case round =>
        obtain ⟨m, nq, rfl, hkm, hmn, hall, rfl⟩ := hrel
        have HA := Lib.hid hall
        clear hall
        by_cases hmx : m < n ∧ l[m]? = some x
        · obtain ⟨hml, hm2⟩ := hmx
          have hmn2 : m < l.length := by omega
          have d1 : wr.cell? ⟨b, o + m, none⟩ = some (.int .i64 l[m]) := HC.out m hmn2
          have hmx2 : l[m] = x := by rw [List.getElem?_eq_getElem hmn2] at hm2; simpa using hm2
          rw [hmx2] at d1
          have HM2 := Lib.hid hm2
          have hmI : (m : Int) < (n : Int) := by omega
          have hm0 : (0 : Int) ≤ (m : Int) := by omega
          clear hm2 hmx2
          have hxx : (x == x) = true := by simp
          go_wp2_with fail
          go_quiet (fail)
          go_wp2
          go_roundw
          case rel => exact ⟨m + 1, _, by go_num, by omega, by omega, fun i h1 h2 => (Nat.lt_succ_iff_lt_or_eq.1 h2).elim (HA.out i h1) (fun e => by rw [e]; exact HM2.out), by first | rfl | exact World.drewN_drewN _ _ _⟩
          case measure => simp [intOf]; omega
        · have hkm2 : k < m := by
            rcases Nat.lt_or_ge k m with q | q
            · exact q
            · obtain rfl : k = m := by omega
              exact absurd ⟨hlt, HX0.out⟩ hmx
          have HS := Lib.hid (HSP.out k m x hkm2 (by omega) HA.out (fun y hy e => by
            subst e
            obtain ⟨hi, _⟩ := List.getElem?_eq_some_iff.1 hy
            exact hmx ⟨by omega, hy⟩))
          have HMX : Hid (m < n → ∃ y, wr.cell? ⟨b, o + m, none⟩ = some (.int .i64 y) ∧ ¬ y = x) := Lib.hid (fun q => ⟨l[m]'(by omega), HC.out m (by omega), fun e => hmx ⟨q, by rw [List.getElem?_eq_getElem (by omega), e]⟩⟩)
          have HTN := Lib.hid (show T = (L ++ (dg 4 x.toNat ++ gam (m - k))) ++ runsB (rle (l.drop m)) by rw [HTL.out, HS.out, runsB_cons]; simp)
          clear hmx
          have HB : Below w.heap.size w (wr.drewN nq) := hbw.drewN_ nq
          have C1 := fun w => digits_any x 4 w (by unfold I64; omega)
          have C2 := fun w => refGamma_any (((m - k : Nat) : Int)) w (by unfold I64; omega)
          have hf1 : fitsB x 4 = true := by unfold fitsB; simp; omega
          have hf2 : gamB ((m - k : Nat) : Int) = true := by unfold gamB fitsB; simp; omega
          rw [hf1] at C1
          rw [hf2] at C2
          have H1 := Lib.hid C1
          have H2 := Lib.hid C2
          have hsub : (m : Int) - (k : Int) = ((m - k : Nat) : Int) := by omega
          have HSUB := Lib.hid hsub
          have hmk : ∃ z, m - k = z ∧ z ≤ 257 := ⟨_, rfl, by omega⟩
          clear C1 C2 hf1 hf2 hsub
          have hcases : m = n ∨ m < n := by omega
          rcases hcases with hmn3 | hmn3
          · have hge : ¬ (m : Int) < (n : Int) := by omega
            have hgd : decide ((m : Int) < (n : Int)) = false := decide_eq_false hge
            have hgN : ¬ m < n := by omega
            have hgN2 : n ≤ m := by omega
            clear hmn3 HMX
            go_wp2_with fail
            go_quiet (fail)
            go_wp2_with fail
            refine (H1.out _).mono ?_
            rintro e w3 ⟨A3, k3, xs3, rfl, hk3, o3, hxs3, hb3⟩
            have hx3 := hxs3 (by trivial)
            subst hx3
            clear hxs3 H1
            have hd3 : Below wr.heap.size wr w3 := ((Below.refl wr.heap.size wr).drewN_ _).trans hb3
            have HB3 : Below w.heap.size w w3 := hbw.trans (hd3.mono hsz)
            have z3 := hd3.size
            go_wp2_with fail
            try rw [HSUB.out]
            refine (H2.out _).mono ?_
            rintro e w4 ⟨A4, k4, c4, xs4, rfl, hk4, hc4, o4, hxs4, hb4⟩
            have hx4 := hxs4 (by trivial)
            subst hx4
            clear hxs4 H2
            have z4 := hb4.size
            have HB4 := HB3.trans (hb4.mono HB3.size)
            have o3' := o3.below hb4
            have o5 := (o2.below hd3).below hb4
            go_wp2_with (at_builtin; first | (with_reducible refine wp_append El_int2 rfl (s := .tmp 47) (x := .tmp 48) rfl rfl o5 rfl o3'.rd (bc_one _) (by unfold maxLen; omega) (by omega) (by omega) ?_; intro A6 c6 w6 o6 hg6 hat6; have o4' := o4.other hg6 (fun q hq e => by have := (o4.blk q hq).1; have := (o2.blk q e).2; omega); have HB6 := below_grown HB4 hg6 o5 (Nat.le_refl _); have z6 := hg6.size) | (with_reducible refine wp_append El_int2 rfl (s := .tmp 49) (x := .tmp 50) rfl rfl o6 rfl o4'.rd (bc_one _) (by unfold maxLen; omega) (by omega) (by omega) ?_; intro A7 c7 w7 o7 hg7 hat7; have HB7 := below_grown HB6 hg7 o6 (Nat.le_refl _)))
            rw [← bc_app, ← bc_app, List.append_assoc] at o7
            go_roundw
            case rel => exact ⟨m, n2 + k3 + k4, c7, A7, L ++ (dg 4 x.toNat ++ gam (m - k)), rfl, rfl, by omega, by omega, HTN.out, o7, HB7⟩
            case measure => simp [intOf]; omega
          · obtain ⟨y, d1, hyx⟩ := HMX.out hmn3
            have hyI : (y == x) = false := by simpa using hyx
            have hmI : (m : Int) < (n : Int) := by omega
            have hm0 : (0 : Int) ≤ (m : Int) := by omega
            go_wp2_with fail
            go_quiet (fail)
            go_wp2_with fail
            refine (H1.out _).mono ?_
            rintro e w3 ⟨A3, k3, xs3, rfl, hk3, o3, hxs3, hb3⟩
            have hx3 := hxs3 (by trivial)
            subst hx3
            clear hxs3 H1
            have hd3 : Below wr.heap.size wr w3 := ((Below.refl wr.heap.size wr).drewN_ _).trans hb3
            have HB3 : Below w.heap.size w w3 := hbw.trans (hd3.mono hsz)
            have z3 := hd3.size
            go_wp2_with fail
            try rw [HSUB.out]
            refine (H2.out _).mono ?_
            rintro e w4 ⟨A4, k4, c4, xs4, rfl, hk4, hc4, o4, hxs4, hb4⟩
            have hx4 := hxs4 (by trivial)
            subst hx4
            clear hxs4 H2
            have z4 := hb4.size
            have HB4 := HB3.trans (hb4.mono HB3.size)
            have o3' := o3.below hb4
            have o5 := (o2.below hd3).below hb4
            go_wp2_with (at_builtin; first | (with_reducible refine wp_append El_int2 rfl (s := .tmp 47) (x := .tmp 48) rfl rfl o5 rfl o3'.rd (bc_one _) (by unfold maxLen; omega) (by omega) (by omega) ?_; intro A6 c6 w6 o6 hg6 hat6; have o4' := o4.other hg6 (fun q hq e => by have := (o4.blk q hq).1; have := (o2.blk q e).2; omega); have HB6 := below_grown HB4 hg6 o5 (Nat.le_refl _); have z6 := hg6.size) | (with_reducible refine wp_append El_int2 rfl (s := .tmp 49) (x := .tmp 50) rfl rfl o6 rfl o4'.rd (bc_one _) (by unfold maxLen; omega) (by omega) (by omega) ?_; intro A7 c7 w7 o7 hg7 hat7; have HB7 := below_grown HB6 hg7 o6 (Nat.le_refl _)))
            rw [← bc_app, ← bc_app, List.append_assoc] at o7
            go_roundw
            case rel => exact ⟨m, n2 + k3 + k4, c7, A7, L ++ (dg 4 x.toNat ++ gam (m - k)), rfl, rfl, by omega, by omega, HTN.out, o7, HB7⟩
            case measure => simp [intOf]; omega
    · obtain rfl : k = n := by omega
      have HL := Lib.hid (show T = L by rw [HTL.out, List.drop_of_length_le (by omega)]; simp [rle, runsB])
      go_wp2_with fail
      go_ret
      exact ⟨A2, n2, c2, rfl, by rw [HL.out]; exact o2, hbw⟩
end TabW
end Go.Proofs.Ytedoeplhjmkllaa
