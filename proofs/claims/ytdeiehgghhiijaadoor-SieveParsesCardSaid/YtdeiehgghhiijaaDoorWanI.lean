/- The walks of the reference of package want: bytes that are read in the base 16. -/
import Derived.Test.YtdeiehgghhiijaaDoorWanH
namespace Go.Proofs.YtdeiehgghhiijaaDoor
set_option linter.unusedVariables false
set_option linter.unusedSimpArgs false
set_option linter.unnecessarySimpa false
open Go.RowKit
namespace WanW

/-- What two letters are worth; below 0: they are no digits. -/
def pairV (a b : UInt8) : Int := if hexB a = true ∧ hexB b = true then ((16 * dg a + dg b : Nat) : Int) else -1
theorem digit_iff (a : UInt8) (c : Nat) (hc : c < 16) : digN c = a.toNat ↔ (hexB a = true ∧ dg a = c) := by
  unfold hexB dg digV digN
  by_cases h1 : (48 : Int) ≤ (a.toNat : Int) ∧ (a.toNat : Int) ≤ 57
  · rw [if_pos h1]
    have : c < 10 ∨ ¬ c < 10 := by omega
    rcases this with h | h <;> simp [h] <;> omega
  · rw [if_neg h1]
    by_cases h2 : (97 : Int) ≤ (a.toNat : Int) ∧ (a.toNat : Int) ≤ 102
    · rw [if_pos h2]
      have : c < 10 ∨ ¬ c < 10 := by omega
      rcases this with h | h <;> simp [h] <;> omega
    · rw [if_neg h2]
      have : c < 10 ∨ ¬ c < 10 := by omega
      rcases this with h | h <;> simp [h] <;> omega
theorem pair_iff (a b : UInt8) (k : Nat) (hk : k < 256) : (digN (k / 16) = a.toNat ∧ digN (k % 16) = b.toNat) ↔ pairV a b = (k : Int) := by
  rw [digit_iff a _ (by omega), digit_iff b _ (by omega)]
  have h1 := dg_lt a
  have h2 := dg_lt b
  unfold pairV
  by_cases h : hexB a = true ∧ hexB b = true
  · rw [if_pos h]
    simp only [h.1, h.2, true_and]
    omega
  · rw [if_neg h]
    constructor
    · rintro ⟨⟨x, _⟩, y, _⟩; exact absurd ⟨x, y⟩ h
    · intro e; omega
theorem pairV_lt (a b : UInt8) : pairV a b < 256 ∧ -1 ≤ pairV a b := by
  have h1 := dg_lt a
  have h2 := dg_lt b
  unfold pairV
  split <;> omega
theorem refDigit_m (n : Nat) (hn : n < 16) (w : World) : Calls Tryd.prog 36 #[.int .i64 n] w fun e w' => e = .returned (.int .u8 ((digN n : Nat) : Int)) ∧ Below w.heap.size w w' := by
  refine (refDigit_any n hn w).mono ?_
  rintro e w' ⟨rfl, rfl⟩
  exact ⟨rfl, Below.refl _ _⟩
set_option maxRecDepth 100000 in
set_option maxHeartbeats 4000000 in
theorem refUnhex_any (s : List UInt8) (w : World) (v : List UInt8) (b : Bool) (hv : unhexV s = (v, b)) (hs : s.length ≤ 100000) : Calls Tryd.prog 56 #[str s] w fun e w' => e = .returned (.tuple #[str v, .bool b]) ∧ Below w.heap.size w w' := by
  have HNO := Lib.hid (fun h => (unhexV_no (s := s) h).symm.trans hv)
  have HYES := Lib.hid (fun h => (unhexV_yes (s := s) h).symm.trans hv)
  clear hv
  obtain ⟨S, hS⟩ : ∃ S : ByteArray, (⟨s.toArray⟩ : ByteArray) = S := ⟨_, rfl⟩
  have HS := Lib.hid hS
  have hsz : S.size = s.length := by rw [← hS]; simp [ByteArray.size]
  by_cases ho : s.length % 2 = 1
  · obtain ⟨rfl, rfl⟩ := Prod.mk.inj (HNO.out (.inl ho))
    have t1 : Int.tmod (s.length : Int) 2 = 1 := by rw [Int.tmod_eq_emod_of_nonneg (by omega)]; omega
    go_enter Tryd.func56, Tryd.ntmps56
    go_wp2_with fail
    go_ret2
    exact ⟨rfl, Below.refl _ _⟩
  · have t1 : Int.tmod (s.length : Int) 2 = 0 := by rw [Int.tmod_eq_emod_of_nonneg (by omega)]; omega
    go_enter Tryd.func56, Tryd.ntmps56
    go_wp2_with fail
    go_loopw [4, 5] (fun o4 o5 wr => ∃ (j c2 q : Nat) (A2 : Option Addr), o4 = .slice A2 q c2 ∧ o5 = .int .i64 (2 * j : Nat) ∧ q ≤ j ∧ 2 * j ≤ s.length ∧ Own wr w.heap.size 5 1 A2 q c2 (byts (unpair (s.take (2 * j)))) ∧ (s.take (2 * j)).all hexB = true ∧ Below w.heap.size w wr) (fun _ i _ => s.length - (intOf i).toNat)
    case atStart => exact ⟨0, 0, 0, none, rfl, rfl, by omega, by omega, by simpa [unpair, byts] using Own.nil _ _ _ _, rfl, Below.refl _ _⟩
    case round =>
      obtain ⟨j, c2, q, A2, rfl, rfl, hqj, hj, ho2, hall, HB⟩ := hrel
      have HALL := Lib.hid hall
      clear hall
      have hsz1 := HB.size
      obtain ⟨i, hi⟩ : ∃ i, 2 * j = i := ⟨_, rfl⟩
      have HI := Lib.hid hi
      rw [hi] at ho2 HALL ⊢
      rw [hi] at hj
      by_cases hlt : i < s.length
      · have hlt2 : i + 1 < s.length := by omega
        have hiI : (i : Int) < (s.length : Int) := by omega
        have hi0 : (0 : Int) ≤ (i : Int) := by omega
        have hi1 : (i : Int) + 1 < (s.length : Int) := by omega
        have hi2 : (0 : Int) ≤ (i : Int) + 1 := by omega
        have hadd2 : IntKind.i64.wrap ((i : Int) + 2) = (i : Int) + 2 := w64k (by omega) (by omega)
        have hadd1 : IntKind.i64.wrap ((i : Int) + 1) = (i : Int) + 1 := w64k (by omega) (by omega)
        have hlt2 : i + 1 < s.length := by omega
        have hql : q ≤ s.length := by omega
        clear hi
        have hkS : i < S.size := by rw [hsz]; exact hlt
        have hkS1 : i + 1 < S.size := by rw [hsz]; exact hlt2
        obtain ⟨a, ha⟩ : ∃ a, S[i]'hkS = a := ⟨_, rfl⟩
        obtain ⟨b', hb'⟩ : ∃ b, S[i + 1]'hkS1 = b := ⟨_, rfl⟩
        have ha2 : s[i] = a := by
          rw [← ha]
          subst hS
          rfl
        have hb2 : s[i + 1] = b' := by
          rw [← hb']
          subst hS
          rfl
        have HA2 := Lib.hid ha2
        have HB2 := Lib.hid hb2
        clear ha2 hb2
        obtain ⟨p, hp⟩ : ∃ p, pairV a b' = p := ⟨_, rfl⟩
        obtain ⟨hp1, hp2⟩ := pairV_lt a b'
        rw [hp] at hp1 hp2
        have HPI := Lib.hid (fun k hk => by have := pair_iff a b' k hk; rwa [hp] at this)
        obtain ⟨m1, hm1⟩ : ∃ m : Nat, a.toNat = m := ⟨_, rfl⟩
        obtain ⟨m2, hm2⟩ : ∃ m : Nat, b'.toNat = m := ⟨_, rfl⟩
        rw [hm1, hm2] at HPI
        have HP := Lib.hid hp
        clear hp
        obtain ⟨V0, hV0⟩ : ∃ V, V = wr := ⟨wr, rfl⟩
        subst hV0
        go_wp2_with fail
        go_loopw [6, 7] (fun o6 o7 wq => ∃ (k : Nat), o7 = .int .i64 (k : Int) ∧ k ≤ 256 ∧ o6 = .int .i64 (if p < (k : Int) then p else -1) ∧ Below V0.heap.size V0 wq) (fun _ k _ => 256 - (intOf k).toNat)
        case atStart => exact ⟨0, rfl, by omega, by rw [show (if p < ((0 : Nat) : Int) then p else -1) = -1 by split <;> omega], Below.refl _ _⟩
        case round =>
          obtain ⟨k, rfl, hk, rfl, HQ⟩ := hrel
          by_cases hk2 : k < 256
          · have hkI : (k : Int) < 256 := by omega
            have hkadd : IntKind.i64.wrap ((k : Int) + 1) = (k : Int) + 1 := w64k (by omega) (by omega)
            have t2 : Int.tdiv (k : Int) 16 = ((k / 16 : Nat) : Int) := by rw [Int.tdiv_eq_ediv_of_nonneg (by omega)]; omega
            have t3 : Int.tmod (k : Int) 16 = ((k % 16 : Nat) : Int) := by rw [Int.tmod_eq_emod_of_nonneg (by omega)]; omega
            have hpk := HPI.out k hk2
            obtain ⟨c, hc⟩ : ∃ c, k / 16 = c := ⟨_, rfl⟩
            obtain ⟨d, hd⟩ : ∃ d, k % 16 = d := ⟨_, rfl⟩
            have hc16 : c < 16 := by omega
            have hd16 : d < 16 := by omega
            have t4 : IntKind.i64.wrap (c : Int) = (c : Int) := w64k (by omega) (by omega)
            rw [hc] at t2 hpk
            rw [hd] at t3 hpk
            have HC := Lib.hid hc
            have HD := Lib.hid hd
            clear hc hd
            obtain ⟨f, hf⟩ : ∃ f, (if p < (k : Int) then p else -1) = f := ⟨_, rfl⟩
            have HF := Lib.hid hf
            have HPK := Lib.hid hpk
            have C1 := fun w => refDigit_m c hc16 w
            have C2 := fun w => refDigit_m d hd16 w
            rw [hf]
            obtain ⟨da, hda⟩ : ∃ x, digN c = x := ⟨_, rfl⟩
            obtain ⟨db, hdb⟩ : ∃ x, digN d = x := ⟨_, rfl⟩
            rw [hda] at C1 HPK
            rw [hdb] at C2 HPK
            have HC1 := Lib.hid C1
            have HC2 := Lib.hid C2
            clear C1 C2 hpk hf hda hdb
            by_cases g1 : da = m1
            · have g1B : ((da : Int) == (m1 : Int)) = true := by simp [g1]
              by_cases g2 : db = m2
              · have g2B : ((db : Int) == (m2 : Int)) = true := by simp [g2]
                have hpe := HPK.out.1 ⟨g1, g2⟩
                clear g1 g2
                go_wp2_with fail
                refine wp_region_held_drew (S := (fun _ => True)) (by kernel_rfl) ?_ (fun hHeld => ?_)
                · replace HQ := Below.drew HQ; (try dsimp only); try trivial
                replace HQ := Below.drew HQ
                have zHQ := HQ.size
                refine take_movev (v := ?vu1x0) 0 (Operand.tmp 7) rfl rfl (by first | exact .inl rfl | exact .inr rfl) rfl (by kernel_rfl) (by kernel_rfl) (by kernel_rfl) (fun _ _ _ h => h) (by assumption) ?yu1x0 ?ru1x0
                case yu1x0 => (go_simp; try (with_reducible rfl))
                simp only [List.setIfInBounds_toArray, List.set_cons_zero, List.set_cons_succ]
                refine take_op (v := ?vu1x1) 1 (Op.binOp BinOp.quo 3 (Operand.tmp 22) (Operand.const (Value.int IntKind.i64 16)) 3) 3 rfl rfl rfl rfl rfl (by kernel_rfl) (by kernel_rfl) (by kernel_rfl) (fun _ _ _ h => h) ?yu1x1 (by assumption) ?ru1x1
                case yu1x1 => (intro w' hSw; (try dsimp only at hSw); go_simp; try (with_reducible rfl))
                simp only [List.setIfInBounds_toArray, List.set_cons_zero, List.set_cons_succ]
                refine take_movev (v := ?vu1x3) 3 (Operand.tmp 0) rfl rfl (by first | exact .inl rfl | exact .inr rfl) rfl (by kernel_rfl) (by kernel_rfl) (by kernel_rfl) (fun _ _ _ h => h) (by assumption) ?yu1x3 ?ru1x3
                case yu1x3 => (go_simp; try (with_reducible rfl))
                simp only [List.setIfInBounds_toArray, List.set_cons_zero, List.set_cons_succ]
                refine take_movev (v := ?vu1x4) 4 (Operand.tmp 5) rfl rfl (by first | exact .inl rfl | exact .inr rfl) rfl (by kernel_rfl) (by kernel_rfl) (by kernel_rfl) (fun _ _ _ h => h) (by assumption) ?yu1x4 ?ru1x4
                case yu1x4 => (go_simp; try (with_reducible rfl))
                simp only [List.setIfInBounds_toArray, List.set_cons_zero, List.set_cons_succ]
                refine take_op (v := ?vu1x5) 5 (Op.index 9 (Operand.tmp 25) (Operand.tmp 26)) 5 rfl rfl rfl rfl rfl (by kernel_rfl) (by kernel_rfl) (by kernel_rfl) (fun _ _ _ h => h) ?yu1x5 (by assumption) ?ru1x5
                case yu1x5 => (intro w' hSw; (try dsimp only at hSw); go_simp; try (with_reducible rfl))
                simp only [List.setIfInBounds_toArray, List.set_cons_zero, List.set_cons_succ]
                refine wpAnyH_ready (rs := [2]) (by kernel_rfl) (by simp) (AllReadyH.cons rfl (fun K2 hK2 => ?ku1x2) AllReadyH.nil)
                refine take_calls 2 36 [Operand.tmp 23] #[3] rfl rfl (by kernel_rfl) (fun args w => run_enter Tryd.func36 (by kernel_rfl) rfl args w) ?_
                refine (HC1.out _).mono ?_
                rintro e w2 ⟨rfl, hb2⟩
                refine ⟨_, rfl, ?_⟩
                have z2 := hb2.size
                try simp only [World.size_drew] at z2
                replace HQ := HQ.trans (hb2.mono (by first | exact HQ.size | omega))
                have zHQ2 := HQ.size
                refine hK2.out _ _ ?su1x2 (fun hHeld => ?ru1x2)
                case su1x2 => ((try dsimp only); try trivial)
                try simp only [List.setIfInBounds_toArray, List.set_cons_zero, List.set_cons_succ]
                refine take_op (v := ?vu1x6) 6 (Op.binOp BinOp.eql 5 (Operand.tmp 24) (Operand.tmp 27) 5) 4 rfl rfl rfl rfl rfl (by kernel_rfl) (by kernel_rfl) (by kernel_rfl) (fun _ _ _ h => h) ?yu1x6 (by assumption) ?ru1x6
                case yu1x6 => (intro w' hSw; (try dsimp only at hSw); go_simp; try (with_reducible rfl))
                simp only [List.setIfInBounds_toArray, List.set_cons_zero, List.set_cons_succ]
                refine take_movev (v := ?vu1x7) 7 (Operand.tmp 28) rfl rfl (by first | exact .inl rfl | exact .inr rfl) rfl (by kernel_rfl) (by kernel_rfl) (by kernel_rfl) (fun _ _ _ h => h) (by assumption) ?yu1x7 ?ru1x7
                case yu1x7 => (go_simp; try (with_reducible rfl))
                simp only [List.setIfInBounds_toArray, List.set_cons_zero, List.set_cons_succ]
                refine take_movev (v := ?vu1x8) 8 (Operand.tmp 7) rfl rfl (by first | exact .inl rfl | exact .inr rfl) rfl (by kernel_rfl) (by kernel_rfl) (by kernel_rfl) (fun _ _ _ h => h) (by assumption) ?yu1x8 ?ru1x8
                case yu1x8 => (go_simp; try (with_reducible rfl))
                simp only [List.setIfInBounds_toArray, List.set_cons_zero, List.set_cons_succ]
                refine take_op (v := ?vu1x9) 9 (Op.binOp BinOp.rem 3 (Operand.tmp 30) (Operand.const (Value.int IntKind.i64 16)) 3) 3 rfl rfl rfl rfl rfl (by kernel_rfl) (by kernel_rfl) (by kernel_rfl) (fun _ _ _ h => h) ?yu1x9 (by assumption) ?ru1x9
                case yu1x9 => (intro w' hSw; (try dsimp only at hSw); go_simp; try (with_reducible rfl))
                simp only [List.setIfInBounds_toArray, List.set_cons_zero, List.set_cons_succ]
                refine take_movev (v := ?vu1x11) 11 (Operand.tmp 0) rfl rfl (by first | exact .inl rfl | exact .inr rfl) rfl (by kernel_rfl) (by kernel_rfl) (by kernel_rfl) (fun _ _ _ h => h) (by assumption) ?yu1x11 ?ru1x11
                case yu1x11 => (go_simp; try (with_reducible rfl))
                simp only [List.setIfInBounds_toArray, List.set_cons_zero, List.set_cons_succ]
                refine take_movev (v := ?vu1x12) 12 (Operand.tmp 5) rfl rfl (by first | exact .inl rfl | exact .inr rfl) rfl (by kernel_rfl) (by kernel_rfl) (by kernel_rfl) (fun _ _ _ h => h) (by assumption) ?yu1x12 ?ru1x12
                case yu1x12 => (go_simp; try (with_reducible rfl))
                simp only [List.setIfInBounds_toArray, List.set_cons_zero, List.set_cons_succ]
                refine take_op (v := ?vu1x13) 13 (Op.binOp BinOp.add 3 (Operand.tmp 34) (Operand.const (Value.int IntKind.i64 1)) 3) 3 rfl rfl rfl rfl rfl (by kernel_rfl) (by kernel_rfl) (by kernel_rfl) (fun _ _ _ h => h) ?yu1x13 (by assumption) ?ru1x13
                case yu1x13 => (intro w' hSw; (try dsimp only at hSw); go_simp; try (with_reducible rfl))
                simp only [List.setIfInBounds_toArray, List.set_cons_zero, List.set_cons_succ]
                refine take_op (v := ?vu1x14) 14 (Op.index 9 (Operand.tmp 33) (Operand.tmp 35)) 5 rfl rfl rfl rfl rfl (by kernel_rfl) (by kernel_rfl) (by kernel_rfl) (fun _ _ _ h => h) ?yu1x14 (by assumption) ?ru1x14
                case yu1x14 => (intro w' hSw; (try dsimp only at hSw); go_simp; try (with_reducible rfl))
                simp only [List.setIfInBounds_toArray, List.set_cons_zero, List.set_cons_succ]
                refine wpAnyH_ready (rs := [10]) (by kernel_rfl) (by simp) (AllReadyH.cons rfl (fun K10 hK10 => ?ku1x10) AllReadyH.nil)
                refine take_calls 10 36 [Operand.tmp 31] #[3] rfl rfl (by kernel_rfl) (fun args w => run_enter Tryd.func36 (by kernel_rfl) rfl args w) ?_
                refine (HC2.out _).mono ?_
                rintro e w10 ⟨rfl, hb10⟩
                refine ⟨_, rfl, ?_⟩
                have z10 := hb10.size
                try simp only [World.size_drew] at z10
                replace HQ := HQ.trans (hb10.mono (by first | exact HQ.size | omega))
                have zHQ10 := HQ.size
                refine hK10.out _ _ ?su1x10 (fun hHeld => ?ru1x10)
                case su1x10 => ((try dsimp only); try trivial)
                try simp only [List.setIfInBounds_toArray, List.set_cons_zero, List.set_cons_succ]
                refine take_op (v := ?vu1x15) 15 (Op.binOp BinOp.eql 5 (Operand.tmp 32) (Operand.tmp 36) 5) 4 rfl rfl rfl rfl rfl (by kernel_rfl) (by kernel_rfl) (by kernel_rfl) (fun _ _ _ h => h) ?yu1x15 (by assumption) ?ru1x15
                case yu1x15 => (intro w' hSw; (try dsimp only at hSw); go_simp; try (with_reducible rfl))
                simp only [List.setIfInBounds_toArray, List.set_cons_zero, List.set_cons_succ]
                refine take_op (v := ?vu1x16) 16 (Op.pick (Operand.tmp 29) (Operand.tmp 37) (Operand.const (Value.bool false))) 4 rfl rfl rfl rfl rfl (by kernel_rfl) (by kernel_rfl) (by kernel_rfl) (fun _ _ _ h => h) ?yu1x16 (by assumption) ?ru1x16
                case yu1x16 => (intro w' hSw; (try dsimp only at hSw); go_simp; try (with_reducible rfl))
                simp only [List.setIfInBounds_toArray, List.set_cons_zero, List.set_cons_succ]
                refine wpAnyH_done (by kernel_rfl) ?_ _
                clear hHeld
                go_wp2_with fail
                go_roundw
                case rel => exact ⟨k + 1, by go_num, by omega, by rw [show (if p < ((k + 1 : Nat) : Int) then p else -1) = (k : Int) by split <;> omega], HQ⟩
                case measure => simp [intOf]; omega
              · have g2B : ((db : Int) == (m2 : Int)) = false := by simp; omega
                have hpe : ¬ p = (k : Int) := fun e => g2 (HPK.out.2 e).2
                clear g1 g2
                go_wp2_with fail
                refine wp_region_held_drew (S := (fun _ => True)) (by kernel_rfl) ?_ (fun hHeld => ?_)
                · replace HQ := Below.drew HQ; (try dsimp only); try trivial
                replace HQ := Below.drew HQ
                have zHQ := HQ.size
                refine take_movev (v := ?vu2x0) 0 (Operand.tmp 7) rfl rfl (by first | exact .inl rfl | exact .inr rfl) rfl (by kernel_rfl) (by kernel_rfl) (by kernel_rfl) (fun _ _ _ h => h) (by assumption) ?yu2x0 ?ru2x0
                case yu2x0 => (go_simp; try (with_reducible rfl))
                simp only [List.setIfInBounds_toArray, List.set_cons_zero, List.set_cons_succ]
                refine take_op (v := ?vu2x1) 1 (Op.binOp BinOp.quo 3 (Operand.tmp 22) (Operand.const (Value.int IntKind.i64 16)) 3) 3 rfl rfl rfl rfl rfl (by kernel_rfl) (by kernel_rfl) (by kernel_rfl) (fun _ _ _ h => h) ?yu2x1 (by assumption) ?ru2x1
                case yu2x1 => (intro w' hSw; (try dsimp only at hSw); go_simp; try (with_reducible rfl))
                simp only [List.setIfInBounds_toArray, List.set_cons_zero, List.set_cons_succ]
                refine take_movev (v := ?vu2x3) 3 (Operand.tmp 0) rfl rfl (by first | exact .inl rfl | exact .inr rfl) rfl (by kernel_rfl) (by kernel_rfl) (by kernel_rfl) (fun _ _ _ h => h) (by assumption) ?yu2x3 ?ru2x3
                case yu2x3 => (go_simp; try (with_reducible rfl))
                simp only [List.setIfInBounds_toArray, List.set_cons_zero, List.set_cons_succ]
                refine take_movev (v := ?vu2x4) 4 (Operand.tmp 5) rfl rfl (by first | exact .inl rfl | exact .inr rfl) rfl (by kernel_rfl) (by kernel_rfl) (by kernel_rfl) (fun _ _ _ h => h) (by assumption) ?yu2x4 ?ru2x4
                case yu2x4 => (go_simp; try (with_reducible rfl))
                simp only [List.setIfInBounds_toArray, List.set_cons_zero, List.set_cons_succ]
                refine take_op (v := ?vu2x5) 5 (Op.index 9 (Operand.tmp 25) (Operand.tmp 26)) 5 rfl rfl rfl rfl rfl (by kernel_rfl) (by kernel_rfl) (by kernel_rfl) (fun _ _ _ h => h) ?yu2x5 (by assumption) ?ru2x5
                case yu2x5 => (intro w' hSw; (try dsimp only at hSw); go_simp; try (with_reducible rfl))
                simp only [List.setIfInBounds_toArray, List.set_cons_zero, List.set_cons_succ]
                refine wpAnyH_ready (rs := [2]) (by kernel_rfl) (by simp) (AllReadyH.cons rfl (fun K2 hK2 => ?ku2x2) AllReadyH.nil)
                refine take_calls 2 36 [Operand.tmp 23] #[3] rfl rfl (by kernel_rfl) (fun args w => run_enter Tryd.func36 (by kernel_rfl) rfl args w) ?_
                refine (HC1.out _).mono ?_
                rintro e w2 ⟨rfl, hb2⟩
                refine ⟨_, rfl, ?_⟩
                have z2 := hb2.size
                try simp only [World.size_drew] at z2
                replace HQ := HQ.trans (hb2.mono (by first | exact HQ.size | omega))
                have zHQ2 := HQ.size
                refine hK2.out _ _ ?su2x2 (fun hHeld => ?ru2x2)
                case su2x2 => ((try dsimp only); try trivial)
                try simp only [List.setIfInBounds_toArray, List.set_cons_zero, List.set_cons_succ]
                refine take_op (v := ?vu2x6) 6 (Op.binOp BinOp.eql 5 (Operand.tmp 24) (Operand.tmp 27) 5) 4 rfl rfl rfl rfl rfl (by kernel_rfl) (by kernel_rfl) (by kernel_rfl) (fun _ _ _ h => h) ?yu2x6 (by assumption) ?ru2x6
                case yu2x6 => (intro w' hSw; (try dsimp only at hSw); go_simp; try (with_reducible rfl))
                simp only [List.setIfInBounds_toArray, List.set_cons_zero, List.set_cons_succ]
                refine take_movev (v := ?vu2x7) 7 (Operand.tmp 28) rfl rfl (by first | exact .inl rfl | exact .inr rfl) rfl (by kernel_rfl) (by kernel_rfl) (by kernel_rfl) (fun _ _ _ h => h) (by assumption) ?yu2x7 ?ru2x7
                case yu2x7 => (go_simp; try (with_reducible rfl))
                simp only [List.setIfInBounds_toArray, List.set_cons_zero, List.set_cons_succ]
                refine take_movev (v := ?vu2x8) 8 (Operand.tmp 7) rfl rfl (by first | exact .inl rfl | exact .inr rfl) rfl (by kernel_rfl) (by kernel_rfl) (by kernel_rfl) (fun _ _ _ h => h) (by assumption) ?yu2x8 ?ru2x8
                case yu2x8 => (go_simp; try (with_reducible rfl))
                simp only [List.setIfInBounds_toArray, List.set_cons_zero, List.set_cons_succ]
                refine take_op (v := ?vu2x9) 9 (Op.binOp BinOp.rem 3 (Operand.tmp 30) (Operand.const (Value.int IntKind.i64 16)) 3) 3 rfl rfl rfl rfl rfl (by kernel_rfl) (by kernel_rfl) (by kernel_rfl) (fun _ _ _ h => h) ?yu2x9 (by assumption) ?ru2x9
                case yu2x9 => (intro w' hSw; (try dsimp only at hSw); go_simp; try (with_reducible rfl))
                simp only [List.setIfInBounds_toArray, List.set_cons_zero, List.set_cons_succ]
                refine take_movev (v := ?vu2x11) 11 (Operand.tmp 0) rfl rfl (by first | exact .inl rfl | exact .inr rfl) rfl (by kernel_rfl) (by kernel_rfl) (by kernel_rfl) (fun _ _ _ h => h) (by assumption) ?yu2x11 ?ru2x11
                case yu2x11 => (go_simp; try (with_reducible rfl))
                simp only [List.setIfInBounds_toArray, List.set_cons_zero, List.set_cons_succ]
                refine take_movev (v := ?vu2x12) 12 (Operand.tmp 5) rfl rfl (by first | exact .inl rfl | exact .inr rfl) rfl (by kernel_rfl) (by kernel_rfl) (by kernel_rfl) (fun _ _ _ h => h) (by assumption) ?yu2x12 ?ru2x12
                case yu2x12 => (go_simp; try (with_reducible rfl))
                simp only [List.setIfInBounds_toArray, List.set_cons_zero, List.set_cons_succ]
                refine take_op (v := ?vu2x13) 13 (Op.binOp BinOp.add 3 (Operand.tmp 34) (Operand.const (Value.int IntKind.i64 1)) 3) 3 rfl rfl rfl rfl rfl (by kernel_rfl) (by kernel_rfl) (by kernel_rfl) (fun _ _ _ h => h) ?yu2x13 (by assumption) ?ru2x13
                case yu2x13 => (intro w' hSw; (try dsimp only at hSw); go_simp; try (with_reducible rfl))
                simp only [List.setIfInBounds_toArray, List.set_cons_zero, List.set_cons_succ]
                refine take_op (v := ?vu2x14) 14 (Op.index 9 (Operand.tmp 33) (Operand.tmp 35)) 5 rfl rfl rfl rfl rfl (by kernel_rfl) (by kernel_rfl) (by kernel_rfl) (fun _ _ _ h => h) ?yu2x14 (by assumption) ?ru2x14
                case yu2x14 => (intro w' hSw; (try dsimp only at hSw); go_simp; try (with_reducible rfl))
                simp only [List.setIfInBounds_toArray, List.set_cons_zero, List.set_cons_succ]
                refine wpAnyH_ready (rs := [10]) (by kernel_rfl) (by simp) (AllReadyH.cons rfl (fun K10 hK10 => ?ku2x10) AllReadyH.nil)
                refine take_calls 10 36 [Operand.tmp 31] #[3] rfl rfl (by kernel_rfl) (fun args w => run_enter Tryd.func36 (by kernel_rfl) rfl args w) ?_
                refine (HC2.out _).mono ?_
                rintro e w10 ⟨rfl, hb10⟩
                refine ⟨_, rfl, ?_⟩
                have z10 := hb10.size
                try simp only [World.size_drew] at z10
                replace HQ := HQ.trans (hb10.mono (by first | exact HQ.size | omega))
                have zHQ10 := HQ.size
                refine hK10.out _ _ ?su2x10 (fun hHeld => ?ru2x10)
                case su2x10 => ((try dsimp only); try trivial)
                try simp only [List.setIfInBounds_toArray, List.set_cons_zero, List.set_cons_succ]
                refine take_op (v := ?vu2x15) 15 (Op.binOp BinOp.eql 5 (Operand.tmp 32) (Operand.tmp 36) 5) 4 rfl rfl rfl rfl rfl (by kernel_rfl) (by kernel_rfl) (by kernel_rfl) (fun _ _ _ h => h) ?yu2x15 (by assumption) ?ru2x15
                case yu2x15 => (intro w' hSw; (try dsimp only at hSw); go_simp; try (with_reducible rfl))
                simp only [List.setIfInBounds_toArray, List.set_cons_zero, List.set_cons_succ]
                refine take_op (v := ?vu2x16) 16 (Op.pick (Operand.tmp 29) (Operand.tmp 37) (Operand.const (Value.bool false))) 4 rfl rfl rfl rfl rfl (by kernel_rfl) (by kernel_rfl) (by kernel_rfl) (fun _ _ _ h => h) ?yu2x16 (by assumption) ?ru2x16
                case yu2x16 => (intro w' hSw; (try dsimp only at hSw); go_simp; try (with_reducible rfl))
                simp only [List.setIfInBounds_toArray, List.set_cons_zero, List.set_cons_succ]
                refine wpAnyH_done (by kernel_rfl) ?_ _
                clear hHeld
                go_wp2_with fail
                go_roundw
                case rel => exact ⟨k + 1, by go_num, by omega, by rw [← HF.out]; congr 1; split <;> split <;> omega, HQ⟩
                case measure => simp [intOf]; omega
            · have g1B : ((da : Int) == (m1 : Int)) = false := by simp; omega
              have hpe : ¬ p = (k : Int) := fun e => g1 (HPK.out.2 e).1
              clear g1
              go_wp2_with fail
              refine wp_region_held_drew (S := (fun _ => True)) (by kernel_rfl) ?_ (fun hHeld => ?_)
              · replace HQ := Below.drew HQ; (try dsimp only); try trivial
              replace HQ := Below.drew HQ
              have zHQ := HQ.size
              refine take_movev (v := ?vu3x0) 0 (Operand.tmp 7) rfl rfl (by first | exact .inl rfl | exact .inr rfl) rfl (by kernel_rfl) (by kernel_rfl) (by kernel_rfl) (fun _ _ _ h => h) (by assumption) ?yu3x0 ?ru3x0
              case yu3x0 => (go_simp; try (with_reducible rfl))
              simp only [List.setIfInBounds_toArray, List.set_cons_zero, List.set_cons_succ]
              refine take_op (v := ?vu3x1) 1 (Op.binOp BinOp.quo 3 (Operand.tmp 22) (Operand.const (Value.int IntKind.i64 16)) 3) 3 rfl rfl rfl rfl rfl (by kernel_rfl) (by kernel_rfl) (by kernel_rfl) (fun _ _ _ h => h) ?yu3x1 (by assumption) ?ru3x1
              case yu3x1 => (intro w' hSw; (try dsimp only at hSw); go_simp; try (with_reducible rfl))
              simp only [List.setIfInBounds_toArray, List.set_cons_zero, List.set_cons_succ]
              refine take_movev (v := ?vu3x3) 3 (Operand.tmp 0) rfl rfl (by first | exact .inl rfl | exact .inr rfl) rfl (by kernel_rfl) (by kernel_rfl) (by kernel_rfl) (fun _ _ _ h => h) (by assumption) ?yu3x3 ?ru3x3
              case yu3x3 => (go_simp; try (with_reducible rfl))
              simp only [List.setIfInBounds_toArray, List.set_cons_zero, List.set_cons_succ]
              refine take_movev (v := ?vu3x4) 4 (Operand.tmp 5) rfl rfl (by first | exact .inl rfl | exact .inr rfl) rfl (by kernel_rfl) (by kernel_rfl) (by kernel_rfl) (fun _ _ _ h => h) (by assumption) ?yu3x4 ?ru3x4
              case yu3x4 => (go_simp; try (with_reducible rfl))
              simp only [List.setIfInBounds_toArray, List.set_cons_zero, List.set_cons_succ]
              refine take_op (v := ?vu3x5) 5 (Op.index 9 (Operand.tmp 25) (Operand.tmp 26)) 5 rfl rfl rfl rfl rfl (by kernel_rfl) (by kernel_rfl) (by kernel_rfl) (fun _ _ _ h => h) ?yu3x5 (by assumption) ?ru3x5
              case yu3x5 => (intro w' hSw; (try dsimp only at hSw); go_simp; try (with_reducible rfl))
              simp only [List.setIfInBounds_toArray, List.set_cons_zero, List.set_cons_succ]
              refine wpAnyH_ready (rs := [2]) (by kernel_rfl) (by simp) (AllReadyH.cons rfl (fun K2 hK2 => ?ku3x2) AllReadyH.nil)
              refine take_calls 2 36 [Operand.tmp 23] #[3] rfl rfl (by kernel_rfl) (fun args w => run_enter Tryd.func36 (by kernel_rfl) rfl args w) ?_
              refine (HC1.out _).mono ?_
              rintro e w2 ⟨rfl, hb2⟩
              refine ⟨_, rfl, ?_⟩
              have z2 := hb2.size
              try simp only [World.size_drew] at z2
              replace HQ := HQ.trans (hb2.mono (by first | exact HQ.size | omega))
              have zHQ2 := HQ.size
              refine hK2.out _ _ ?su3x2 (fun hHeld => ?ru3x2)
              case su3x2 => ((try dsimp only); try trivial)
              try simp only [List.setIfInBounds_toArray, List.set_cons_zero, List.set_cons_succ]
              refine take_op (v := ?vu3x6) 6 (Op.binOp BinOp.eql 5 (Operand.tmp 24) (Operand.tmp 27) 5) 4 rfl rfl rfl rfl rfl (by kernel_rfl) (by kernel_rfl) (by kernel_rfl) (fun _ _ _ h => h) ?yu3x6 (by assumption) ?ru3x6
              case yu3x6 => (intro w' hSw; (try dsimp only at hSw); go_simp; try (with_reducible rfl))
              simp only [List.setIfInBounds_toArray, List.set_cons_zero, List.set_cons_succ]
              refine take_movev (v := ?vu3x7) 7 (Operand.tmp 28) rfl rfl (by first | exact .inl rfl | exact .inr rfl) rfl (by kernel_rfl) (by kernel_rfl) (by kernel_rfl) (fun _ _ _ h => h) (by assumption) ?yu3x7 ?ru3x7
              case yu3x7 => (go_simp; try (with_reducible rfl))
              simp only [List.setIfInBounds_toArray, List.set_cons_zero, List.set_cons_succ]
              refine take_skip 8 rfl rfl rfl (by kernel_rfl) (by kernel_rfl) (by kernel_rfl) (fun _ _ _ h => h) (by assumption) ?_
              simp only [List.setIfInBounds_toArray, List.set_cons_zero, List.set_cons_succ]
              refine take_skip 9 rfl rfl rfl (by kernel_rfl) (by kernel_rfl) (by kernel_rfl) (fun _ _ _ h => h) (by assumption) ?_
              simp only [List.setIfInBounds_toArray, List.set_cons_zero, List.set_cons_succ]
              refine take_skip 10 rfl rfl rfl (by kernel_rfl) (by kernel_rfl) (by kernel_rfl) (fun _ _ _ h => h) (by assumption) ?_
              simp only [List.setIfInBounds_toArray, List.set_cons_zero, List.set_cons_succ]
              refine take_skip 11 rfl rfl rfl (by kernel_rfl) (by kernel_rfl) (by kernel_rfl) (fun _ _ _ h => h) (by assumption) ?_
              simp only [List.setIfInBounds_toArray, List.set_cons_zero, List.set_cons_succ]
              refine take_skip 12 rfl rfl rfl (by kernel_rfl) (by kernel_rfl) (by kernel_rfl) (fun _ _ _ h => h) (by assumption) ?_
              simp only [List.setIfInBounds_toArray, List.set_cons_zero, List.set_cons_succ]
              refine take_skip 13 rfl rfl rfl (by kernel_rfl) (by kernel_rfl) (by kernel_rfl) (fun _ _ _ h => h) (by assumption) ?_
              simp only [List.setIfInBounds_toArray, List.set_cons_zero, List.set_cons_succ]
              refine take_skip 14 rfl rfl rfl (by kernel_rfl) (by kernel_rfl) (by kernel_rfl) (fun _ _ _ h => h) (by assumption) ?_
              simp only [List.setIfInBounds_toArray, List.set_cons_zero, List.set_cons_succ]
              refine take_skip 15 rfl rfl rfl (by kernel_rfl) (by kernel_rfl) (by kernel_rfl) (fun _ _ _ h => h) (by assumption) ?_
              simp only [List.setIfInBounds_toArray, List.set_cons_zero, List.set_cons_succ]
              refine take_op (v := ?vu3x16) 16 (Op.pick (Operand.tmp 29) (Operand.tmp 37) (Operand.const (Value.bool false))) 4 rfl rfl rfl rfl rfl (by kernel_rfl) (by kernel_rfl) (by kernel_rfl) (fun _ _ _ h => h) ?yu3x16 (by assumption) ?ru3x16
              case yu3x16 => (intro w' hSw; (try dsimp only at hSw); go_simp; try (with_reducible rfl))
              simp only [List.setIfInBounds_toArray, List.set_cons_zero, List.set_cons_succ]
              refine wpAnyH_done (by kernel_rfl) ?_ _
              clear hHeld
              go_wp2_with fail
              go_roundw
              case rel => exact ⟨k + 1, by go_num, by omega, by rw [← HF.out]; congr 1; split <;> split <;> omega, HQ⟩
              case measure => simp [intOf]; omega
          · have hkI : ¬ (k : Int) < 256 := by omega
            have HB3 := HB.trans (HQ.mono hsz1)
            have ho3 := ho2.below HQ
            rw [show (if p < (k : Int) then p else -1) = p by split <;> omega]
            clear ho2 HQ
            by_cases hp0 : p < 0
            · obtain ⟨rfl, rfl⟩ := Prod.mk.inj (HNO.out (.inr (by
                have := HP.out
                unfold pairV at this
                by_cases h : hexB a = true ∧ hexB b' = true
                · rw [if_pos h] at this; omega
                · by_cases h2 : hexB a = true
                  · exact all_no s hexB (i + 1) hlt2 (by rw [HB2.out]; cases h3 : hexB b'; rfl; exact absurd ⟨h2, h3⟩ h)
                  · exact all_no s hexB i hlt (by rw [HA2.out]; simpa using h2))))
              go_wp2_with fail
              try rw [Exit.noGoto_ret]
              go_ret2
              exact ⟨rfl, HB3⟩
            · obtain ⟨pn, rfl⟩ : ∃ pn : Nat, p = (pn : Int) := ⟨p.toNat, by omega⟩
              have t7 : IntKind.u8.wrap (pn : Int) = (pn : Int) := by rw [IntKind.wrap_u8]; omega
              have hal := ho3.alloc (.cells #[.int .u8 (pn : Int)] 5)
              have hone : ∀ u ∈ [Value.int .u8 (pn : Int)], u.oneCell' = true := by intro u hu; rw [List.mem_singleton.1 hu]; rfl
              have hrd : Rd (wr.alloc (.cells [Value.int .u8 (pn : Int)].toArray 5)) (wr.heap.size + 1) 1 (some ⟨wr.heap.size, 0, none⟩) 1 [.int .u8 (pn : Int)] := rd_new rfl rfl
              have hboth : hexB a = true ∧ hexB b' = true := by
                have := HP.out
                unfold pairV at this
                by_cases h : hexB a = true ∧ hexB b' = true
                · exact h
                · rw [if_neg h] at this; omega
              have HU := Lib.hid (show byts (unpair (s.take (2 * (j + 1)))) = byts (unpair (s.take i)) ++ [.int .u8 (pn : Int)] by
                have e3 : s.take (i + 1 + 1) = s.take i ++ [a, b'] := by
                  rw [List.take_succ_eq_append_getElem hlt2, List.take_succ_eq_append_getElem hlt, List.append_assoc, HA2.out, HB2.out, List.singleton_append]
                have hi := HI.out
                rw [show 2 * (j + 1) = i + 1 + 1 by omega, e3, unpair_app j _ _ _ (by rw [List.length_take]; omega)]
                have := HP.out
                unfold pairV at this
                rw [if_pos hboth] at this
                simp only [byts, List.map_append, List.map_cons, List.map_nil, byt]
                congr 2
                rw [UInt8.toNat_ofNat']
                congr 1
                omega)
              have HA := Lib.hid (show (s.take (2 * (j + 1))).all hexB = true by
                have hi := HI.out
                rw [show 2 * (j + 1) = i + 1 + 1 by omega, List.take_succ_eq_append_getElem hlt2, List.take_succ_eq_append_getElem hlt, List.append_assoc, HA2.out, HB2.out, List.all_append, HALL.out]
                simp [hboth.1, hboth.2])
              clear hboth
              have hszr := HB3.size
              go_wp2_with (at_builtin; refine wp_append El_u8 rfl rfl rfl hal rfl hrd hone (by unfold maxLen; omega) (by omega) (by simp; omega) ?_; intro A' c' w2 ho4 hg2 at2)
              have hg3 := (World.grownBy_alloc wr (.cells #[.int .u8 (pn : Int)] 5) (blkOf A2)).trans hg2
              rw [← HU.out] at ho4
              have HB4 := below_grown HB3 hg3 ho3 (Nat.le_refl _)
              have hi := HI.out
              clear hg2 at2 hal hrd hg3
              go_wp2_with fail
              go_roundw
              case rel => exact ⟨j + 1, c', q + 1, A', rfl, by rw [show ((2 * (j + 1) : Nat) : Int) = (i : Int) + 2 by omega], by omega, by omega, ho4, HA.out, HB4⟩
              case measure => simp [intOf]; omega
      · have hiI : ¬ (i : Int) < (s.length : Int) := by omega
        have e2 := HALL.out
        rw [List.take_of_length_le (by omega)] at e2 ho2
        obtain ⟨rfl, rfl⟩ := Prod.mk.inj (HYES.out (by rintro (hh | hh); exact ho hh; rw [e2] at hh; cases hh))
        have hcv := run_bytes_str (P := Tryd.prog) wr Tryd.underlying94 Tryd.underlying5 Tryd.underlying9 (c := c2) ho2.rd
        clear e2 ho2 hi
        go_wp2_with fail
        go_ret2
        exact ⟨rfl, HB⟩
end WanW
end Go.Proofs.YtdeiehgghhiijaaDoor
