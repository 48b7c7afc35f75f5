/- The walks of package kmp: a step. -/
import Derived.Test.YtdeiehgghhiijaaDoorKmpP
import Derived.Test.YtdeiehgghhiijaaDoorMem
import Derived.ScopeJumps
namespace Go.Proofs.YtdeiehgghhiijaaDoor
set_option linter.unusedVariables false
set_option linter.unusedSimpArgs false
set_option linter.unnecessarySimpa false
open Go.RowKit
namespace KmpW

set_option maxRecDepth 100000 in
set_option maxHeartbeats 4000000 in
theorem step_any (p t : List UInt8) (b : UInt8) (A : Option Addr) (n c : Nat) (w : World) (hp : p.length ≤ 100000) (hn : M p t ≤ n) (hn2 : n ≤ 100000)
    (hF : 0 < M p t → ∃ fb fo, A = some ⟨fb, fo, none⟩ ∧ ∀ j, j < M p t → w.cell? ⟨fb, fo + j, none⟩ = some (.int .i64 (brd p j : Nat))) (v : Nat) (hv : M p (t ++ [b]) = v) :
    Calls Tryd.prog 114 #[str p, .slice A n c, .int .i64 (M p t : Nat), .int .u8 (b.toNat : Int)] w fun e w' => e = .returned (.int .i64 (v : Nat)) ∧ w = w' := by
  have H0 := Lib.hid (Inv.start p t b)
  have HF := Lib.hid hF
  have HV := Lib.hid hv
  generalize hm : M p t = m at *
  clear hF hm hv
  have hbn := b.toNat_lt
  go_enter Tryd.func114, Tryd.ntmps114
  go_wp2
  refine wp_scope_jumps 0 (fun a' w' => ∃ (s : Nat) (u4 u5 u6 u7 u8 u9 u10 u11 u12 u13 u14 u15 u16 u17 u18 u19 u20 u21 u22 u23 u24 u25 u26 u27 u28 u29 u30 : Value), w' = w ∧ a' = { tmps := #[str p, .slice A n c, .int .i64 (s : Nat), .int .u8 (b.toNat : Int), u4, u5, u6, u7, u8, u9, u10, u11, u12, u13, u14, u15, u16, u17, u18, u19, u20, u21, u22, u23, u24, u25, u26, u27, u28, u29, u30], defers := [] } ∧ s ≤ m ∧ Inv p t b s) (fun a' _ => (intOf (a'.tmps.getD 2 undef)).toNat) rfl ?_ ?_
  · go_wp2
    go_step3
    have hle : m ≤ m := Nat.le_refl _
    have HI := H0
    by_cases hs : m < p.length
    · obtain ⟨cb, hb, hb'⟩ : ∃ x, (⟨p.toArray⟩ : ByteArray)[m]'(by show m < p.toArray.size; simpa using hs) = x ∧ p[m] = x := ⟨_, rfl, rfl⟩
      have HB' := Lib.hid hb'
      have hcb := cb.toNat_lt
      have hsi : (m : Int) < (p.length : Int) := by omega
      clear hb'
      by_cases he : cb = b
      · have HH := Lib.hid (HI.out.hit hs (HB'.out.trans he))
        subst he
        go_wp2_with fail
        simp only [Exit.jump]
        go_ret
        exact ⟨by rw [← HV.out, HH.out]; rfl, rfl⟩
      · have heI : ((cb.toNat : Int) == (b.toNat : Int)) = false := by
          rw [beq_eq_false_iff_ne]
          intro hh
          exact he (UInt8.toNat_inj.1 (by omega))
        have HE := Lib.hid he
        clear he
        skip
        rcases Nat.eq_zero_or_pos m with h0 | h0
        · subst h0
          have HZ := Lib.hid (HI.out.zero (fun hs2 => by (first | exact HE.out (HB'.out.symm.trans ‹_›) | (intro hh; exact HE.out (HB'.out.symm.trans hh)))))
          go_wp2_with fail
          simp only [Exit.jump]
          go_ret
          exact ⟨by rw [← HV.out, HZ.out]; rfl, rfl⟩
        · obtain ⟨q, hq⟩ : ∃ q, m = q + 1 := ⟨m - 1, by omega⟩
          subst hq
          obtain ⟨fb, fo, rfl, hcells⟩ := HF.out (by omega)
          have d0 := hcells q (by omega)
          have hca : (q : Int) + 1 - 1 = (q : Int) := by omega
          have hqn : (q : Int) < (n : Int) := by omega
          have hq0 : (0 : Int) ≤ (q : Int) := by omega
          clear hcells
          go_wp2_with fail
          go_step3
          refine ⟨rfl, brd p q, _, _, _, _, _, _, _, _, _, _, _, _, _, _, _, _, _, _, _, _, _, _, _, _, _, _, _, rfl, rfl, by have := brd_lt (p := p) (j := q); omega, HI.out.next (fun hs2 => by (first | exact HE.out (HB'.out.symm.trans ‹_›) | (intro hh; exact HE.out (HB'.out.symm.trans hh))))⟩
    · have hsi : ¬ (m : Int) < (p.length : Int) := by omega
      skip
      rcases Nat.eq_zero_or_pos m with h0 | h0
      · subst h0
        have HZ := Lib.hid (HI.out.zero (fun hs2 => absurd hs2 (by omega)))
        go_wp2_with fail
        simp only [Exit.jump]
        go_ret
        exact ⟨by rw [← HV.out, HZ.out]; rfl, rfl⟩
      · obtain ⟨q, hq⟩ : ∃ q, m = q + 1 := ⟨m - 1, by omega⟩
        subst hq
        obtain ⟨fb, fo, rfl, hcells⟩ := HF.out (by omega)
        have d0 := hcells q (by omega)
        have hca : (q : Int) + 1 - 1 = (q : Int) := by omega
        have hqn : (q : Int) < (n : Int) := by omega
        have hq0 : (0 : Int) ≤ (q : Int) := by omega
        clear hcells
        go_wp2_with fail
        go_step3
        refine ⟨rfl, brd p q, _, _, _, _, _, _, _, _, _, _, _, _, _, _, _, _, _, _, _, _, _, _, _, _, _, _, _, rfl, rfl, by have := brd_lt (p := p) (j := q); omega, HI.out.next (fun hs2 => absurd hs2 (by omega))⟩
  · rintro a' w' ⟨s, u4, u5, u6, u7, u8, u9, u10, u11, u12, u13, u14, u15, u16, u17, u18, u19, u20, u21, u22, u23, u24, u25, u26, u27, u28, u29, u30, rfl, rfl, hle, hinv⟩
    have HI := Lib.hid hinv
    clear hinv
    by_cases hs : s < p.length
    · obtain ⟨cb, hb, hb'⟩ : ∃ x, (⟨p.toArray⟩ : ByteArray)[s]'(by show s < p.toArray.size; simpa using hs) = x ∧ p[s] = x := ⟨_, rfl, rfl⟩
      have HB' := Lib.hid hb'
      have hcb := cb.toNat_lt
      have hsi : (s : Int) < (p.length : Int) := by omega
      clear hb'
      by_cases he : cb = b
      · have HH := Lib.hid (HI.out.hit hs (HB'.out.trans he))
        subst he
        go_wp2_with fail
        simp only [Exit.jump]
        go_ret
        exact ⟨by rw [← HV.out, HH.out]; rfl, rfl⟩
      · have heI : ((cb.toNat : Int) == (b.toNat : Int)) = false := by
          rw [beq_eq_false_iff_ne]
          intro hh
          exact he (UInt8.toNat_inj.1 (by omega))
        have HE := Lib.hid he
        clear he
        skip
        rcases Nat.eq_zero_or_pos s with h0 | h0
        · subst h0
          have HZ := Lib.hid (HI.out.zero (fun hs2 => by (first | exact HE.out (HB'.out.symm.trans ‹_›) | (intro hh; exact HE.out (HB'.out.symm.trans hh)))))
          go_wp2_with fail
          simp only [Exit.jump]
          go_ret
          exact ⟨by rw [← HV.out, HZ.out]; rfl, rfl⟩
        · obtain ⟨q, hq⟩ : ∃ q, s = q + 1 := ⟨s - 1, by omega⟩
          subst hq
          obtain ⟨fb, fo, rfl, hcells⟩ := HF.out (by omega)
          have d0 := hcells q (by omega)
          have hca : (q : Int) + 1 - 1 = (q : Int) := by omega
          have hqn : (q : Int) < (n : Int) := by omega
          have hq0 : (0 : Int) ≤ (q : Int) := by omega
          clear hcells
          go_wp2_with fail
          go_step3
          refine ⟨rfl, ⟨brd p q, _, _, _, _, _, _, _, _, _, _, _, _, _, _, _, _, _, _, _, _, _, _, _, _, _, _, _, rfl, rfl, by have := brd_lt (p := p) (j := q); omega, HI.out.next (fun hs2 => by (first | exact HE.out (HB'.out.symm.trans ‹_›) | (intro hh; exact HE.out (HB'.out.symm.trans hh))))⟩, by have := brd_lt (p := p) (j := q); simp [intOf]; omega⟩
    · have hsi : ¬ (s : Int) < (p.length : Int) := by omega
      skip
      rcases Nat.eq_zero_or_pos s with h0 | h0
      · subst h0
        have HZ := Lib.hid (HI.out.zero (fun hs2 => absurd hs2 (by omega)))
        go_wp2_with fail
        simp only [Exit.jump]
        go_ret
        exact ⟨by rw [← HV.out, HZ.out]; rfl, rfl⟩
      · obtain ⟨q, hq⟩ : ∃ q, s = q + 1 := ⟨s - 1, by omega⟩
        subst hq
        obtain ⟨fb, fo, rfl, hcells⟩ := HF.out (by omega)
        have d0 := hcells q (by omega)
        have hca : (q : Int) + 1 - 1 = (q : Int) := by omega
        have hqn : (q : Int) < (n : Int) := by omega
        have hq0 : (0 : Int) ≤ (q : Int) := by omega
        clear hcells
        go_wp2_with fail
        go_step3
        refine ⟨rfl, ⟨brd p q, _, _, _, _, _, _, _, _, _, _, _, _, _, _, _, _, _, _, _, _, _, _, _, _, _, _, _, rfl, rfl, by have := brd_lt (p := p) (j := q); omega, HI.out.next (fun hs2 => absurd hs2 (by omega))⟩, by have := brd_lt (p := p) (j := q); simp [intOf]; omega⟩
end KmpW
end Go.Proofs.YtdeiehgghhiijaaDoor
