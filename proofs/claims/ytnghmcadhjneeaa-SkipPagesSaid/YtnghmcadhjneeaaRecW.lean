/- Walks over package record and its reference: may a record be, how many bytes has it. -/
import Derived.Test.YtnghmcadhjneeaaRecP
namespace Go.Proofs.Ytnghmcadhjneeaa
set_option linter.unusedVariables false
set_option linter.unusedSimpArgs false
set_option linter.unnecessarySimpa false
open Go.RowKit
namespace RecW

set_option maxHeartbeats 1000000 in
theorem check_any (r : Rc) (v : Int) (hv : chkR r = v) (w : World) :
    Calls Try.prog 53 #[recv r] w fun e w' => e = .returned (.int .i64 v) ∧ Below w.heap.size w w' := by
  obtain ⟨a, b, d⟩ := r
  have HV := Lib.hid hv
  clear hv
  go_enter Try.func53, Try.ntmps53
  go_wp2
  all_goals
    go_ret
    refine ⟨ret_int ?_, (by first | exact Below.refl _ _ | (repeat (first | exact Below.refl _ _ | assumption | refine Below.drew ?_ | refine Below.drewN_ ?_ _ | refine Below.alloc ?_ (by first | exact Nat.le_refl _ | (simp; done) | (simp; omega) | omega) _ | refine Below.setCell ?_ (by first | exact Nat.le_refl _ | (simp; done) | (simp; omega) | omega) _ | (refine Below.trans ?_ (Below.mono (by assumption) (by first | exact Nat.le_refl _ | (simp; done) | (simp; omega) | omega))))))⟩
    rw [← HV.out]
    simp only [chkR, okR]
    simp [*]
    try omega

/-- How many groups of seven bits are left of m. -/
def vg (m : Nat) : Nat := if m = 0 then 0 else vl 8 m
theorem vg_zero : vg 0 = 0 := rfl
theorem vg_step (m : Nat) (h : m < 72057594037927936) (h0 : 0 < m) : vg m = 1 + vg (m / 128) := by
  unfold vg
  rw [if_neg (by omega), vl]
  split
  · rw [if_pos (by omega)]
  · rw [if_neg (by omega), vl_bound 7 (m / 128) (by omega) 8 (by omega) (by omega)]
theorem vlen_vg (n : Nat) (h : n ≤ 9223372036854775807) : vlen n = 1 + vg (n / 128) := by
  unfold vlen vg
  rw [vl]
  split
  · rw [if_pos (by omega)]
  · rw [if_neg (by omega)]
theorem vg_le (m : Nat) : vg m ≤ 8 := by unfold vg; split; omega; exact vl_le 8 m

set_option maxHeartbeats 1000000 in
theorem vsize_any (n : Int) (w : World) (h0 : 0 ≤ n) (h1 : n ≤ 9223372036854775807) :
    Calls Try.prog 94 #[.int .i64 n] w fun e w' => e = .returned (.int .i64 (vlen n.toNat : Nat)) ∧ w' = w := by
  obtain ⟨n, rfl⟩ := Int.eq_ofNat_of_zero_le h0
  rw [Int.toNat_natCast]
  have H0 := Lib.hid (vlen_vg n (by omega))
  go_enter Try.func94, Try.ntmps94
  go_wp2
  go_loop [0, 3] (fun m k => ∃ (a j : Nat), m = .int .i64 a ∧ k = .int .i64 j ∧ a < 72057594037927936 ∧ j + vg a = vlen n ∧ j ≤ 10) (fun m _ => (intOf m).toNat)
  case atStart => exact ⟨n / 128, 1, by go_num, rfl, by omega, H0.out.symm, by omega⟩
  case round =>
    obtain ⟨a, j, rfl, rfl, ha, hj, hj2⟩ := hrel
    have HJ := Lib.hid hj
    clear hj
    have hb := vlen_le n
    by_cases hp : 0 < a
    · have HS := Lib.hid (vg_step a ha hp)
      go_wp2
      go_round
      case rel => exact ⟨a / 128, j + 1, by go_num, by go_num, by omega, by have := HS.out; have := HJ.out; omega, by have := HS.out; have := HJ.out; omega⟩
      case measure => simp [intOf]; omega
    · have hz : a = 0 := by omega
      subst hz
      go_wp2
      go_ret
      exact ⟨ret_int (by have := HJ.out; rw [vg_zero] at this; omega), rfl⟩

set_option maxHeartbeats 1000000 in
theorem size_any (r : Rc) (w : World) :
    Calls Try.prog 52 #[recv r] w fun e w' => e = .returned (.int .i64 (sizeN r : Nat)) ∧ Below w.heap.size w w' := by
  by_cases hok : okR r = true
  · have hch := chkR_yes hok
    have HSZ := Lib.hid (sizeN_yes hok)
    obtain ⟨h1, h2, h3, h4, h5⟩ := (okR_iff r).1 hok
    obtain ⟨a, b, d⟩ := r
    dsimp only at h1 h2 h3 h4 h5
    have HC := Lib.hid hch
    clear hch hok
    have hk1 := vlen_le a.toNat
    have hk2 := vlen_le b.toNat
    have hk3 := vlen_le d.length
    go_enter Try.func52, Try.ntmps52
    go_wp2_with fail
    refine (check_any (a, b, d) 0 HC.out _).mono ?_
    rintro e w1 ⟨rfl, hb1⟩
    have HB : Below w.heap.size w w1 := (Below.trans (by first | exact Below.refl _ _ | (repeat (first | exact Below.refl _ _ | assumption | refine Below.drew ?_ | refine Below.drewN_ ?_ _ | refine Below.alloc ?_ (by first | exact Nat.le_refl _ | (simp; done) | (simp; omega) | omega) _ | refine Below.setCell ?_ (by first | exact Nat.le_refl _ | (simp; done) | (simp; omega) | omega) _ | (refine Below.trans ?_ (Below.mono (by assumption) (by first | exact Nat.le_refl _ | (simp; done) | (simp; omega) | omega)))))) (Below.mono hb1 (by first | exact Nat.le_refl _ | (simp only [World.size_alloc, World.size_setCell, World.size_drew]; omega) | (simp; done) | (simp; omega) | omega)))
    have g1 : Blk w1 w.heap.size 26 #[.int .i64 a, .int .i64 b, str d] := Blk.below (by repeat (first | with_reducible assumption | exact Blk.new _ _ _ | (simpa using Blk.new _ _ _) | with_reducible apply Blk.drewN | with_reducible apply Blk.drew | with_reducible apply Blk.alloc)) hb1 (by first | exact Nat.le_refl _ | (simp only [World.size_alloc, World.size_setCell, World.size_drew]; omega) | (simp; done) | (simp; omega) | omega)
    obtain ⟨c0, c1, c2, f0, f1, f2, z0⟩ := blk3 g1
    clear hb1
    go_wp2_with fail
    have s1 : IntKind.i64.wrap ((vlen a.toNat : Int) + (vlen b.toNat : Int)) = (vlen a.toNat : Int) + (vlen b.toNat : Int) := IntWalk.i64_in _ (by omega)
    have s2 : IntKind.i64.wrap ((vlen a.toNat : Int) + (vlen b.toNat : Int) + (vlen d.length : Int)) = (vlen a.toNat : Int) + (vlen b.toNat : Int) + (vlen d.length : Int) := IntWalk.i64_in _ (by omega)
    have s3 : IntKind.i64.wrap ((vlen a.toNat : Int) + (vlen b.toNat : Int) + (vlen d.length : Int) + (d.length : Int)) = (vlen a.toNat : Int) + (vlen b.toNat : Int) + (vlen d.length : Int) + (d.length : Int) := IntWalk.i64_in _ (by omega)
    go_quiet ((go_at_call 94; exact Calls.quiet_of_same (vsize_any _ _ (by omega) (by omega))))
    clear s1 s2 s3
    go_wp2
    go_ret
    refine ⟨ret_int ?_, (by first | exact Below.refl _ _ | (repeat (first | exact Below.refl _ _ | assumption | refine Below.drew ?_ | refine Below.drewN_ ?_ _ | refine Below.alloc ?_ (by first | exact Nat.le_refl _ | (simp; done) | (simp; omega) | omega) _ | refine Below.setCell ?_ (by first | exact Nat.le_refl _ | (simp; done) | (simp; omega) | omega) _ | (refine Below.trans ?_ (Below.mono (by assumption) (by first | exact Nat.le_refl _ | (simp; done) | (simp; omega) | omega))))))⟩
    rw [HSZ.out]
    simp
  · have hn : okR r = false := by simpa using hok
    have HC := Lib.hid (chkR_no hn)
    have HSZ := Lib.hid (sizeN_no hn)
    obtain ⟨a, b, d⟩ := r
    clear hok hn
    have go : ∀ (a b : Int) (d : List UInt8), sizeN (a, b, d) = 0 → chkR (a, b, d) = 150 → (a ≠ 0 ∨ b ≠ 0 ∨ d ≠ []) → 
        Calls Try.prog 52 #[recv (a, b, d)] w fun e w' => e = .returned (.int .i64 (sizeN (a, b, d) : Nat)) ∧ Below w.heap.size w w' := by
      intro a b d hs hc hz
      have HC := Lib.hid hc
      have HSZ := Lib.hid hs
      clear hs hc
      have hz' : a ≠ 0 ∨ (a = 0 ∧ b ≠ 0) ∨ (a = 0 ∧ b = 0 ∧ d ≠ []) := by
        by_cases h : a = 0
        · by_cases h2 : b = 0
          · exact .inr (.inr ⟨h, h2, by rcases hz with h3 | h3 | h3 <;> first | exact h3 | contradiction⟩)
          · exact .inr (.inl ⟨h, h2⟩)
        · exact .inl h
      clear hz
      rcases hz' with hz | ⟨rfl, hz⟩ | ⟨rfl, rfl, hz⟩
      all_goals
        go_enter Try.func52, Try.ntmps52
        go_wp2_with fail
        refine (check_any _ 150 HC.out _).mono ?_
        rintro e w1 ⟨rfl, hb1⟩
        have HB : Below w.heap.size w w1 := (Below.trans (by first | exact Below.refl _ _ | (repeat (first | exact Below.refl _ _ | assumption | refine Below.drew ?_ | refine Below.drewN_ ?_ _ | refine Below.alloc ?_ (by first | exact Nat.le_refl _ | (simp; done) | (simp; omega) | omega) _ | refine Below.setCell ?_ (by first | exact Nat.le_refl _ | (simp; done) | (simp; omega) | omega) _ | (refine Below.trans ?_ (Below.mono (by assumption) (by first | exact Nat.le_refl _ | (simp; done) | (simp; omega) | omega)))))) (Below.mono hb1 (by first | exact Nat.le_refl _ | (simp only [World.size_alloc, World.size_setCell, World.size_drew]; omega) | (simp; done) | (simp; omega) | omega)))
        clear hb1
        go_wp2_with fail
        go_ret
        exact ⟨ret_int (by rw [HSZ.out]; rfl), HB⟩
    by_cases hz : a = 0 ∧ b = 0 ∧ d = []
    · obtain ⟨rfl, rfl, rfl⟩ := hz
      go_enter Try.func52, Try.ntmps52
      go_wp2_with fail
      go_ret
      exact ⟨ret_int (by rw [HSZ.out]; rfl), (by first | exact Below.refl _ _ | (repeat (first | exact Below.refl _ _ | assumption | refine Below.drew ?_ | refine Below.drewN_ ?_ _ | refine Below.alloc ?_ (by first | exact Nat.le_refl _ | (simp; done) | (simp; omega) | omega) _ | refine Below.setCell ?_ (by first | exact Nat.le_refl _ | (simp; done) | (simp; omega) | omega) _ | (refine Below.trans ?_ (Below.mono (by assumption) (by first | exact Nat.le_refl _ | (simp; done) | (simp; omega) | omega))))))⟩
    · refine go a b d HSZ.out HC.out ?_
      by_cases h : a = 0
      · by_cases h2 : b = 0
        · exact .inr (.inr fun h3 => hz ⟨h, h2, h3⟩)
        · exact .inr (.inl h2)
      · exact .inl h

theorem div128 {n f : Nat} (h : n < 128 ^ (f + 1)) : n / 128 < 128 ^ f := by
  rw [Nat.div_lt_iff_lt_mul (by omega)]; rw [Nat.pow_succ] at h; exact h

def putRN (r : Rc) : List UInt8 := if okR r then putR r else []
theorem sizeN_put (r : Rc) : sizeN r = (putRN r).length := by unfold sizeN putRN; split <;> rfl

end RecW
end Go.Proofs.Ytnghmcadhjneeaa
