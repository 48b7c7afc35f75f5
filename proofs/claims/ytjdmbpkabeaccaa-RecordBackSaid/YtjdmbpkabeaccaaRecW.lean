/- Walks over package record and its reference: may a record be, how many bytes has it. -/
import Derived.Test.YtjdmbpkabeaccaaRecP
namespace Go.Proofs.Ytjdmbpkabeaccaa
set_option linter.unusedVariables false
set_option linter.unusedSimpArgs false
set_option linter.unnecessarySimpa false
open Go.RowKit
namespace RecW

set_option maxHeartbeats 1000000 in
theorem check_any (r : Rc) (v : Int) (hv : chkR r = v) (w : World) :
    Calls Try.prog 51 #[recv r] w fun e w' => e = .returned (.int .i64 v) ∧ Below w.heap.size w w' := by
  obtain ⟨a, b, d⟩ := r
  have HV := Lib.hid hv
  clear hv
  go_enter Try.func51, Try.ntmps51
  go_wp2
  all_goals
    go_ret
    refine ⟨ret_int ?_, (by first | exact Below.refl _ _ | (repeat (first | exact Below.refl _ _ | assumption | refine Below.drew ?_ | refine Below.drewN_ ?_ _ | refine Below.alloc ?_ (by first | exact Nat.le_refl _ | (simp; done) | (simp; omega) | omega) _ | refine Below.setCell ?_ (by first | exact Nat.le_refl _ | (simp; done) | (simp; omega) | omega) _ | (refine Below.trans ?_ (Below.mono (by assumption) (by first | exact Nat.le_refl _ | (simp; done) | (simp; omega) | omega))))))⟩
    rw [← HV.out]
    simp only [chkR, okR]
    simp [*]
    try omega

set_option maxHeartbeats 1000000 in
theorem refCheck_any (r : Rc) (v : Int) (hv : chkR r = v) (w : World) :
    Calls Try.prog 52 #[recv r] w fun e w' => e = .returned (.int .i64 v) ∧ Below w.heap.size w w' := by
  obtain ⟨a, b, d⟩ := r
  have HV := Lib.hid hv
  clear hv
  go_enter Try.func52, Try.ntmps52
  go_wp2
  all_goals
    go_ret
    refine ⟨ret_int ?_, (by first | exact Below.refl _ _ | (repeat (first | exact Below.refl _ _ | assumption | refine Below.drew ?_ | refine Below.drewN_ ?_ _ | refine Below.alloc ?_ (by first | exact Nat.le_refl _ | (simp; done) | (simp; omega) | omega) _ | refine Below.setCell ?_ (by first | exact Nat.le_refl _ | (simp; done) | (simp; omega) | omega) _ | (refine Below.trans ?_ (Below.mono (by assumption) (by first | exact Nat.le_refl _ | (simp; done) | (simp; omega) | omega))))))⟩
    rw [← HV.out]
    simp only [chkR, okR]
    simp [*]
    try omega

/-- How many groups of seven bits are left of m. -/
def vg (m : Nat) : Nat := if m = 0 then 0 else vl 8 m
theorem vg_zero : vg 0 = 0 := rfl
theorem vg_step (m : Nat) (h : m < 72057594037927936) (h0 : 0 < m) : vg m = 1 + vg (m / 128) := by
  unfold vg
  rw [if_neg (by omega), vl]
  split
  · rw [if_pos (by omega)]
  · rw [if_neg (by omega), vl_bound 7 (m / 128) (by omega) 8 (by omega) (by omega)]
theorem vlen_vg (n : Nat) (h : n ≤ 9223372036854775807) : vlen n = 1 + vg (n / 128) := by
  unfold vlen vg
  rw [vl]
  split
  · rw [if_pos (by omega)]
  · rw [if_neg (by omega)]
theorem vg_le (m : Nat) : vg m ≤ 8 := by unfold vg; split; omega; exact vl_le 8 m

set_option maxHeartbeats 1000000 in
theorem vsize_any (n : Int) (w : World) (h0 : 0 ≤ n) (h1 : n ≤ 9223372036854775807) :
    Calls Try.prog 19 #[.int .i64 n] w fun e w' => e = .returned (.int .i64 (vlen n.toNat : Nat)) ∧ w' = w := by
  obtain ⟨n, rfl⟩ := Int.eq_ofNat_of_zero_le h0
  rw [Int.toNat_natCast]
  have H0 := Lib.hid (vlen_vg n (by omega))
  go_enter Try.func19, Try.ntmps19
  go_wp2
  go_loop [0, 3] (fun m k => ∃ (a j : Nat), m = .int .i64 a ∧ k = .int .i64 j ∧ a < 72057594037927936 ∧ j + vg a = vlen n ∧ j ≤ 10) (fun m _ => (intOf m).toNat)
  case atStart => exact ⟨n / 128, 1, by go_num, rfl, by omega, H0.out.symm, by omega⟩
  case round =>
    obtain ⟨a, j, rfl, rfl, ha, hj, hj2⟩ := hrel
    have HJ := Lib.hid hj
    clear hj
    have hb := vlen_le n
    by_cases hp : 0 < a
    · have HS := Lib.hid (vg_step a ha hp)
      go_wp2
      go_round
      case rel => exact ⟨a / 128, j + 1, by go_num, by go_num, by omega, by have := HS.out; have := HJ.out; omega, by have := HS.out; have := HJ.out; omega⟩
      case measure => simp [intOf]; omega
    · have hz : a = 0 := by omega
      subst hz
      go_wp2
      go_ret
      exact ⟨ret_int (by have := HJ.out; rw [vg_zero] at this; omega), rfl⟩

set_option maxHeartbeats 1000000 in
theorem size_any (r : Rc) (w : World) :
    Calls Try.prog 53 #[recv r] w fun e w' => e = .returned (.int .i64 (sizeN r : Nat)) ∧ Below w.heap.size w w' := by
  by_cases hok : okR r = true
  · have hch := chkR_yes hok
    have HSZ := Lib.hid (sizeN_yes hok)
    obtain ⟨h1, h2, h3, h4, h5⟩ := (okR_iff r).1 hok
    obtain ⟨a, b, d⟩ := r
    dsimp only at h1 h2 h3 h4 h5
    have HC := Lib.hid hch
    clear hch hok
    have hk1 := vlen_le a.toNat
    have hk2 := vlen_le b.toNat
    have hk3 := vlen_le d.length
    go_enter Try.func53, Try.ntmps53
    go_wp2_with fail
    refine (check_any (a, b, d) 0 HC.out _).mono ?_
    rintro e w1 ⟨rfl, hb1⟩
    have HB : Below w.heap.size w w1 := (Below.trans (by first | exact Below.refl _ _ | (repeat (first | exact Below.refl _ _ | assumption | refine Below.drew ?_ | refine Below.drewN_ ?_ _ | refine Below.alloc ?_ (by first | exact Nat.le_refl _ | (simp; done) | (simp; omega) | omega) _ | refine Below.setCell ?_ (by first | exact Nat.le_refl _ | (simp; done) | (simp; omega) | omega) _ | (refine Below.trans ?_ (Below.mono (by assumption) (by first | exact Nat.le_refl _ | (simp; done) | (simp; omega) | omega)))))) (Below.mono hb1 (by first | exact Nat.le_refl _ | (simp only [World.size_alloc, World.size_setCell, World.size_drew]; omega) | (simp; done) | (simp; omega) | omega)))
    have g1 : Blk w1 w.heap.size 72 #[.int .i64 a, .int .i64 b, str d] := Blk.below (by repeat (first | with_reducible assumption | exact Blk.new _ _ _ | (simpa using Blk.new _ _ _) | with_reducible apply Blk.drewN | with_reducible apply Blk.drew | with_reducible apply Blk.alloc)) hb1 (by first | exact Nat.le_refl _ | (simp only [World.size_alloc, World.size_setCell, World.size_drew]; omega) | (simp; done) | (simp; omega) | omega)
    obtain ⟨c0, c1, c2, f0, f1, f2, z0⟩ := blk3 g1
    clear hb1
    go_wp2_with fail
    have s1 : IntKind.i64.wrap ((vlen a.toNat : Int) + (vlen b.toNat : Int)) = (vlen a.toNat : Int) + (vlen b.toNat : Int) := IntWalk.i64_in _ (by omega)
    have s2 : IntKind.i64.wrap ((vlen a.toNat : Int) + (vlen b.toNat : Int) + (vlen d.length : Int)) = (vlen a.toNat : Int) + (vlen b.toNat : Int) + (vlen d.length : Int) := IntWalk.i64_in _ (by omega)
    have s3 : IntKind.i64.wrap ((vlen a.toNat : Int) + (vlen b.toNat : Int) + (vlen d.length : Int) + (d.length : Int)) = (vlen a.toNat : Int) + (vlen b.toNat : Int) + (vlen d.length : Int) + (d.length : Int) := IntWalk.i64_in _ (by omega)
    go_quiet ((go_at_call 19; exact Calls.quiet_of_same (vsize_any _ _ (by omega) (by omega))))
    clear s1 s2 s3
    go_wp2
    go_ret
    refine ⟨ret_int ?_, (by first | exact Below.refl _ _ | (repeat (first | exact Below.refl _ _ | assumption | refine Below.drew ?_ | refine Below.drewN_ ?_ _ | refine Below.alloc ?_ (by first | exact Nat.le_refl _ | (simp; done) | (simp; omega) | omega) _ | refine Below.setCell ?_ (by first | exact Nat.le_refl _ | (simp; done) | (simp; omega) | omega) _ | (refine Below.trans ?_ (Below.mono (by assumption) (by first | exact Nat.le_refl _ | (simp; done) | (simp; omega) | omega))))))⟩
    rw [HSZ.out]
    simp
  · have hn : okR r = false := by simpa using hok
    have HC := Lib.hid (chkR_no hn)
    have HSZ := Lib.hid (sizeN_no hn)
    obtain ⟨a, b, d⟩ := r
    clear hok hn
    have go : ∀ (a b : Int) (d : List UInt8), sizeN (a, b, d) = 0 → chkR (a, b, d) = 150 → (a ≠ 0 ∨ b ≠ 0 ∨ d ≠ []) → 
        Calls Try.prog 53 #[recv (a, b, d)] w fun e w' => e = .returned (.int .i64 (sizeN (a, b, d) : Nat)) ∧ Below w.heap.size w w' := by
      intro a b d hs hc hz
      have HC := Lib.hid hc
      have HSZ := Lib.hid hs
      clear hs hc
      have hz' : a ≠ 0 ∨ (a = 0 ∧ b ≠ 0) ∨ (a = 0 ∧ b = 0 ∧ d ≠ []) := by
        by_cases h : a = 0
        · by_cases h2 : b = 0
          · exact .inr (.inr ⟨h, h2, by rcases hz with h3 | h3 | h3 <;> first | exact h3 | contradiction⟩)
          · exact .inr (.inl ⟨h, h2⟩)
        · exact .inl h
      clear hz
      rcases hz' with hz | ⟨rfl, hz⟩ | ⟨rfl, rfl, hz⟩
      all_goals
        go_enter Try.func53, Try.ntmps53
        go_wp2_with fail
        refine (check_any _ 150 HC.out _).mono ?_
        rintro e w1 ⟨rfl, hb1⟩
        have HB : Below w.heap.size w w1 := (Below.trans (by first | exact Below.refl _ _ | (repeat (first | exact Below.refl _ _ | assumption | refine Below.drew ?_ | refine Below.drewN_ ?_ _ | refine Below.alloc ?_ (by first | exact Nat.le_refl _ | (simp; done) | (simp; omega) | omega) _ | refine Below.setCell ?_ (by first | exact Nat.le_refl _ | (simp; done) | (simp; omega) | omega) _ | (refine Below.trans ?_ (Below.mono (by assumption) (by first | exact Nat.le_refl _ | (simp; done) | (simp; omega) | omega)))))) (Below.mono hb1 (by first | exact Nat.le_refl _ | (simp only [World.size_alloc, World.size_setCell, World.size_drew]; omega) | (simp; done) | (simp; omega) | omega)))
        clear hb1
        go_wp2_with fail
        go_ret
        exact ⟨ret_int (by rw [HSZ.out]; rfl), HB⟩
    by_cases hz : a = 0 ∧ b = 0 ∧ d = []
    · obtain ⟨rfl, rfl, rfl⟩ := hz
      go_enter Try.func53, Try.ntmps53
      go_wp2_with fail
      go_ret
      exact ⟨ret_int (by rw [HSZ.out]; rfl), (by first | exact Below.refl _ _ | (repeat (first | exact Below.refl _ _ | assumption | refine Below.drew ?_ | refine Below.drewN_ ?_ _ | refine Below.alloc ?_ (by first | exact Nat.le_refl _ | (simp; done) | (simp; omega) | omega) _ | refine Below.setCell ?_ (by first | exact Nat.le_refl _ | (simp; done) | (simp; omega) | omega) _ | (refine Below.trans ?_ (Below.mono (by assumption) (by first | exact Nat.le_refl _ | (simp; done) | (simp; omega) | omega))))))⟩
    · refine go a b d HSZ.out HC.out ?_
      by_cases h : a = 0
      · by_cases h2 : b = 0
        · exact .inr (.inr fun h3 => hz ⟨h, h2, h3⟩)
        · exact .inr (.inl h2)
      · exact .inl h

theorem div128 {n f : Nat} (h : n < 128 ^ (f + 1)) : n / 128 < 128 ^ f := by
  rw [Nat.div_lt_iff_lt_mul (by omega)]; rw [Nat.pow_succ] at h; exact h

theorem refPut_no (n : Int) (w : World) (h : n < 0) :
    Calls Try.prog 16 #[.int .i64 n] w fun e w' => e = .returned (.tuple #[str [], .int .i64 2]) ∧ Below w.heap.size w w' := by
  go_enter Try.func16, Try.ntmps16
  go_wp2_with fail
  go_ret2
  exact ⟨rfl, (by first | exact Below.refl _ _ | (repeat (first | exact Below.refl _ _ | assumption | refine Below.drew ?_ | refine Below.drewN_ ?_ _ | refine Below.alloc ?_ (by first | exact Nat.le_refl _ | (simp; done) | (simp; omega) | omega) _ | refine Below.setCell ?_ (by first | exact Nat.le_refl _ | (simp; done) | (simp; omega) | omega) _ | (refine Below.trans ?_ (Below.mono (by assumption) (by first | exact Nat.le_refl _ | (simp; done) | (simp; omega) | omega))))))⟩

set_option maxHeartbeats 1000000 in
set_option maxRecDepth 100000 in
theorem refPut_any (f : Nat) : ∀ (n : Nat) (w : World), n < 128 ^ f → 0 < f → f ≤ 9 →
    Calls Try.prog 16 #[.int .i64 n] w fun e w' => e = .returned (.tuple #[str (vput f n), .int .i64 0]) ∧ Below w.heap.size w w' := by
  induction f with
  | zero =>
    intro n w h0 h1
    omega
  | succ f ih =>
    intro n w h2 hf0 hf
    have hmax : (n : Int) ≤ 9223372036854775807 := by
      have : 128 ^ (f + 1) ≤ 128 ^ 9 := Nat.pow_le_pow_right (by omega) hf
      omega
    have IH := Lib.hid ih
    have H2 := Lib.hid h2
    clear ih h2
    by_cases hs : n < 128
    · have hv : vput (f + 1) n = [UInt8.ofNat n] := by rw [vput, if_pos hs]
      have HV := Lib.hid hv
      clear hv
      have hcv := fun w => run_one_str (P := Try.prog) Try.underlying69 Try.underlying5 Try.underlying9 w (n : Int) (by omega) (by omega)
      go_enter Try.func16, Try.ntmps16
      go_wp2_with fail
      go_ret2
      refine ⟨?_, (by first | exact Below.refl _ _ | (repeat (first | exact Below.refl _ _ | assumption | refine Below.drew ?_ | refine Below.drewN_ ?_ _ | refine Below.alloc ?_ (by first | exact Nat.le_refl _ | (simp; done) | (simp; omega) | omega) _ | refine Below.setCell ?_ (by first | exact Nat.le_refl _ | (simp; done) | (simp; omega) | omega) _ | (refine Below.trans ?_ (Below.mono (by assumption) (by first | exact Nat.le_refl _ | (simp; done) | (simp; omega) | omega))))))⟩
      rw [HV.out]
      rfl
    · have hv : vput (f + 1) n = UInt8.ofNat (128 + n % 128) :: vput f (n / 128) := by rw [vput, if_neg hs]
      have HV := Lib.hid hv
      clear hv
      have hcv := fun w => run_one_str (P := Try.prog) Try.underlying69 Try.underlying5 Try.underlying9 w (128 + (n : Int) % 128) (by omega) (by omega)
      go_enter Try.func16, Try.ntmps16
      go_wp2_with fail
      rw [show ((n : Int) / 128) = ((n / 128 : Nat) : Int) from by omega]
      have hf1 : 0 < f := by
        rcases Nat.eq_zero_or_pos f with rfl | h
        · have := H2.out; omega
        · exact h
      refine (IH.out _ _ (div128 H2.out) hf1 (by omega)).mono ?_
      rintro e w1 ⟨rfl, hb1⟩
      have hlen : (vput f (n / 128)).length ≤ 9 := by rw [vput_len]; have := vl_le f (n / 128); omega
      have hz1 := hb1.size
      go_wp2_with fail
      go_ret2
      refine ⟨?_, (by first | exact Below.refl _ _ | (repeat (first | exact Below.refl _ _ | assumption | refine Below.drew ?_ | refine Below.drewN_ ?_ _ | refine Below.alloc ?_ (by first | exact Nat.le_refl _ | (simp; done) | (simp; omega) | omega) _ | refine Below.setCell ?_ (by first | exact Nat.le_refl _ | (simp; done) | (simp; omega) | omega) _ | (refine Below.trans ?_ (Below.mono (by assumption) (by first | exact Nat.le_refl _ | (simp; done) | (simp; omega) | omega))))))⟩
      rw [HV.out, ba_cat]
      simp

def putRN (r : Rc) : List UInt8 := if okR r then putR r else []
theorem sizeN_put (r : Rc) : sizeN r = (putRN r).length := by unfold sizeN putRN; split <;> rfl

set_option maxHeartbeats 1000000 in
theorem refPutR_any (r : Rc) (w : World) :
    Calls Try.prog 48 #[recv r] w fun e w' => e = .returned (.tuple #[str (putRN r), .int .i64 (chkR r)]) ∧ Below w.heap.size w w' := by
  by_cases hok : okR r = true
  · have hch := chkR_yes hok
    have HP : Hid (putRN r = vbytes r.1.toNat ++ (vbytes r.2.1.toNat ++ (vbytes r.2.2.length ++ r.2.2))) := by unfold putRN; rw [if_pos hok]; rfl
    obtain ⟨h1, h2, h3, h4, h5⟩ := (okR_iff r).1 hok
    obtain ⟨a, b, d⟩ := r
    dsimp only at h1 h2 h3 h4 h5
    obtain ⟨a, rfl⟩ := Int.eq_ofNat_of_zero_le (show 0 ≤ a by omega)
    obtain ⟨b, rfl⟩ := Int.eq_ofNat_of_zero_le h3
    have HC := Lib.hid hch
    clear hch hok
    have hk1 := vlen_le a
    have hk2 := vlen_le b
    have hk3 := vlen_le d.length
    rw [← vbytes_len] at hk1 hk2 hk3
    rw [HC.out]
    go_enter Try.func48, Try.ntmps48
    go_wp2_with fail
    refine (refCheck_any ((a : Int), (b : Int), d) 0 HC.out _).mono ?_
    rintro e w1 ⟨rfl, hb1⟩
    have HB : Below w.heap.size w w1 := (Below.trans (by first | exact Below.refl _ _ | (repeat (first | exact Below.refl _ _ | assumption | refine Below.drew ?_ | refine Below.drewN_ ?_ _ | refine Below.alloc ?_ (by first | exact Nat.le_refl _ | (simp; done) | (simp; omega) | omega) _ | refine Below.setCell ?_ (by first | exact Nat.le_refl _ | (simp; done) | (simp; omega) | omega) _ | (refine Below.trans ?_ (Below.mono (by assumption) (by first | exact Nat.le_refl _ | (simp; done) | (simp; omega) | omega)))))) (Below.mono hb1 (by first | exact Nat.le_refl _ | (simp only [World.size_alloc, World.size_setCell, World.size_drew]; omega) | (simp; done) | (simp; omega) | omega)))
    have g1 : Blk w1 w.heap.size 72 #[.int .i64 a, .int .i64 b, str d] := Blk.below (by repeat (first | with_reducible assumption | exact Blk.new _ _ _ | (simpa using Blk.new _ _ _) | with_reducible apply Blk.drewN | with_reducible apply Blk.drew | with_reducible apply Blk.alloc)) hb1 (by first | exact Nat.le_refl _ | (simp only [World.size_alloc, World.size_setCell, World.size_drew]; omega) | (simp; done) | (simp; omega) | omega)
    have g1' := g1
    obtain ⟨c0, c1, c2, f0, f1, f2, z0⟩ := blk3 g1'
    clear hb1 g1'
    go_wp2_with fail
    refine (refPut_any 9 a _ (by omega) (by omega) (by omega)).mono ?_
    rintro e w2 ⟨rfl, hb2⟩
    have HB2 : Below w.heap.size w w2 := HB.trans (hb2.mono HB.size)
    have g2 := g1.below hb2 (by omega)
    clear c0 c1 c2 f0 f1 f2 z0 HB hb2 g1
    have g2' := g2
    obtain ⟨c0, c1, c2, f0, f1, f2, z0⟩ := blk3 g2'
    clear g2'
    go_wp2_with fail
    refine (refPut_any 9 b _ (by omega) (by omega) (by omega)).mono ?_
    rintro e w3 ⟨rfl, hb3⟩
    have HB3 : Below w.heap.size w w3 := HB2.trans (hb3.mono HB2.size)
    have g3 := g2.below hb3 (by omega)
    clear c0 c1 c2 f0 f1 f2 z0 HB2 hb3 g2
    have g3' := g3
    obtain ⟨c0, c1, c2, f0, f1, f2, z0⟩ := blk3 g3'
    clear g3'
    go_wp2_with fail
    refine (refPut_any 9 d.length _ (by omega) (by omega) (by omega)).mono ?_
    rintro e w4 ⟨rfl, hb4⟩
    have HB4 : Below w.heap.size w w4 := HB3.trans (hb4.mono HB3.size)
    have g4 := g3.below hb4 (by omega)
    clear c0 c1 c2 f0 f1 f2 z0 HB3 hb4 g3
    obtain ⟨c0, c1, c2, f0, f1, f2, z0⟩ := blk3 g4
    have q1 : (vput 9 a).length ≤ 9 := hk1
    have q2 : (vput 9 b).length ≤ 9 := hk2
    have q3 : (vput 9 d.length).length ≤ 9 := hk3
    go_wp2_with fail
    go_ret2
    refine ⟨?_, HB4⟩
    rw [HP.out]
    simp only [ba_cat]
    simp [vbytes]
  · have hn : okR r = false := by simpa using hok
    have HC := Lib.hid (chkR_no hn)
    have HP := Lib.hid (show putRN r = [] by unfold putRN; rw [if_neg hok])
    clear hok hn
    rw [HC.out, HP.out]
    go_enter Try.func48, Try.ntmps48
    go_wp2_with fail
    refine (refCheck_any r 150 HC.out _).mono ?_
    rintro e w1 ⟨rfl, hb1⟩
    go_wp2_with fail
    go_ret2
    exact ⟨rfl, (Below.trans (by first | exact Below.refl _ _ | (repeat (first | exact Below.refl _ _ | assumption | refine Below.drew ?_ | refine Below.drewN_ ?_ _ | refine Below.alloc ?_ (by first | exact Nat.le_refl _ | (simp; done) | (simp; omega) | omega) _ | refine Below.setCell ?_ (by first | exact Nat.le_refl _ | (simp; done) | (simp; omega) | omega) _ | (refine Below.trans ?_ (Below.mono (by assumption) (by first | exact Nat.le_refl _ | (simp; done) | (simp; omega) | omega)))))) (Below.mono hb1 (by first | exact Nat.le_refl _ | (simp only [World.size_alloc, World.size_setCell, World.size_drew]; omega) | (simp; done) | (simp; omega) | omega)))⟩

set_option maxHeartbeats 1000000 in
theorem refSize_any (r : Rc) (w : World) :
    Calls Try.prog 54 #[recv r] w fun e w' => e = .returned (.int .i64 (sizeN r : Nat)) ∧ Below w.heap.size w w' := by
  have HS := Lib.hid (sizeN_put r)
  have hb := sizeN_le r
  rw [HS.out] at hb
  go_enter Try.func54, Try.ntmps54
  go_wp2_with fail
  refine (refPutR_any r _).mono ?_
  rintro e w1 ⟨rfl, hb1⟩
  go_wp2_with fail
  go_ret
  exact ⟨ret_int (by rw [HS.out]), (Below.trans (by first | exact Below.refl _ _ | (repeat (first | exact Below.refl _ _ | assumption | refine Below.drew ?_ | refine Below.drewN_ ?_ _ | refine Below.alloc ?_ (by first | exact Nat.le_refl _ | (simp; done) | (simp; omega) | omega) _ | refine Below.setCell ?_ (by first | exact Nat.le_refl _ | (simp; done) | (simp; omega) | omega) _ | (refine Below.trans ?_ (Below.mono (by assumption) (by first | exact Nat.le_refl _ | (simp; done) | (simp; omega) | omega)))))) (Below.mono hb1 (by first | exact Nat.le_refl _ | (simp only [World.size_alloc, World.size_setCell, World.size_drew]; omega) | (simp; done) | (simp; omega) | omega)))⟩
end RecW
end Go.Proofs.Ytjdmbpkabeaccaa
