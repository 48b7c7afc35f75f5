/- Walks over package record: a record's bytes, by a builder. -/
import Derived.Test.YtnghmcadhjneeaaRecT
namespace Go.Proofs.Ytnghmcadhjneeaa
set_option linter.unusedVariables false
set_option linter.unusedSimpArgs false
set_option linter.unnecessarySimpa false
open Go.RowKit
namespace RecW

/-- What is written, k numbers being put. -/
def pre3 (a b c : Nat) : Nat → List UInt8
  | 0 => []
  | 1 => vbytes a
  | 2 => vbytes a ++ vbytes b
  | _ => vbytes a ++ vbytes b ++ vbytes c
def num3 (a b c : Nat) : Nat → Nat
  | 0 => a
  | 1 => b
  | _ => c
theorem pre3_step (a b c k : Nat) (h : k < 3) : pre3 a b c (k + 1) = pre3 a b c k ++ vbytes (num3 a b c k) := by
  have : k = 0 ∨ k = 1 ∨ k = 2 := by omega
  rcases this with rfl | rfl | rfl <;> simp [pre3, num3]
theorem pre3_len (a b c k : Nat) : (pre3 a b c k).length ≤ 27 := by
  have h1 := vlen_le a
  have h2 := vlen_le b
  have h3 := vlen_le c
  unfold pre3
  split <;> simp [vbytes_len] <;> omega

set_option maxRecDepth 100000 in
set_option maxHeartbeats 2000000 in
theorem putR_any (r : Rc) (w : World) :
    Calls Try.prog 49 #[recv r] w fun e w' => e = .returned (.tuple #[str (putRN r), .int .i64 (chkR r)]) ∧ Below w.heap.size w w' := by
  by_cases hok : okR r = true
  · have hch := chkR_yes hok
    have HP : Hid (putRN r = vbytes r.1.toNat ++ (vbytes r.2.1.toNat ++ (vbytes r.2.2.length ++ r.2.2))) := by unfold putRN; rw [if_pos hok]; rfl
    obtain ⟨h1, h2, h3, h4, h5⟩ := (okR_iff r).1 hok
    obtain ⟨a, b, d⟩ := r
    dsimp only at h1 h2 h3 h4 h5
    obtain ⟨a, rfl⟩ := Int.eq_ofNat_of_zero_le (show 0 ≤ a by omega)
    obtain ⟨b, rfl⟩ := Int.eq_ofNat_of_zero_le h3
    have HC := Lib.hid hch
    clear hch hok
    rw [HC.out]
    have i0 : ∀ w, (Instr.index 134 (.agg #[.int .i64 a, .int .i64 b, .int .i64 d.length]) (.int .i64 0)).run Try.prog w = .ok (.int .i64 a) w := fun _ => by kernel_rfl
    have i1 : ∀ w, (Instr.index 134 (.agg #[.int .i64 a, .int .i64 b, .int .i64 d.length]) (.int .i64 1)).run Try.prog w = .ok (.int .i64 b) w := fun _ => by kernel_rfl
    have i2 : ∀ w, (Instr.index 134 (.agg #[.int .i64 a, .int .i64 b, .int .i64 d.length]) (.int .i64 2)).run Try.prog w = .ok (.int .i64 d.length) w := fun _ => by kernel_rfl
    go_enter Try.func49, Try.ntmps49
    go_wp2_with fail
    refine (check_any ((a : Int), (b : Int), d) 0 HC.out _).mono ?_
    rintro e w1 ⟨rfl, hb1⟩
    have HB : Below w.heap.size w w1 := (Below.trans (by first | exact Below.refl _ _ | (repeat (first | exact Below.refl _ _ | assumption | refine Below.drew ?_ | refine Below.drewN_ ?_ _ | refine Below.alloc ?_ (by first | exact Nat.le_refl _ | (simp; done) | (simp; omega) | omega) _ | refine Below.setCell ?_ (by first | exact Nat.le_refl _ | (simp; done) | (simp; omega) | omega) _ | (refine Below.trans ?_ (Below.mono (by assumption) (by first | exact Nat.le_refl _ | (simp; done) | (simp; omega) | omega)))))) (Below.mono hb1 (by first | exact Nat.le_refl _ | (simp only [World.size_alloc, World.size_setCell, World.size_drew]; omega) | (simp; done) | (simp; omega) | omega)))
    have g1 : Blk w1 w.heap.size 26 #[.int .i64 a, .int .i64 b, str d] := Blk.below (by repeat (first | with_reducible assumption | exact Blk.new _ _ _ | (simpa using Blk.new _ _ _) | with_reducible apply Blk.drewN | with_reducible apply Blk.drew | with_reducible apply Blk.alloc)) hb1 (by first | exact Nat.le_refl _ | (simp only [World.size_alloc, World.size_setCell, World.size_drew]; omega) | (simp; done) | (simp; omega) | omega)
    have g1' := g1
    obtain ⟨c0, c1, c2, f0, f1, f2, z0⟩ := blk3 g1'
    clear hb1 g1'
    go_wp2_with fail
    have hBl := Bld.Bl.fresh w1
    have g2 := g1.alloc (.cells #[.pointer none, .slice none 0 0] 97)
    have HB2 := HB.alloc HB.size (.cells #[.pointer none, .slice none 0 0] 97)
    have zb : w.heap.size ≤ w1.heap.size := HB.size
    obtain ⟨bb, hbb⟩ : ∃ bb, w1.heap.size = bb := ⟨_, rfl⟩
    rw [hbb] at hBl zb
    rw [hbb]
    have hz2 : w1.heap.size + 1 ≤ (w1.alloc (.cells #[.pointer none, .slice none 0 0] 97)).heap.size := by simp
    generalize w1.alloc (.cells #[.pointer none, .slice none 0 0] 97) = w2 at *
    rw [hbb] at hz2
    have z0' : w.heap.size < bb := by omega
    clear c0 c1 c2 f0 f1 f2 g1 HB hbb
    go_loopw [23] (fun i wr => ∃ k : Nat, i = .int .i64 k ∧ k ≤ 3 ∧ Bld.Bl bb bb (pre3 a b d.length k) wr ∧ Blk wr w.heap.size 26 #[.int .i64 a, .int .i64 b, str d] ∧ Below w.heap.size w wr ∧ bb < wr.heap.size) (fun i _ => 3 - (intOf i).toNat)
    case atStart => exact ⟨0, rfl, by omega, hBl, g2, HB2, by omega⟩
    case round =>
      obtain ⟨k, rfl, hk, hBk, g3, hbw, hlt⟩ := hrel
      have hsz := hbw.size
      have hpl := pre3_len a b d.length k
      by_cases hk3 : k < 3
      · have hstep := pre3_step a b d.length k hk3
        obtain ⟨x, hx⟩ : ∃ x, num3 a b d.length k = x := ⟨_, rfl⟩
        rw [hx] at hstep
        have hi : (Instr.index 134 (.agg #[.int .i64 a, .int .i64 b, .int .i64 d.length]) (.int .i64 k)).run Try.prog wr = .ok (.int .i64 x) wr := by
          have : k = 0 ∨ k = 1 ∨ k = 2 := by omega
          rcases this with rfl | rfl | rfl
          · rw [← hx]; exact i0 _
          · rw [← hx]; exact i1 _
          · rw [← hx]; exact i2 _
        have hx2 : x ≤ 1000000000 := by
          have : k = 0 ∨ k = 1 ∨ k = 2 := by omega
          rcases this with rfl | rfl | rfl <;> (rw [← hx]; simp only [num3]; omega)
        have HS := Lib.hid hstep
        have hv := vlen_le x
        generalize pre3 a b d.length k = pk at *
        clear hstep hx i0 i1 i2
        go_wp2_with fail
        clear hi
        refine (VarW.put_yes x _ (by omega)).mono ?_
        rintro e w3 ⟨rfl, hb3⟩
        have hb4 := hbw.trans (hb3.mono hbw.size)
        have hB3 := hBk.below hb3
        have g4 := g3.below hb3 g3.lt
        have z3 := hb3.size
        clear hb3 hBk g3 hbw
        go_wp2_with fail
        refine (Bld.write_any bb bb pk (vbytes x) w3 hB3 (by rw [vbytes_len]; omega) (by omega)).mono ?_
        rintro e w5 ⟨rfl, hB5, hb5⟩
        go_wp2_with fail
        go_roundw
        case rel => exact ⟨k + 1, by go_num, by omega, by rw [HS.out]; exact hB5, g4.below hb5 (by omega), hb4.trans (hb5.mono zb), hB5.lt⟩
        case measure => simp [intOf]; omega
      · obtain rfl : k = 3 := by omega
        clear i0 i1 i2
        obtain ⟨c0, c1, c2, f0, f1, f2, z0⟩ := blk3 g3
        go_wp2_with fail
        refine (Bld.write_any bb bb (pre3 a b d.length 3) d wr hBk (by omega) (by omega)).mono ?_
        rintro e w5 ⟨rfl, hB5, hb5⟩
        have hne : pre3 a b d.length 3 ++ d ≠ [] := by
          have := vlen_pos a
          rw [← vbytes_len] at this
          have h2 : 1 ≤ (pre3 a b d.length 3 ++ d).length := by simp only [pre3, List.length_append]; omega
          intro e
          rw [e] at h2
          simp at h2
        go_wp2_with fail
        refine (Bld.text_any bb bb _ w5 hB5 hne).mono ?_
        rintro e w6 ⟨rfl, hb6⟩
        go_wp2_with fail
        go_ret2
        refine ⟨?_, (hbw.trans (hb5.mono zb)).trans (hb6.mono zb)⟩
        rw [HP.out]
        simp [pre3]
  · have hn : okR r = false := by simpa using hok
    have HC := Lib.hid (chkR_no hn)
    have HP := Lib.hid (show putRN r = [] by unfold putRN; rw [if_neg hok])
    clear hok hn
    rw [HC.out, HP.out]
    go_enter Try.func49, Try.ntmps49
    go_wp2_with fail
    refine (check_any r 150 HC.out _).mono ?_
    rintro e w1 ⟨rfl, hb1⟩
    go_wp2_with fail
    go_ret2
    exact ⟨rfl, (Below.trans (by first | exact Below.refl _ _ | (repeat (first | exact Below.refl _ _ | assumption | refine Below.drew ?_ | refine Below.drewN_ ?_ _ | refine Below.alloc ?_ (by first | exact Nat.le_refl _ | (simp; done) | (simp; omega) | omega) _ | refine Below.setCell ?_ (by first | exact Nat.le_refl _ | (simp; done) | (simp; omega) | omega) _ | (refine Below.trans ?_ (Below.mono (by assumption) (by first | exact Nat.le_refl _ | (simp; done) | (simp; omega) | omega)))))) (Below.mono hb1 (by first | exact Nat.le_refl _ | (simp only [World.size_alloc, World.size_setCell, World.size_drew]; omega) | (simp; done) | (simp; omega) | omega)))⟩
end RecW
end Go.Proofs.Ytnghmcadhjneeaa
