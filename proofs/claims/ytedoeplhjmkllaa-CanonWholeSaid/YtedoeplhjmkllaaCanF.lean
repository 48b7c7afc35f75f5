/- The walks of package canon: a symbol is got. -/
import Derived.Test.YtedoeplhjmkllaaCanH
namespace Go.Proofs.Ytedoeplhjmkllaa
set_option linter.unusedVariables false
set_option linter.unusedSimpArgs false
set_option linter.unnecessarySimpa false
open Go.RowKit
namespace LenW
open BitW (rdr RLeft getB_short getB_yes)

/-- The symbol, its bits, the error. -/
def getGo (l : List Int) : List Nat → Nat → Nat → Nat → Int × Nat × Int
  | _, _, _, 0 => (0, 0, 40)
  | [], n, w, _ + 1 => (0, 0, endedL l n w)
  | b :: r, n, w, f + 1 => if (findL l (2 * n + b) (w + 1)).2 = true then ((findL l (2 * n + b) (w + 1)).1, w + 1, 0) else getGo l r (2 * n + b) (w + 1) f
def getC (l : List Int) (bs : List Nat) : Int × Nat × Int := getGo l bs 0 0 15
theorem grown_below {w w' : World} {gl : Nat} (h : w.grownBy w' (some gl)) (hl : gl < w.heap.size) : Below gl w w' := ⟨h.os, h.tape, h.output, h.size, fun k hk => h.block k (by omega) (by simp; omega)⟩
theorem shl_or (n b : Nat) (hn : n ≤ 65536) (hb : b < 2) : bits BinOp.or .i64 ((n : Int) * 2) (b : Int) = ((2 * n + b : Nat) : Int) := by
  have h5 := or_shift 1 b n (by omega)
  rw [show (n : Int) * 2 = ((n * 2 ^ 1 : Nat) : Int) by omega]
  rw [bits_nat_or .i64 (n * 2 ^ 1) b (by simp [IntKind.bits]; omega) (by simp [IntKind.bits]; omega), Nat.or_comm, h5, show b + n * 2 ^ 1 = 2 * n + b by omega]
  exact w64k (by omega) (by omega)
set_option maxRecDepth 100000 in
set_option maxHeartbeats 4000000 in
theorem cget_any (l : List Int) (hk : chkL l = 0) (B g gr : Nat) (s : List UInt8) (p : Nat) (w : World) (hC : CodeAt w B g l) (hr : Blk w gr 86 (rdr s p)) (hp : p ≤ 8 * s.length) (hs : s.length ≤ 1000000) (v : Int × Nat × Int) (hv : getC l ((bitsB s).drop p) = v) :
    Calls Try.prog 22 #[.pointer (some ⟨g, 0, none⟩), .pointer (some ⟨gr, 0, none⟩)] w fun e w' => e = .returned (.tuple #[.int .i64 v.1, .int .i64 v.2.2]) ∧ RLeft w w' gr s (p + v.2.1) := by
  have HK := Lib.hid hk
  have hgr := hr.lt
  have hr' := hr
  obtain ⟨c0, c1, f0, f1, z⟩ := blk2 hr'
  have km : w.cell? ⟨g, 50, none⟩ = some (.bool true) := by
    obtain ⟨gW, gS, h1, h2, h3, b1, b2, b3⟩ := hC
    exact b1.cell_ 50 (code_m (tab_len _) (tab_len _) (tab_len _))
  clear hr' hk
  go_enter Try.func22, Try.ntmps22
  go_wp2_with fail
  have HB : Below w.heap.size w (w.alloc (.cells (rdr s p) 86)) := (Below.refl _ w).alloc (Nat.le_refl _) _
  have hL := Blk.new w 86 (rdr s p)
  go_loopw [7, 8] (fun n wd wr => ∃ (j n0 : Nat), n = .int .i64 n0 ∧ wd = .int .i64 ((j + 1 : Nat) : Int) ∧ j ≤ 15 ∧ n0 < 2 ^ j ∧ p + j ≤ 8 * s.length ∧ getGo l ((bitsB s).drop (p + j)) n0 j (15 - j) = v ∧ Blk wr w.heap.size 86 (rdr s (p + j)) ∧ Below w.heap.size w wr) (fun _ wd _ => 16 - (intOf wd).toNat)
  case atStart => exact ⟨0, 0, rfl, rfl, by omega, by omega, by omega, hv, hL, HB⟩
  case round =>
    clear hL HB
    obtain ⟨j, n0, rfl, rfl, hj, hn0, hpj, hgo, hL, HB⟩ := hrel
    have hr1 := hr.below HB hgr
    have hsz := HB.size
    have hll := hL.lt
    have HG := Lib.hid hgo
    have HN0 := Lib.hid hn0
    clear hgo hn0
    have hbl := bitsB_len s
    have hn65 : n0 ≤ 65536 := by have := HN0.out; have h2y : (2 : Nat) ^ j ≤ 2 ^ 15 := Nat.pow_le_pow_right (by omega) (by omega); omega
    by_cases h15 : j = 15
    · subst h15
      have hx : v = (0, 0, 40) := by rw [← HG.out]; unfold getGo; rfl
      subst hx
      go_wp2_with fail
      go_ret2
      exact ⟨rfl, hr1, ⟨HB.os, HB.tape, HB.output, HB.size, fun k hk _ => HB.block k hk⟩⟩
    · obtain ⟨f, hf⟩ : ∃ f, 15 - j = f + 1 := ⟨14 - j, by omega⟩
      by_cases hend : p + j = 8 * s.length
      · have hx : v = (0, 0, endedL l n0 j) := by
          rw [← HG.out, hf, List.drop_of_length_le (by omega)]; rfl
        subst hx
        have C := BitW.get_any w.heap.size s (p + j) 1 wr hL hpj hs _ (getB_short (by omega) (by omega))
        have HEL := Lib.hid (rfl : endedL l n0 j = endedL l n0 j)
        obtain ⟨ev, hev⟩ : ∃ ev, endedL l n0 j = ev := ⟨_, rfl⟩
        rw [hev]
        clear hend hbl HEL
        go_wp2_with fail
        refine C.mono ?_
        clear C
        rintro e w1 ⟨rfl, hRL⟩
        rw [if_neg (by simp)] at hRL
        have hb1 := HB.trans (grown_below hRL.2 hll)
        have C2 := ended_any l HK.out B g n0 j w1 (hC.below hb1) HN0.out hj ev hev
        go_wp2_with fail
        refine C2.mono ?_
        clear C2
        rintro e w2 ⟨rfl, nq, rfl⟩
        go_wp2_with fail
        go_ret2
        exact ⟨rfl, (hr.below hb1 hgr).drewN _, ⟨hb1.os, hb1.tape, hb1.output, hb1.size, fun k hk _ => hb1.block k hk⟩⟩
      · have hlt : p + j < (bitsB s).length := by omega
        have hb2 := bitsB_lt s _ (List.getElem_mem hlt)
        obtain ⟨b, hb⟩ : ∃ b, (bitsB s)[p + j] = b := ⟨_, rfl⟩
        rw [hb] at hb2
        have hdrop : (bitsB s).drop (p + j) = b :: (bitsB s).drop (p + (j + 1)) := by rw [List.drop_eq_getElem_cons hlt, hb]; rfl
        have hg1 : getB (bitsB s) ((p + j : Nat) : Int) 1 = ((b : Int), 0) := by
          rw [show (1 : Int) = ((1 : Nat) : Int) from rfl, getB_yes (by omega) (by omega), hdrop]
          simp [num]
        have C := BitW.get_any w.heap.size s (p + j) 1 wr hL hpj hs _ hg1
        rw [if_pos rfl] at C
        have HG2 := HG.out
        rw [hf, hdrop] at HG2
        unfold getGo at HG2
        have HG3 := Lib.hid HG2
        have hn1 : 2 * n0 + b < 2 ^ (j + 1) := by have := HN0.out; rw [Nat.pow_succ]; omega
        have HN1 := Lib.hid hn1
        have hn2 : 2 * n0 + b ≤ 65536 := by have h2y : (2 : Nat) ^ (j + 1) ≤ 2 ^ 15 := Nat.pow_le_pow_right (by omega) (by omega); omega
        obtain ⟨fv, hfv⟩ : ∃ fv, findL l (2 * n0 + b) (j + 1) = fv := ⟨_, rfl⟩
        rw [hfv] at HG3
        have hor := shl_or n0 b hn65 hb2
        have HOR := Lib.hid hor
        have hpj1 : p + (j + 1) ≤ 8 * s.length := by omega
        clear HG2 hg1 hdrop hb hbl hn1 hend hlt hor
        go_wp2_with fail
        refine C.mono ?_
        clear C
        rintro e w1 ⟨rfl, hRL⟩
        have hb1 := HB.trans (grown_below hRL.2 hll)
        have C2 := find_any l HK.out B g (2 * n0 + b) (j + 1) w1 (hC.below hb1) hn2 (by omega) fv hfv
        go_wp2_with fail
        try rw [HOR.out]
        refine C2.mono ?_
        clear C2
        rintro e w2 ⟨rfl, nq, rfl⟩
        have hb2' : Below w.heap.size w (w1.drewN nq) := hb1.drewN_ nq
        by_cases hfo : fv.2 = true
        · rw [hfo]
          have hx : v = (fv.1, j + 1, 0) := by rw [← HG3.out, if_pos hfo]
          subst hx
          have hLr := (hRL.1).drewN nq
          have hrr := hr.below hb2' hgr
          have hLr' := hLr
          have hrr' := hrr
          obtain ⟨a0, a1, g0, g1, z1⟩ := blk2 hLr'
          obtain ⟨e0, e1, i0, i1, z2⟩ := blk2 hrr'
          clear hLr' hrr'
          go_wp2_with fail
          go_ret2
          refine ⟨rfl, blk_eq ((hrr.set 0 (.string ⟨s.toArray⟩)).set 1 (.int .i64 ((p : Int) + (j : Int) + 1))) ?_, hb2'.os, hb2'.tape, hb2'.output, by simpa [World.setCell] using hb2'.size, ?_⟩
          · simp [str]
            omega
          · intro k hk hne
            have hkg : ¬ k = gr := fun e => hne (by rw [e])
            rw [Below.heap_setCell _ _ _ k hkg, Below.heap_setCell _ _ _ k hkg]
            exact hb2'.block k hk
        · have hfo' : fv.2 = false := by simpa using hfo
          rw [hfo']
          have HG4 := Lib.hid (show getGo l ((bitsB s).drop (p + (j + 1))) (2 * n0 + b) (j + 1) f = v by rw [← HG3.out, if_neg hfo])
          go_wp2_with fail
          go_roundw
          case rel => exact ⟨j + 1, 2 * n0 + b, rfl, by go_num, by omega, HN1.out, hpj1, by rw [show 15 - (j + 1) = f by omega]; exact HG4.out, hRL.1.drewN _, hb2'⟩
          case measure => simp [intOf]; omega
end LenW
end Go.Proofs.Ytedoeplhjmkllaa
