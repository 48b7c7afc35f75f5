/- The walks of package tab: Get. The walks of tab's reference, and of Unpack. -/
import Derived.Test.YtdfclgpkhfpkhaaTabW
import Derived.Test.YtdfclgpkhfpkhaaBitN
import Derived.Test.YtdfclgpkhfpkhaaBitZ
import Derived.Laws.EntriesVeiled
import Derived.BigQuiet
import Derived.Deep.DeepCutAuto
namespace Go.Proofs.Ytdfclgpkhfpkhaa
set_option linter.unusedVariables false
set_option linter.unusedSimpArgs false
set_option linter.unnecessarySimpa false
open Go.RowKit
namespace TabW
open LenW (okL okL_at chkL chk0 check_any)
open BitW (rdr RLeft ungB El_int2)

theorem grown_below {w w' : World} {gl : Nat} (h : w.grownBy w' (some gl)) (hl : gl < w.heap.size) : Below gl w w' := ⟨h.os, h.tape, h.output, h.size, fun k hk => h.block k (by omega) (by simp; omega)⟩
def lenOf : Value → Nat
  | .slice _ n _ => n
  | _ => 0
/-- A round of the loop, by its cases. -/
theorem getT_round {s : List UInt8} {n f p : Nat} {acc : List Int} {last : Int} {x : List Int × Nat × Int} (h : getT s n (f + 1) p acc last = x) (hn : acc.length < n) :
    ((getB (bitsB s) p 4).2 ≠ 0 → x = ([], 0, (getB (bitsB s) p 4).2)) ∧ ((getB (bitsB s) p 4).2 = 0 → (ungB s (p + 4)).2.1 ≠ 0 → x = ([], 0, (ungB s (p + 4)).2.1)) ∧
    ((getB (bitsB s) p 4).2 = 0 → (ungB s (p + 4)).2.1 = 0 → (getB (bitsB s) p 4).1 = last → x = ([], 0, 5)) ∧
    ((getB (bitsB s) p 4).2 = 0 → (ungB s (p + 4)).2.1 = 0 → ¬ (getB (bitsB s) p 4).1 = last → (n : Int) - (acc.length : Nat) < ((ungB s (p + 4)).1 : Nat) → x = ([], 0, 40)) ∧
    ((getB (bitsB s) p 4).2 = 0 → (ungB s (p + 4)).2.1 = 0 → ¬ (getB (bitsB s) p 4).1 = last → ¬ (n : Int) - (acc.length : Nat) < ((ungB s (p + 4)).1 : Nat) → getT s n f (p + 4 + (ungB s (p + 4)).2.2) (acc ++ List.replicate (ungB s (p + 4)).1 (getB (bitsB s) p 4).1) (getB (bitsB s) p 4).1 = x) := by
  rw [getT, if_neg (by omega)] at h
  refine ⟨fun q => ?_, fun q r => ?_, fun q r t => ?_, fun q r t u => ?_, fun q r t u => ?_⟩
  · rw [if_pos q] at h; exact h.symm
  · rw [if_neg (by simp [q]), if_pos r] at h; exact h.symm
  · rw [if_neg (by simp [q]), if_neg (by simp [r]), if_pos t] at h; exact h.symm
  · rw [if_neg (by simp [q]), if_neg (by simp [r]), if_neg t, if_pos u] at h; exact h.symm
  · rw [if_neg (by simp [q]), if_neg (by simp [r]), if_neg t, if_neg u] at h; exact h
theorem held_zero (n er : Int) (gf : Nat) (w : World) (h : Blk w gf 24 #[.int .i64 0]) :
    Calls Try.prog 51 #[.int .i64 n, .int .i64 er, .pointer (some ⟨gf, 0, none⟩)] w fun e w' => e = .returned (.int .i64 n) ∧ w' = w.setCell ⟨gf, 0, none⟩ (.int .i64 er) := by
  obtain ⟨c0, f0, z⟩ := blk1 h
  go_enter Try.func51, Try.ntmps51
  go_wp2_with fail
  go_ret
  exact ⟨rfl, rfl⟩
theorem tget_arg (gr : Nat) (n : Int) (w : World) (hn : n < 0 ∨ 257 < n) :
    Calls Try.prog 28 #[.pointer (some ⟨gr, 0, none⟩), .int .i64 n] w fun e w' => e = .returned (.tuple #[.slice none 0 0, .int .i64 2]) ∧ w' = w := by
  have hn' : n < 0 ∨ (¬ n < 0 ∧ n > 257) := by omega
  clear hn
  rcases hn' with h1 | ⟨h1, h2⟩
  all_goals
    go_enter Try.func28, Try.ntmps28
    go_wp2_with fail
    go_ret2
    exact ⟨rfl, rfl⟩
theorem run_make0 {P : Program} (t e : TypeId) (z : Value) (size bytes : Nat) (ht : P.underlying t = some (.slice e)) (hinfo : (P.info? e).map (fun i => (i.zero, i.size, i.bytes)) = some (some z, size, bytes))
    (n : Nat) (hbytes : bytes * n ≤ 281474976710656) (h63 : n ≤ 9223372036854775807) (w : World) :
    (Instr.makeSlice t (.int .i64 0) (.int .i64 (n : Int))).run P w = .ok (.slice (some ⟨w.heap.size, 0, none⟩) 0 n) (w.alloc (.cells (madeCells z.cells (n * size)) e)) := by
  obtain ⟨i, hi, hzz⟩ := Option.map_eq_some_iff.1 hinfo
  simp only [Prod.mk.injEq] at hzz
  obtain ⟨hz, hs, hb⟩ := hzz
  have hb' : (i.bytes : Int) * (n : Int) ≤ 281474976710656 := by
    have h : ((i.bytes * n : Nat) : Int) ≤ 281474976710656 := by rw [hb]; omega
    rwa [Int.natCast_mul] at h
  have hr := run_make (P := P) w t e i z ht hi hz .i64 .i64 0 n (by omega) (by omega) hb' (by omega)
  simp only [Int.toNat_natCast, hs] at hr
  exact hr
set_option maxRecDepth 100000 in
set_option maxHeartbeats 8000000 in
theorem tget_any (gr : Nat) (s : List UInt8) (n : Nat) (w : World) (hr : Blk w gr 94 (rdr s 0)) (hn : n ≤ 257) (hs : s.length ≤ 100000) (x : List Int × Nat × Int) (hx : tabG s n = x) :
    Calls Try.prog 28 #[.pointer (some ⟨gr, 0, none⟩), .int .i64 n] w fun e w' => ∃ A2 n2 c2, e = .returned (.tuple #[.slice A2 n2 c2, .int .i64 x.2.2]) ∧ n2 ≤ c2 ∧ Rd w' w'.heap.size 1 A2 n2 (ints x.1) ∧ RLeft w w' gr s (if x.2.2 = 0 then x.2.1 else 0) := by
  have hmf : ∀ (fn : Fn) (first cap : Array Value) (w : World), (Instr.makeFunc fn first cap).run Try.prog w = .ok (.func fn first cap) w := fun _ _ _ _ => rfl
  have hmk := fun w => run_make0 (P := Try.prog) 22 3 (.int .i64 0) 1 8 Try.underlying22 (by kernel_rfl) n (by omega) (by omega) w
  have hgr := hr.lt
  have HX := Lib.hid hx
  have hr0 := hr
  obtain ⟨r0, r1, _, _, _⟩ := blk2 hr0
  clear hx hr0
  go_enter Try.func28, Try.ntmps28
  go_wp2_with fail
  refine (BitW.new_any [] w).mono ?_
  rintro e w1 ⟨rfl, rfl⟩
  have HB1 : Below w.heap.size w (w.alloc (.cells (rdr [] 0) 94)) := (Below.refl _ _).alloc (Nat.le_refl _) _
  have bL := Blk.new w 94 (rdr [] 0)
  have hrr := hr.below HB1 hgr
  have hrr' := hrr
  obtain ⟨r0, r1, _, _, _⟩ := blk2 hrr'
  have bL' := bL
  obtain ⟨l0, l1, lf0, lf1, _⟩ := blk2 bL'
  clear hrr' bL'
  go_wp2_with fail
  clear r0 r1 l0 l1 lf0 lf1 hmk hrr
  have b0 : Blk (((w.alloc (.cells (rdr s 0) 94)).alloc (.cells #[.int .i64 0] 24)).alloc (.cells (madeCells #[.int .i64 0] n) 3)) w.heap.size 94 (rdr s 0) := ((Blk.new _ _ _).alloc _).alloc _
  have b1 : Blk (((w.alloc (.cells (rdr s 0) 94)).alloc (.cells #[.int .i64 0] 24)).alloc (.cells (madeCells #[.int .i64 0] n) 3)) (w.heap.size + 1) 24 #[.int .i64 0] := by
    have := Blk.new (w.alloc (.cells (rdr s 0) 94)) 24 #[.int .i64 0]; rw [World.size_alloc] at this; exact this.alloc _
  have o0 : Own (((w.alloc (.cells (rdr s 0) 94)).alloc (.cells #[.int .i64 0] 24)).alloc (.cells (madeCells #[.int .i64 0] n) 3)) (w.heap.size + 1 + 1) 3 1 (some ⟨w.heap.size + 1 + 1, 0, none⟩) 0 n (ints []) := by
    have := own_made (W0 := (w.alloc (.cells (rdr s 0) 94)).alloc (.cells #[.int .i64 0] 24)) (base := w.heap.size + 1 + 1) (t := 3) (g := w.heap.size + 1 + 1) (n := 0) (c := n) (size := 1) (cs := madeCells #[.int .i64 0] n) (by simp) (by omega) (by simp [madeCells]) (by omega) (by unfold maxLen; omega)
    simpa [ints] using this
  have hb0 : Below w.heap.size w (((w.alloc (.cells (rdr s 0) 94)).alloc (.cells #[.int .i64 0] 24)).alloc (.cells (madeCells #[.int .i64 0] n) 3)) := (((Below.refl _ w).alloc (Nat.le_refl _) _).alloc (by simp) _).alloc (by simp; omega) _
  clear bL HB1
  go_loopw [9, 10] (fun out last wr => ∃ (j q c2 f : Nat) (A2 : Option Addr) (acc : List Int) (la : Int), out = .slice A2 j c2 ∧ last = .int .i64 la ∧ acc.length = j ∧ j ≤ n ∧ q ≤ 8 * s.length ∧ getT s n f q acc la = x ∧ n - j < f ∧ Blk wr w.heap.size 94 (rdr s q) ∧ Blk wr (w.heap.size + 1) 24 #[.int .i64 0] ∧ Own wr (w.heap.size + 1 + 1) 3 1 A2 j c2 (ints acc) ∧ Below w.heap.size w wr) (fun out _ _ => n - lenOf out)
  case atStart => exact ⟨0, 0, n, n + 1, _, [], -1, rfl, rfl, rfl, by omega, by omega, HX.out, by omega, b0, b1, o0, hb0⟩
  case round =>
    clear b0 b1 o0 hb0
    obtain ⟨j, q, c2, f, A2, acc, la, rfl, rfl, hj, hjn, hq, hg, hf, bL, bF, o2, hbw⟩ := hrel
    have hsz := hbw.size
    have hLl := bL.lt
    have hFl := bF.lt
    by_cases hlt : j < n
    · obtain ⟨f, rfl⟩ : ∃ g, f = g + 1 := ⟨f - 1, by omega⟩
      have HG := Lib.hid (getT_round hg (by omega))
      have hcv := @getB_conv s q
      obtain ⟨v, hv⟩ : ∃ v, getB (bitsB s) (q : Nat) 4 = v := ⟨_, rfl⟩
      have C := BitW.get_any w.heap.size s q 4 wr bL hq (by omega) v hv
      rw [hv] at HG hcv
      have HCV := Lib.hid hcv
      clear hg hv hcv
      obtain ⟨v1, v2⟩ := v
      dsimp only at C
      have hjI : (j : Int) < (n : Int) := by omega
      go_wp2_with fail
      refine C.mono ?_
      clear C
      rintro e w1 ⟨rfl, bL1, hg1⟩
      have bF1 := bF.grown hg1 (by simp)
      have o1 := o2.grown hg1 (.inr fun e => by have := (o2.blk _ e).1; omega)
      have hb1 := hbw.trans (grown_below hg1 hLl)
      have hz1 := hg1.size
      clear bL bF o2 hg1
      have C := held_zero v1 v2 (w.heap.size + 1) w1 bF1
      go_wp2_with fail
      refine C.mono ?_
      clear C
      rintro e w2 ⟨rfl, hw2⟩
      have bF2 : Blk w2 (w.heap.size + 1) 24 #[.int .i64 v2] := by rw [hw2]; exact bF1.set 0 _
      have bL2 : Blk w2 w.heap.size 94 (rdr s (if v2 = 0 then q + (4 : Int).toNat else q)) := by rw [hw2]; exact bL1.far (p := ⟨w.heap.size + 1, 0, none⟩) (by dsimp only; omega) _
      have o2 : Own w2 (w.heap.size + 1 + 1) 3 1 A2 j c2 (ints acc) := by rw [hw2]; exact o1.far (p := ⟨w.heap.size + 1, 0, none⟩) (fun e => by have := (o1.blk _ e).1; dsimp only at this; omega) _
      have hb2 : Below w.heap.size w w2 := by rw [hw2]; exact hb1.setCell (p := ⟨w.heap.size + 1, 0, none⟩) (by dsimp only; omega) _
      have hz2 : w2.heap.size ≤ w1.heap.size := by rw [hw2]; simp
      have hz2' : w1.heap.size ≤ w2.heap.size := by rw [hw2]; simp
      clear bF1 bL1 o1 hb1 hw2
      have bX := Blk.new w2 81 #[.int .i64 v1, .int .i64 0]
      have bF3 := bF2.alloc (.cells #[.int .i64 v1, .int .i64 0] 81)
      have bL3 := bL2.alloc (.cells #[.int .i64 v1, .int .i64 0] 81)
      have o3 := o2.alloc (.cells #[.int .i64 v1, .int .i64 0] 81)
      have hb3 := hb2.alloc hb2.size (.cells #[.int .i64 v1, .int .i64 0] 81)
      have hz3 : (w2.alloc (.cells #[.int .i64 v1, .int .i64 0] 81)).heap.size = w2.heap.size + 1 := by simp
      have bF3' := bF3
      obtain ⟨f0, ff0, _⟩ := blk1 bF3'
      clear bF3'
      by_cases hv2 : v2 = 0
      · subst hv2
        rw [if_pos rfl] at bL3
        have hcv2 := HCV.out rfl
        obtain ⟨hq4, y, hy, _⟩ := hcv2
        have hy1 : v1 = (y : Int) := hy
        subst hy1
        have hun := fun n' k' => @ung_conv s (q + 4) n' k'
        obtain ⟨u, hu⟩ : ∃ u, ungB s (q + 4) = u := ⟨_, rfl⟩
        rw [hu] at HG hun
        have C := BitW.gamma_any w.heap.size s (q + 4) (w2.alloc (.cells #[.int .i64 (y : Int), .int .i64 0] 81)) bL3 hq4 (by omega) u hu
        have HUN := Lib.hid hun
        clear hun hu hy
        obtain ⟨k, er, sz⟩ := u
        dsimp only at C
        go_wp2_with fail
        refine C.mono ?_
        clear C
        rintro e w4 ⟨rfl, bL4, hg4⟩
        have bF4 := bF3.grown hg4 (by simp)
        have bX4 := bX.grown hg4 (by simp; omega)
        have o4 := o3.grown hg4 (.inr fun e => by have := (o3.blk _ e).1; omega)
        have hb4 := hb3.trans (grown_below hg4 (by omega))
        have hz4 := hg4.size
        clear bL3 bF3 bX o3 hg4 hb3 f0 ff0
        have C := held_zero (k : Int) er (w.heap.size + 1) w4 bF4
        go_wp2_with fail
        refine C.mono ?_
        clear C
        rintro e w5 ⟨rfl, hw5⟩
        have bF5 : Blk w5 (w.heap.size + 1) 24 #[.int .i64 er] := by rw [hw5]; exact bF4.set 0 _
        have bX5 : Blk w5 w2.heap.size 81 #[.int .i64 (y : Int), .int .i64 0] := by rw [hw5]; exact bX4.far (p := ⟨w.heap.size + 1, 0, none⟩) (by dsimp only; omega) _
        have bL5 : Blk w5 w.heap.size 94 (rdr s (q + 4 + sz)) := by rw [hw5]; exact bL4.far (p := ⟨w.heap.size + 1, 0, none⟩) (by dsimp only; omega) _
        have o5 : Own w5 (w.heap.size + 1 + 1) 3 1 A2 j c2 (ints acc) := by rw [hw5]; exact o4.far (p := ⟨w.heap.size + 1, 0, none⟩) (fun e => by have := (o4.blk _ e).1; dsimp only at this; omega) _
        have hb5 : Below w.heap.size w w5 := by rw [hw5]; exact hb4.setCell (p := ⟨w.heap.size + 1, 0, none⟩) (by dsimp only; omega) _
        have hz5 : w5.heap.size ≤ w4.heap.size := by rw [hw5]; simp
        have hz5' : w4.heap.size ≤ w5.heap.size := by rw [hw5]; simp
        clear bF4 bX4 bL4 o4 hb4 hw5
        have bX5' := bX5
        obtain ⟨x0, x1, xf0, xf1, _⟩ := blk2 bX5'
        have bX6 : Blk (w5.setCell ⟨w2.heap.size, 1, none⟩ (.int .i64 (k : Int))) w2.heap.size 81 #[.int .i64 (y : Int), .int .i64 (k : Int)] := blk_eq (bX5.set 1 _) (by simp)
        have bF6 := bF5.far (p := ⟨w2.heap.size, 1, none⟩) (by dsimp only; omega) (.int .i64 (k : Int))
        have bL6 := bL5.far (p := ⟨w2.heap.size, 1, none⟩) (by dsimp only; omega) (.int .i64 (k : Int))
        have o6 := o5.far (p := ⟨w2.heap.size, 1, none⟩) (fun e => by have := (o2.blk _ e).2; dsimp only at this; omega) (.int .i64 (k : Int))
        have hb6 := hb5.setCell (p := ⟨w2.heap.size, 1, none⟩) (by dsimp only; omega) (.int .i64 (k : Int))
        have hz6 : (w5.setCell ⟨w2.heap.size, 1, none⟩ (.int .i64 (k : Int))).heap.size ≤ w5.heap.size ∧ w5.heap.size ≤ (w5.setCell ⟨w2.heap.size, 1, none⟩ (.int .i64 (k : Int))).heap.size := by simp
        have hne6 : ∀ b, blkOf A2 = some b → b ≠ w2.heap.size := fun b e => by have := (o2.blk _ e).2; omega
        obtain ⟨y0, y1, _, _, _⟩ := blk2 bX6
        have bF6' := bF6
        obtain ⟨f0, _, _⟩ := blk1 bF6'
        have hgrw := hr.below hb6 hgr
        clear bF5 bX5 bL5 o5 hb5 bX5' bF6' o2
        go_upto_region 14 with fail
        generalize w5.setCell ⟨w2.heap.size, 1, none⟩ (.int .i64 (k : Int)) = w6 at *
        by_cases her : er = 0
        · subst her
          obtain ⟨hqs, hk0, hk32, _⟩ := HUN.out _ _ hq4 rfl
          by_cases hla : (y : Int) = la
          · have hx := HG.out.2.2.1 (by trivial) (by trivial) hla
            subst hx
            subst hla
            clear bX6 bF6 bL6 o6
            go_wp2_with fail
            go_ret2
            exact ⟨none, 0, 0, rfl, by omega, Rd.nil _ _ _ _, hgrw, hb6.os, hb6.tape, hb6.output, hb6.size, fun b hb _ => hb6.block b hb⟩
          · have hlaI : ((y : Int) == la) = false := by simpa using hla
            have hlaD : decide ((y : Int) = la) = false := by simpa using hla
            by_cases hkn : (n : Int) - (j : Int) < (k : Int)
            · have hx := HG.out.2.2.2.1 (by trivial) (by trivial) hla (by first | exact hkn | (rw [hj]; exact hkn) | (rw [hj]; omega) | omega)
              subst hx
              have hknI : (k : Int) > (n : Int) - (j : Int) := by omega
              clear bX6 bF6 bL6 o6 hla
              go_wp2_with fail
              go_ret2
              exact ⟨none, 0, 0, rfl, by omega, Rd.nil _ _ _ _, hgrw, hb6.os, hb6.tape, hb6.output, hb6.size, fun b hb _ => hb6.block b hb⟩
            · have hgo := HG.out.2.2.2.2 (by trivial) (by trivial) hla (by first | exact hkn | (rw [hj]; exact hkn) | (rw [hj]; omega) | omega)
              have HGO := Lib.hid hgo
              have hknI : ¬ (k : Int) > (n : Int) - (j : Int) := by omega
              clear hgo hla
              have bF6'' := bF6
              go_wp2_with fail
              go_loopw [9, 69] (fun out i wr => ∃ (t c3 : Nat) (A3 : Option Addr), i = .int .i64 t ∧ out = .slice A3 (j + t) c3 ∧ t ≤ k ∧ Own wr (w.heap.size + 1 + 1) 3 1 A3 (j + t) c3 (ints (acc ++ List.replicate t (y : Int))) ∧ Blk wr w.heap.size 94 (rdr s (q + 4 + sz)) ∧ Blk wr (w.heap.size + 1) 24 #[.int .i64 0] ∧ Blk wr w2.heap.size 81 #[.int .i64 (y : Int), .int .i64 (k : Int)] ∧ (∀ b, blkOf A3 = some b → b ≠ w2.heap.size) ∧ Below w.heap.size w wr) (fun _ i _ => k - (intOf i).toNat)
              case atStart => exact ⟨0, c2, A2, rfl, by simp, by omega, by simpa using o6, bL6, bF6'', bX6, hne6, hb6⟩
              case round =>
                clear o6 bL6 bF6 bX6 hb6 hne6 f0 y0 y1 bF6'' hgrw
                obtain ⟨t, c3, A3, rfl, rfl, ht, o7, bL7, bF7, bX7, hne7, hb7⟩ := hrel
                have hsz7 := hb7.size
                have hXl := bX7.lt
                have hFl7 := bF7.lt
                have bX7' := bX7
                obtain ⟨y0, y1, _, _, _⟩ := blk2 bX7'
                clear bX7'
                by_cases hlk : t < k
                · have hrn : Rd (wr.alloc (.cells #[.int .i64 (y : Int)] 3)) (wr.heap.size + 1) 1 (some ⟨wr.heap.size, 0, none⟩) 1 (ints [(y : Int)]) := rd_new (W0 := wr) (t := 3) (cs := ints [(y : Int)]) (size := 1) (m := 1) rfl rfl
                  have hneb : ∀ b, b < w.heap.size + 1 + 1 → some b ≠ blkOf A3 := fun b hb e => by have := (o7.blk b e.symm).1; omega
                  go_wp2_with (at_builtin; with_reducible refine wp_append El_int2 rfl (s := .tmp 71) (x := .tmp 74) rfl rfl (o7.alloc _) rfl hrn (ints_one _) (by unfold maxLen; omega) (by omega) (by simp; omega) ?_; intro A4 c4 w7 o8 hg8 hat8; have hb8 := below_grown (hb7.alloc hsz7 (.cells #[.int .i64 (y : Int)] 3)) hg8 (o7.alloc _) (by omega); have bL8 := (bL7.alloc (.cells #[.int .i64 (y : Int)] 3)).grown hg8 (hneb _ (by omega)); have bF8 := (bF7.alloc (.cells #[.int .i64 (y : Int)] 3)).grown hg8 (hneb _ (by omega)); have bX8 := (bX7.alloc (.cells #[.int .i64 (y : Int)] 3)).grown hg8 (fun e => absurd rfl (hne7 _ e.symm)))
                  have e1 : ints (acc ++ List.replicate t (y : Int)) ++ ints [(y : Int)] = ints (acc ++ List.replicate (t + 1) (y : Int)) := by rw [List.replicate_succ']; simp [ints]
                  rw [e1] at o8
                  have hne8 : ∀ b, blkOf A4 = some b → b ≠ w2.heap.size := by
                    intro b hb
                    rcases hat8 with h8 | h8
                    · exact hne7 b (by rw [← h8]; exact hb)
                    · rw [h8, World.size_alloc] at hb
                      simp only [Option.some.injEq] at hb
                      omega
                  go_roundw
                  case rel => exact ⟨t + 1, c4, A4, by go_num, by rw [Nat.add_assoc], by omega, o8, bL8, bF8, bX8, hne8, hb8⟩
                  case measure => simp [intOf]; omega
                · obtain rfl : t = k := by omega
                  go_wp2_with fail
                  go_roundw
                  case rel => exact ⟨j + t, q + 4 + sz, c3, f, A3, acc ++ List.replicate t (y : Int), (y : Int), rfl, rfl, by simp; omega, by omega, hqs, HGO.out, by omega, bL7, bF7, o7, hb7⟩
                  case measure => simp [lenOf]; omega
        · have hx := HG.out.2.1 (by trivial) her
          try dsimp only at hx
          subst hx
          have herI : (er == 0) = false := by simpa using her
          have herI2 : (er != 0) = true := by simp [her]
          have herD : decide (er = 0) = false := by simpa using her
          clear bX6 bF6 bL6 o6
          have hif : ∀ (a b : Nat), (if er = 0 then a else b) = b := fun a b => if_neg her
          have HIF := Lib.hid hif
          clear hif
          go_wp2_with fail
          go_quiet (fail)
          go_wp2
          go_ret2
          exact ⟨none, 0, 0, rfl, by omega, Rd.nil _ _ _ _, by first | exact hgrw.drewN _ | (rw [HIF.out]; exact hgrw.drewN _), hb6.os, hb6.tape, hb6.output, hb6.size, fun b hb _ => hb6.block b hb⟩
      · have hx := HG.out.1 hv2
        try dsimp only at hx
        subst hx
        have herI : (v2 == 0) = false := by simpa using hv2
        have herI2 : (v2 != 0) = true := by simp [hv2]
        have herD : decide (v2 = 0) = false := by simpa using hv2
        have hif : ∀ (a b : Nat), (if v2 = 0 then a else b) = b := fun a b => if_neg hv2
        have HIF := Lib.hid hif
        have hgrw := hr.below hb3 hgr
        clear hif bX bF3 bL3 o3
        go_wp2_with fail
        go_quiet (fail)
        go_wp2
        go_ret2
        exact ⟨none, 0, 0, rfl, by omega, Rd.nil _ _ _ _, by first | exact hgrw.drewN _ | (rw [HIF.out]; exact hgrw.drewN _), hb3.os, hb3.tape, hb3.output, hb3.size, fun b hb _ => hb3.block b hb⟩
    · have hje : j = n := by omega
      have hge : ¬ (j : Int) < (n : Int) := by omega
      obtain ⟨f, rfl⟩ : ∃ g, f = g + 1 := ⟨f - 1, by omega⟩
      rw [getT, if_pos (by omega)] at hg
      clear hje
      have C := check_any A2 j c2 acc wr o2.rd (by omega) _ rfl
      have hrw := hr.below hbw hgr
      by_cases hk : chkL acc = 0
      · rw [if_pos hk] at hg
        subst hg
        rw [hk] at C
        have hrw' := hrw
        obtain ⟨r0, r1, rf0, rf1, _⟩ := blk2 hrw'
        have bL' := bL
        obtain ⟨l0, l1, _, _, _⟩ := blk2 bL'
        clear hk bL' hrw'
        go_wp2_with fail
        refine C.mono ?_
        clear C
        rintro e w1 ⟨rfl, rfl⟩
        go_wp2_with fail
        go_ret2
        refine ⟨A2, j, c2, rfl, o2.cap, ?_, ?_, hbw.os, hbw.tape, hbw.output, by simpa [World.setCell] using hbw.size, ?_⟩
        · have o3 := (o2.far (p := ⟨gr, 0, none⟩) (fun e => by have := (o2.blk _ e).1; dsimp only at this; omega) (.string ⟨s.toArray⟩)).far (p := ⟨gr, 1, none⟩) (fun e => by have := (o2.blk _ e).1; dsimp only at this; omega) (.int .i64 (q : Int))
          exact o3.rd
        · try rw [if_pos rfl]
          exact blk_eq ((hrw.set 0 (.string ⟨s.toArray⟩)).set 1 (.int .i64 (q : Int))) (by simp [str])
        · intro b hb hne
          have hkg : ¬ b = gr := fun e => hne (by rw [e])
          rw [Below.heap_setCell _ _ _ b hkg, Below.heap_setCell _ _ _ b hkg]
          exact hbw.block b hb
      · rw [if_neg hk] at hg
        obtain ⟨v, hve⟩ : ∃ v, chkL acc = v := ⟨_, rfl⟩
        rw [hve] at hg hk C
        subst hg
        clear hve
        have hvI : (v != 0) = true := by simp [hk]
        have hif : ∀ (a b : Nat), (if v = 0 then a else b) = b := fun a b => if_neg hk
        have HIF := Lib.hid hif
        clear hif
        go_wp2_with fail
        refine C.mono ?_
        clear C
        rintro e w1 ⟨rfl, rfl⟩
        go_wp2_with fail
        go_ret2
        exact ⟨none, 0, 0, rfl, by omega, Rd.nil _ _ _ _, by first | exact hrw | (rw [HIF.out]; exact hrw), hbw.os, hbw.tape, hbw.output, hbw.size, fun b hb _ => hbw.block b hb⟩
end TabW
end Go.Proofs.Ytdfclgpkhfpkhaa

namespace Go.Proofs.Ytdfclgpkhfpkhaa
set_option linter.unusedVariables false
set_option linter.unusedSimpArgs false
set_option linter.unnecessarySimpa false
open Go.RowKit
namespace TabW
open LenW (okL okL_at chkL chk0 check_any refCheck_any)
open BitW (rdr RLeft ungB El_int2 left_any bc bc_app bc_one bc_len digits_any refGamma_any refText_any rd_bclen gam gamB)

/-- Lengths from one on: a run, and what is behind it. -/
theorem span_at (l : List Int) (k m : Nat) (x : Int) (hk : k < m) (hm : m ≤ l.length) (h : ∀ i, k ≤ i → i < m → l[i]? = some x) (hne : ∀ y, l[m]? = some y → y ≠ x) : rle (l.drop k) = (x, ((m - k : Nat) : Int)) :: rle (l.drop m) := by
  obtain ⟨d, hd⟩ : ∃ d, m = k + (d + 1) := ⟨m - k - 1, by omega⟩
  have e : l.drop k = List.replicate (d + 1) x ++ l.drop m := by
    rw [← List.take_append_drop (d + 1) (l.drop k), List.drop_drop, ← hd]
    congr 1
    apply List.ext_getElem?
    intro i
    by_cases hi : i < d + 1
    · rw [List.getElem?_take_of_lt hi, List.getElem?_drop, h (k + i) (by omega) (by omega), List.getElem?_replicate, if_pos hi]
    · rw [List.getElem?_eq_none (by simp; omega), List.getElem?_eq_none (by simp; omega)]
  rw [e, rle_span x d (l.drop m) (fun y hy => hne y (by rwa [List.head?_drop] at hy)), show m - k = d + 1 by omega]
theorem runsB_cons (r : Int × Int) (R : List (Int × Int)) : runsB (r :: R) = dg 4 r.1.toNat ++ (gam r.2.toNat ++ runsB R) := by simp [runsB, runB]
set_option maxRecDepth 100000 in
set_option maxHeartbeats 8000000 in
theorem refBits_tab (A : Option Addr) (n c : Nat) (l : List Int) (w : World) (h : Rd w w.heap.size 1 A n (ints l)) (hk : chkL l = 0) (T : List Nat) (hT : tabB l = T) :
    Calls Try.prog 49 #[.slice A n c] w fun e w' => ∃ A2 n2 c2, e = .returned (.slice A2 n2 c2) ∧ Own w' w.heap.size 3 1 A2 n2 c2 (bc T) ∧ Below w.heap.size w w' := by
  have hl : l.length = n := rd_len h
  obtain ⟨h257, hok, _⟩ := chk0 hk
  have HOK := Lib.hid (fun i hi => okL_at l i hi hok)
  have HT := Lib.hid hT
  have HSP := Lib.hid (span_at l)
  clear hok hk hT
  go_enter Try.func49, Try.ntmps49
  go_wp2_with fail
  go_loopw [3, 4] (fun out i wr => ∃ (k n2 c2 : Nat) (A2 : Option Addr) (L : List Nat), i = .int .i64 k ∧ out = .slice A2 n2 c2 ∧ k ≤ n ∧ n2 ≤ 100 * k ∧ T = L ++ runsB (rle (l.drop k)) ∧ Own wr w.heap.size 3 1 A2 n2 c2 (bc L) ∧ Below w.heap.size w wr) (fun _ i _ => n - (intOf i).toNat)
  case atStart => exact ⟨0, 0, 0, none, [], rfl, rfl, by omega, by omega, by rw [← HT.out]; rfl, Own.nil _ _ _ _, Below.refl _ _⟩
  case round =>
    obtain ⟨k, n2, c2, A2, L, rfl, rfl, hkn, hn2, hTL, o2, hbw⟩ := hrel
    have HTL := Lib.hid hTL
    clear hTL
    have hsz := hbw.size
    by_cases hlt : k < n
    · have hkl : k < l.length := by omega
      obtain ⟨b, o, rfl, hb, hc⟩ := rd_ints (h.below hbw) (by omega)
      have d0 : wr.cell? ⟨b, o + k, none⟩ = some (.int .i64 l[k]) := hc k hkl
      have hx15 := HOK.out k hkl
      have HX0 := Lib.hid (show l[k]? = some l[k] from List.getElem?_eq_getElem hkl)
      obtain ⟨x, hx⟩ : ∃ x, l[k] = x := ⟨_, rfl⟩
      rw [hx] at d0 hx15 HX0
      have HC := Lib.hid hc
      clear hx hc
      have hkI : (k : Int) < (n : Int) := by omega
      have hk0 : (0 : Int) ≤ (k : Int) := by omega
      go_wp2_with fail
      go_loopw [5] (fun i wr' => ∃ (m nq : Nat), i = .int .i64 m ∧ k ≤ m ∧ m ≤ n ∧ (∀ i, k ≤ i → i < m → l[i]? = some x) ∧ wr' = wr.drewN nq) (fun i _ => n - (intOf i).toNat)
      case atStart => exact ⟨k, 0, rfl, by omega, by omega, fun i h1 h2 => by omega, rfl⟩
      case round =>
        obtain ⟨m, nq, rfl, hkm, hmn, hall, rfl⟩ := hrel
        have HA := Lib.hid hall
        clear hall
        by_cases hmx : m < n ∧ l[m]? = some x
        · obtain ⟨hml, hm2⟩ := hmx
          have hmn2 : m < l.length := by omega
          have d1 : wr.cell? ⟨b, o + m, none⟩ = some (.int .i64 l[m]) := HC.out m hmn2
          have hmx2 : l[m] = x := by rw [List.getElem?_eq_getElem hmn2] at hm2; simpa using hm2
          rw [hmx2] at d1
          have HM2 := Lib.hid hm2
          have hmI : (m : Int) < (n : Int) := by omega
          have hm0 : (0 : Int) ≤ (m : Int) := by omega
          clear hm2 hmx2
          have hxx : (x == x) = true := by simp
          go_wp2_with fail
          go_quiet (fail)
          go_wp2
          go_roundw
          case rel => exact ⟨m + 1, _, by go_num, by omega, by omega, fun i h1 h2 => (Nat.lt_succ_iff_lt_or_eq.1 h2).elim (HA.out i h1) (fun e => by rw [e]; exact HM2.out), by first | rfl | exact World.drewN_drewN _ _ _⟩
          case measure => simp [intOf]; omega
        · have hkm2 : k < m := by
            rcases Nat.lt_or_ge k m with q | q
            · exact q
            · obtain rfl : k = m := by omega
              exact absurd ⟨hlt, HX0.out⟩ hmx
          have HS := Lib.hid (HSP.out k m x hkm2 (by omega) HA.out (fun y hy e => by
            subst e
            obtain ⟨hi, _⟩ := List.getElem?_eq_some_iff.1 hy
            exact hmx ⟨by omega, hy⟩))
          have HMX : Hid (m < n → ∃ y, wr.cell? ⟨b, o + m, none⟩ = some (.int .i64 y) ∧ ¬ y = x) := Lib.hid (fun q => ⟨l[m]'(by omega), HC.out m (by omega), fun e => hmx ⟨q, by rw [List.getElem?_eq_getElem (by omega), e]⟩⟩)
          have HTN := Lib.hid (show T = (L ++ (dg 4 x.toNat ++ gam (m - k))) ++ runsB (rle (l.drop m)) by rw [HTL.out, HS.out, runsB_cons]; simp)
          clear hmx
          have HB : Below w.heap.size w (wr.drewN nq) := hbw.drewN_ nq
          have C1 := fun w => digits_any x 4 w (by unfold I64; omega)
          have C2 := fun w => refGamma_any (((m - k : Nat) : Int)) w (by unfold I64; omega)
          have hf1 : fitsB x 4 = true := by unfold fitsB; simp; omega
          have hf2 : gamB ((m - k : Nat) : Int) = true := by unfold gamB fitsB; simp; omega
          rw [hf1] at C1
          rw [hf2] at C2
          have H1 := Lib.hid C1
          have H2 := Lib.hid C2
          have hsub : (m : Int) - (k : Int) = ((m - k : Nat) : Int) := by omega
          have HSUB := Lib.hid hsub
          have hmk : ∃ z, m - k = z ∧ z ≤ 257 := ⟨_, rfl, by omega⟩
          clear C1 C2 hf1 hf2 hsub
          have hcases : m = n ∨ m < n := by omega
          rcases hcases with hmn3 | hmn3
          · have hge : ¬ (m : Int) < (n : Int) := by omega
            have hgd : decide ((m : Int) < (n : Int)) = false := decide_eq_false hge
            have hgN : ¬ m < n := by omega
            have hgN2 : n ≤ m := by omega
            clear hmn3 HMX
            go_wp2_with fail
            go_quiet (fail)
            go_wp2_with fail
            refine (H1.out _).mono ?_
            rintro e w3 ⟨A3, k3, xs3, rfl, hk3, o3, hxs3, hb3⟩
            have hx3 := hxs3 (by trivial)
            subst hx3
            clear hxs3 H1
            have hd3 : Below wr.heap.size wr w3 := ((Below.refl wr.heap.size wr).drewN_ _).trans hb3
            have HB3 : Below w.heap.size w w3 := hbw.trans (hd3.mono hsz)
            have z3 := hd3.size
            go_wp2_with fail
            try rw [HSUB.out]
            refine (H2.out _).mono ?_
            rintro e w4 ⟨A4, k4, c4, xs4, rfl, hk4, hc4, o4, hxs4, hb4⟩
            have hx4 := hxs4 (by trivial)
            subst hx4
            clear hxs4 H2
            have z4 := hb4.size
            have HB4 := HB3.trans (hb4.mono HB3.size)
            have o3' := o3.below hb4
            have o5 := (o2.below hd3).below hb4
            go_wp2_with (at_builtin; first | (with_reducible refine wp_append El_int2 rfl (s := .tmp 47) (x := .tmp 48) rfl rfl o5 rfl o3'.rd (bc_one _) (by unfold maxLen; omega) (by omega) (by omega) ?_; intro A6 c6 w6 o6 hg6 hat6; have o4' := o4.other hg6 (fun q hq e => by have := (o4.blk q hq).1; have := (o2.blk q e).2; omega); have HB6 := below_grown HB4 hg6 o5 (Nat.le_refl _); have z6 := hg6.size) | (with_reducible refine wp_append El_int2 rfl (s := .tmp 49) (x := .tmp 50) rfl rfl o6 rfl o4'.rd (bc_one _) (by unfold maxLen; omega) (by omega) (by omega) ?_; intro A7 c7 w7 o7 hg7 hat7; have HB7 := below_grown HB6 hg7 o6 (Nat.le_refl _)))
            rw [← bc_app, ← bc_app, List.append_assoc] at o7
            go_roundw
            case rel => exact ⟨m, n2 + k3 + k4, c7, A7, L ++ (dg 4 x.toNat ++ gam (m - k)), rfl, rfl, by omega, by omega, HTN.out, o7, HB7⟩
            case measure => simp [intOf]; omega
          · obtain ⟨y, d1, hyx⟩ := HMX.out hmn3
            have hyI : (y == x) = false := by simpa using hyx
            have hmI : (m : Int) < (n : Int) := by omega
            have hm0 : (0 : Int) ≤ (m : Int) := by omega
            go_wp2_with fail
            go_quiet (fail)
            go_wp2_with fail
            refine (H1.out _).mono ?_
            rintro e w3 ⟨A3, k3, xs3, rfl, hk3, o3, hxs3, hb3⟩
            have hx3 := hxs3 (by trivial)
            subst hx3
            clear hxs3 H1
            have hd3 : Below wr.heap.size wr w3 := ((Below.refl wr.heap.size wr).drewN_ _).trans hb3
            have HB3 : Below w.heap.size w w3 := hbw.trans (hd3.mono hsz)
            have z3 := hd3.size
            go_wp2_with fail
            try rw [HSUB.out]
            refine (H2.out _).mono ?_
            rintro e w4 ⟨A4, k4, c4, xs4, rfl, hk4, hc4, o4, hxs4, hb4⟩
            have hx4 := hxs4 (by trivial)
            subst hx4
            clear hxs4 H2
            have z4 := hb4.size
            have HB4 := HB3.trans (hb4.mono HB3.size)
            have o3' := o3.below hb4
            have o5 := (o2.below hd3).below hb4
            go_wp2_with (at_builtin; first | (with_reducible refine wp_append El_int2 rfl (s := .tmp 47) (x := .tmp 48) rfl rfl o5 rfl o3'.rd (bc_one _) (by unfold maxLen; omega) (by omega) (by omega) ?_; intro A6 c6 w6 o6 hg6 hat6; have o4' := o4.other hg6 (fun q hq e => by have := (o4.blk q hq).1; have := (o2.blk q e).2; omega); have HB6 := below_grown HB4 hg6 o5 (Nat.le_refl _); have z6 := hg6.size) | (with_reducible refine wp_append El_int2 rfl (s := .tmp 49) (x := .tmp 50) rfl rfl o6 rfl o4'.rd (bc_one _) (by unfold maxLen; omega) (by omega) (by omega) ?_; intro A7 c7 w7 o7 hg7 hat7; have HB7 := below_grown HB6 hg7 o6 (Nat.le_refl _)))
            rw [← bc_app, ← bc_app, List.append_assoc] at o7
            go_roundw
            case rel => exact ⟨m, n2 + k3 + k4, c7, A7, L ++ (dg 4 x.toNat ++ gam (m - k)), rfl, rfl, by omega, by omega, HTN.out, o7, HB7⟩
            case measure => simp [intOf]; omega
    · obtain rfl : k = n := by omega
      have HL := Lib.hid (show T = L by rw [HTL.out, List.drop_of_length_le (by omega)]; simp [rle, runsB])
      go_wp2_with fail
      go_ret
      exact ⟨A2, n2, c2, rfl, by rw [HL.out]; exact o2, hbw⟩
end TabW
end Go.Proofs.Ytdfclgpkhfpkhaa
