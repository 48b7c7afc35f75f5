/- Plain facts on a row in which each byte goes to the front. No program is named here. -/
import Derived.Test.YtnpncpoiiikafaaGreatMemQb
namespace Go.Proofs.YtnpncpoiiikafaaGreat
set_option linter.unusedVariables false
set_option linter.unusedSimpArgs false
set_option linter.unnecessarySimpa false
open Go.RowKit
namespace FrontW

def mtf (r : List UInt8) (i : Nat) : List UInt8 := r.getD i 0 :: (r.take i ++ r.drop (i + 1))
def initK (k : Nat) : List UInt8 := (List.range 256).map fun j => if j < k then UInt8.ofNat j else 0
def init : List UInt8 := (List.range 256).map UInt8.ofNat
def rowC (r : List UInt8) : Array Value := (byts r).toArray

theorem initK_len (k : Nat) : (initK k).length = 256 := by simp [initK]
theorem init_len : init.length = 256 := by simp [init]
theorem initK_last : initK 256 = init := by
  unfold initK init
  refine List.map_congr_left fun j hj => ?_
  rw [if_pos (by simpa using hj)]
theorem initK_set (k : Nat) (hk : k < 256) : (initK k).set k (UInt8.ofNat k) = initK (k + 1) := by
  refine List.ext_getElem (by simp [initK]) fun i h1 h2 => ?_
  simp only [initK, List.getElem_set, List.getElem_map, List.getElem_range]
  by_cases h : k = i
  · subst h; simp
  · rw [if_neg h]
    by_cases h' : i < k
    · rw [if_pos h', if_pos (by omega)]
    · rw [if_neg h', if_neg (by omega)]

theorem mtf_perm (r : List UInt8) (i : Nat) (hi : i < r.length) : (mtf r i).Perm r := by
  have h1 : r = r.take i ++ r.getD i 0 :: r.drop (i + 1) := by
    have h2 := List.take_append_drop i r
    rw [List.drop_eq_getElem_cons hi] at h2
    simpa [List.getD, List.getElem?_eq_getElem hi] using h2.symm
  unfold mtf
  conv => rhs; rw [h1]
  exact (List.perm_middle).symm

/-- A row that has every byte, each once. -/
def Full (r : List UInt8) : Prop := r.Perm init
theorem full_init : Full init := List.Perm.refl _
theorem Full.len {r : List UInt8} (h : Full r) : r.length = 256 := by rw [List.Perm.length_eq h]; exact init_len
theorem Full.mem {r : List UInt8} (h : Full r) (b : UInt8) : b ∈ r := by
  refine (List.Perm.mem_iff h).2 ?_
  unfold init
  exact List.mem_map.2 ⟨b.toNat, List.mem_range.2 b.toNat_lt, by simp⟩
theorem init_nodup : init.Nodup := by
  unfold init
  refine List.Pairwise.map _ ?_ (List.nodup_range (n := 256) |>.imp_of_mem (S := fun a b => a < 256 ∧ b < 256 ∧ a ≠ b) ?_)
  · rintro a b ⟨ha, hb, hne⟩ h
    apply hne
    have := congrArg UInt8.toNat h
    simp at this
    omega
  · intro a b ha hb hne
    exact ⟨by simpa using ha, by simpa using hb, hne⟩
theorem Full.nodup {r : List UInt8} (h : Full r) : r.Nodup := (List.Perm.nodup_iff h).2 init_nodup
theorem Full.mtf {r : List UInt8} (h : Full r) {i : Nat} (hi : i < 256) : Full (mtf r i) := (mtf_perm r i (by rw [h.len]; exact hi)).trans h
theorem Full.idx {r : List UInt8} (h : Full r) (b : UInt8) : r.idxOf b < 256 := by
  have := List.idxOf_lt_length_of_mem (h.mem b)
  rwa [h.len] at this

/-- The row, and the ranks told so far. -/
def stepR (x : List UInt8 × List Int) (b : UInt8) : List UInt8 × List Int := (mtf x.1 (x.1.idxOf b), x.2 ++ [(x.1.idxOf b : Int)])
def runR (s : List UInt8) : List UInt8 × List Int := s.foldl stepR (init, [])
theorem runR_snoc (s : List UInt8) (k : Nat) (hk : k < s.length) : runR (s.take (k + 1)) = stepR (runR (s.take k)) s[k] := by
  rw [runR, List.take_succ_eq_append_getElem hk, List.foldl_append]; rfl
theorem runR_full (s : List UInt8) : Full (runR s).1 := by
  unfold runR
  suffices h : ∀ (x : List UInt8 × List Int), Full x.1 → Full (s.foldl stepR x).1 from h _ full_init
  induction s with
  | nil => exact fun x h => h
  | cons b s ih => exact fun x h => ih _ (h.mtf (h.idx b))
theorem runR_len (s : List UInt8) : (runR s).2.length = s.length := by
  unfold runR
  suffices h : ∀ (x : List UInt8 × List Int), (s.foldl stepR x).2.length = x.2.length + s.length by simpa using h (init, [])
  induction s with
  | nil => simp
  | cons b s ih => intro x; rw [List.foldl_cons, ih]; simp [stepR]; omega

/-- The row, and the bytes told so far; none: a rank that may not be came. -/
def stepT (x : List UInt8 × List UInt8) (n : Int) : List UInt8 × List UInt8 := (mtf x.1 n.toNat, x.2 ++ [x.1.getD n.toNat 0])
def runT (l : List Int) : List UInt8 × List UInt8 := l.foldl stepT (init, [])
def okT (l : List Int) : Prop := ∀ n ∈ l, 0 ≤ n ∧ n ≤ 255
theorem runT_snoc (l : List Int) (k : Nat) (hk : k < l.length) : runT (l.take (k + 1)) = stepT (runT (l.take k)) l[k] := by
  rw [runT, List.take_succ_eq_append_getElem hk, List.foldl_append]; rfl
theorem runT_full (l : List Int) (h : okT l) : Full (runT l).1 := by
  unfold runT
  suffices g : ∀ (x : List UInt8 × List UInt8), Full x.1 → okT l → Full (l.foldl stepT x).1 from g _ full_init h
  clear h
  induction l with
  | nil => exact fun x h _ => h
  | cons n l ih => exact fun x h ho => ih _ (h.mtf (by have := ho n (by simp); omega)) (fun m hm => ho m (by simp [hm]))
end FrontW
end Go.Proofs.YtnpncpoiiikafaaGreat

namespace Go.Proofs.YtnpncpoiiikafaaGreat
set_option linter.unusedVariables false
set_option linter.unusedSimpArgs false
set_option linter.unnecessarySimpa false
open Go.RowKit
namespace FrontW

theorem rowC_cell {w : World} {g t : Nat} {r : List UInt8} (h : Blk w g t (rowC r)) (i : Nat) (hi : i < r.length) : w.cell? ⟨g, i, none⟩ = some (byt (r.getD i 0)) := by
  rw [h.cell]
  simp [rowC, byts, List.getD, List.getElem?_eq_getElem hi]

theorem rowC_set (r : List UInt8) (i : Nat) (b : UInt8) : (rowC r).setIfInBounds i (byt b) = rowC (r.set i b) := by
  simp [rowC, byts, List.map_set]

set_option maxHeartbeats 1000000 in
theorem begun_any (w : World) :
    Calls Tryz.prog 145 #[] w fun e w' => e = .returned (.pointer (some ⟨w.heap.size, 0, none⟩)) ∧ Blk w' w.heap.size 250 (rowC init) ∧ Below w.heap.size w w' := by
  have hz : Tryz.zeroCells250 = rowC (initK 0) := by kernel_rfl
  have HZ := Lib.hid hz
  clear hz
  go_enter Tryz.func145, Tryz.ntmps145
  go_wp2_with fail
  go_loopw [5] (fun i wr => ∃ k : Nat, k ≤ 256 ∧ i = .int .i64 k ∧ Blk wr w.heap.size 250 (rowC (initK k)) ∧ Below w.heap.size w wr) (fun i _ => 256 - (intOf i).toNat)
  case atStart => exact ⟨0, by omega, rfl, by rw [← HZ.out]; exact Blk.new _ _ _, (by first | exact Below.refl _ _ | (repeat (first | exact Below.refl _ _ | assumption | refine Below.drew ?_ | refine Below.drewN_ ?_ _ | refine Below.alloc ?_ (by first | exact Nat.le_refl _ | (simp; done) | (simp; omega) | omega) _ | refine Below.setCell ?_ (by first | exact Nat.le_refl _ | (simp; done) | (simp; omega) | omega) _ | (refine Below.trans ?_ (Below.mono (by assumption) (by first | exact Nat.le_refl _ | (simp; done) | (simp; omega) | omega))))))⟩
  case round =>
    obtain ⟨k, hk, rfl, hB, hbw⟩ := hrel
    by_cases hlt : k < 256
    · have d0 : wr.cell? ⟨w.heap.size, k, none⟩ = some (.int .u8 (((initK k).getD k 0).toNat : Int)) := rowC_cell hB k (by rw [initK_len]; omega)
      have f0 := hB.frozen k
      have hk1 : (k : Int) < 256 := by omega
      go_wp2
      go_roundw
      case rel => exact ⟨k + 1, by omega, by go_num, blk_eq (hB.set k _) (by rw [← initK_set k hlt, ← rowC_set]; congr 1; simp [byt]; omega), hbw.setCell (Nat.le_refl _) _⟩
      case measure => simp [intOf]; omega
    · have hd : decide ((k : Int) < 256) = false := by simp; omega
      have HB : Blk wr w.heap.size 250 (rowC init) := by rw [← initK_last]; rw [show 256 = k by omega]; exact hB
      have HH := Lib.hid HB
      clear hlt hk hB HB
      go_wp2
      go_ret
      exact ⟨rfl, HH.out, hbw⟩

set_option maxHeartbeats 1000000 in
theorem index_any (A : Option Addr) (n c : Nat) (l : List UInt8) (b : UInt8) (w : World) (h : Rd w w.heap.size 1 A n (byts l)) (hn : n ≤ 9223372036854775807) (hb : b ∈ l) :
    Calls Tryz.prog 181 #[.slice A n c, byt b] w fun e w' => e = .returned (.int .i64 (l.idxOf b : Nat)) ∧ w = w' := by
  have hl := rd_len8 h
  have hil := List.idxOf_lt_length_of_mem hb
  obtain ⟨bb, o, rfl, _, hc⟩ := rd_u8s h (by omega)
  have HC := Lib.hid hc
  have hi1 : l.idxOf b < n := by omega
  have hl1 : l.length ≤ n := by omega
  have hl2 : n ≤ l.length := by omega
  clear hc hl h
  generalize hx : l.idxOf b = x at *
  have HX := Lib.hid hx
  clear hx
  unfold byt
  go_enter Tryz.func181, Tryz.ntmps181
  go_wp2_with fail
  go_loop [8] (fun i => ∃ k : Nat, k ≤ x ∧ i = .int .i64 k) (fun i => n - (intOf i).toNat)
  case atStart => exact ⟨0, by omega, rfl⟩
  case round =>
    obtain ⟨k, hk, rfl⟩ := hrel
    have hkl : k < l.length := by omega
    have hkn : k < n := by omega
    have d0 : w.cell? ⟨bb, o + k, none⟩ = some (.int .u8 (l[k].toNat : Int)) := HC.out k hkl
    by_cases hlt : k < x
    · have hne : ((b.toNat : Int) == (l[k].toNat : Int)) = false := by
        rw [beq_eq_false_iff_ne]
        intro e
        have e2 : b = l[k] := UInt8.toNat_inj.1 (by omega)
        have := List.not_of_lt_findIdx (p := (· == b)) (xs := l) (i := k) (by rw [← HX.out] at hlt; exact hlt)
        simp [e2] at this
      go_wp2
      go_round
      case rel => exact ⟨k + 1, by omega, by go_num⟩
      case measure => simp [intOf]; omega
    · have hkx : k = x := by omega
      have heq : ((b.toNat : Int) == (l[k].toNat : Int)) = true := by
        have := List.getElem_idxOf (x := b) (xs := l) (by rw [HX.out]; omega)
        simp only [beq_iff_eq]
        congr 2
        rw [← this]
        congr 1
        rw [HX.out, hkx]
      have HK := Lib.hid hkx
      clear hkx
      go_wp2
      go_ret
      exact ⟨ret_int (by rw [HK.out]), rfl⟩

theorem mtf_cells (r : List UInt8) (i : Nat) (hi : i < r.length) :
    (((byts r).take 1 ++ (byts r).take i ++ (byts r).drop (1 + ((byts r).take i).length)).set 0 (byt (r.getD i 0))) = byts (mtf r i) := by
  have hlen : ((byts r).take i).length = i := by simp [byts]; omega
  rw [hlen]
  unfold mtf
  cases r with
  | nil => simp at hi
  | cons b r =>
    simp only [byts, List.map_cons, List.take_succ_cons, List.take_zero, List.cons_append, List.nil_append, List.set_cons_zero, List.map_append, List.map_take, List.map_drop]
    rw [Nat.add_comm 1 i]

theorem byts_none : ∀ (l : List UInt8) (i : Nat) (v : Value), (byts l)[i]? = some v → ∃ h : i < l.length, v = byt l[i] := by
  intro l i v h
  obtain ⟨h1, h2⟩ := List.getElem?_eq_some_iff.1 h
  exact ⟨by simpa [byts] using h1, by rw [← h2]; simp [byts]⟩

set_option maxHeartbeats 1000000 in
theorem at_any (g i : Nat) (r : List UInt8) (w : World) (hr : r.length = 256) (hi : i < 256) (hB : Blk w g 250 (rowC r)) :
    Calls Tryz.prog 146 #[.pointer (some ⟨g, 0, none⟩), .int .i64 i] w fun e w' => e = .returned (byt (r.getD i 0)) ∧ Blk w' g 250 (rowC (mtf r i)) ∧ w.grownBy w' (some g) := by
  have d0 := rowC_cell hB i (by omega)
  have h0 : (0 : Int) ≤ (i : Int) := by omega
  have h1 : (i : Int) < 256 := by omega
  have h2 : (i : Int) ≤ 256 := by omega
  have h3 : (i : Int) + 1 ≤ 256 := by omega
  have h4 : (1 : Int) ≤ (i : Int) + 1 := by omega
  have HR := Lib.hid hr
  generalize hb : byt (r.getD i 0) = b at *
  have HBB := Lib.hid hb
  clear hr hb
  go_enter Tryz.func146, Tryz.ntmps146
  go_wp2_with fail
  have hmin : ((byts r).take i).length = Nat.min i i := by rw [List.length_take, byts_len, HR.out]; simp; omega
  have hsrc : ∀ j v, ((byts r).take i)[j]? = some v → w.drew.cell? ((⟨g, 0, none⟩ : Addr).add j) = some v := by
    intro j v hj
    rw [List.getElem?_take] at hj
    split at hj
    · rw [add_lit, Nat.zero_add]
      obtain ⟨h5, rfl⟩ := byts_none _ _ _ hj
      have := rowC_cell hB j h5
      simpa [List.getD, List.getElem?_eq_getElem h5] using this
    · cases hj
  have hfit : 1 + ((byts r).take i).length ≤ (byts r).length := by rw [List.length_take, byts_len, HR.out]; omega
  have hone : ∀ v ∈ (byts r).take i, v.oneCell' = true := fun v hv => byts_one r v (List.mem_of_mem_take hv)
  have HM := Lib.hid hmin
  have HS := Lib.hid hsrc
  have HF := Lib.hid hfit
  have HO := Lib.hid hone
  clear hmin hsrc hfit hone
  have hw : IntKind.i64.wrap ((i : Int) + 1) = (i : Int) + 1 := IntWalk.i64_in _ (by omega)
  have hw2 : ((i : Int) + 1).toNat = i + 1 := by omega
  refine wp_region_held_drew (S := (fun _ => True)) (by kernel_rfl) ?_ (fun hHeld => ?_)
  · (try dsimp only); all_goals trivial
  refine take_movev (v := ?vu1x0) 0 (Operand.tmp 0) rfl rfl (by first | exact .inl rfl | exact .inr rfl) rfl (by kernel_rfl) (by kernel_rfl) (by kernel_rfl) (fun _ _ _ h => h) (by assumption) ?yu1x0 ?ru1x0
  case yu1x0 => (go_simp; try (with_reducible rfl))
  simp only [List.setIfInBounds_toArray, List.set_cons_zero, List.set_cons_succ]
  refine take_op (v := ?vu1x1) 1 (Op.nilCheck (Operand.tmp 12)) 0 rfl rfl rfl rfl rfl (by kernel_rfl) (by kernel_rfl) (by kernel_rfl) (fun _ _ _ h => h) ?yu1x1 (by assumption) ?ru1x1
  case yu1x1 => (intro w' hSw; (try dsimp only at hSw); go_simp; try (with_reducible rfl))
  simp only [List.setIfInBounds_toArray, List.set_cons_zero, List.set_cons_succ]
  refine take_op (v := ?vu1x2) 2 (Op.fieldAddr 250 (Operand.tmp 13) 0) 0 rfl rfl rfl rfl rfl (by kernel_rfl) (by kernel_rfl) (by kernel_rfl) (fun _ _ _ h => h) ?yu1x2 (by assumption) ?ru1x2
  case yu1x2 => (intro w' hSw; (try dsimp only at hSw); go_simp; try (with_reducible rfl))
  simp only [List.setIfInBounds_toArray, List.set_cons_zero, List.set_cons_succ]
  refine take_movev (v := ?vu1x3) 3 (Operand.tmp 1) rfl rfl (by first | exact .inl rfl | exact .inr rfl) rfl (by kernel_rfl) (by kernel_rfl) (by kernel_rfl) (fun _ _ _ h => h) (by assumption) ?yu1x3 ?ru1x3
  case yu1x3 => (go_simp; try (with_reducible rfl))
  simp only [List.setIfInBounds_toArray, List.set_cons_zero, List.set_cons_succ]
  refine take_op (v := ?vu1x4) 4 (Op.binOp BinOp.add 3 (Operand.tmp 15) (Operand.const (Value.int IntKind.i64 1)) 3) 3 rfl rfl rfl rfl rfl (by kernel_rfl) (by kernel_rfl) (by kernel_rfl) (fun _ _ _ h => h) ?yu1x4 (by assumption) ?ru1x4
  case yu1x4 => (intro w' hSw; (try dsimp only at hSw); go_simp; try (with_reducible rfl))
  simp only [List.setIfInBounds_toArray, List.set_cons_zero, List.set_cons_succ]
  refine take_op (v := ?vu1x5) 5 (Op.slice 248 (Operand.tmp 14) (some (Operand.const (Value.int IntKind.i64 1))) (some (Operand.tmp 16)) none) 99 rfl rfl rfl rfl rfl (by kernel_rfl) (by kernel_rfl) (by kernel_rfl) (fun _ _ _ h => h) ?yu1x5 (by assumption) ?ru1x5
  case yu1x5 => (intro w' hSw; (try dsimp only at hSw); go_simp; try (with_reducible rfl))
  simp only [List.setIfInBounds_toArray, List.set_cons_zero, List.set_cons_succ]
  refine take_movev (v := ?vu1x6) 6 (Operand.tmp 0) rfl rfl (by first | exact .inl rfl | exact .inr rfl) rfl (by kernel_rfl) (by kernel_rfl) (by kernel_rfl) (fun _ _ _ h => h) (by assumption) ?yu1x6 ?ru1x6
  case yu1x6 => (go_simp; try (with_reducible rfl))
  simp only [List.setIfInBounds_toArray, List.set_cons_zero, List.set_cons_succ]
  refine take_op (v := ?vu1x7) 7 (Op.nilCheck (Operand.tmp 18)) 0 rfl rfl rfl rfl rfl (by kernel_rfl) (by kernel_rfl) (by kernel_rfl) (fun _ _ _ h => h) ?yu1x7 (by assumption) ?ru1x7
  case yu1x7 => (intro w' hSw; (try dsimp only at hSw); go_simp; try (with_reducible rfl))
  simp only [List.setIfInBounds_toArray, List.set_cons_zero, List.set_cons_succ]
  refine take_op (v := ?vu1x8) 8 (Op.fieldAddr 250 (Operand.tmp 19) 0) 0 rfl rfl rfl rfl rfl (by kernel_rfl) (by kernel_rfl) (by kernel_rfl) (fun _ _ _ h => h) ?yu1x8 (by assumption) ?ru1x8
  case yu1x8 => (intro w' hSw; (try dsimp only at hSw); go_simp; try (with_reducible rfl))
  simp only [List.setIfInBounds_toArray, List.set_cons_zero, List.set_cons_succ]
  refine take_movev (v := ?vu1x9) 9 (Operand.tmp 1) rfl rfl (by first | exact .inl rfl | exact .inr rfl) rfl (by kernel_rfl) (by kernel_rfl) (by kernel_rfl) (fun _ _ _ h => h) (by assumption) ?yu1x9 ?ru1x9
  case yu1x9 => (go_simp; try (with_reducible rfl))
  simp only [List.setIfInBounds_toArray, List.set_cons_zero, List.set_cons_succ]
  refine take_op (v := ?vu1x10) 10 (Op.slice 248 (Operand.tmp 20) none (some (Operand.tmp 21)) none) 99 rfl rfl rfl rfl rfl (by kernel_rfl) (by kernel_rfl) (by kernel_rfl) (fun _ _ _ h => h) ?yu1x10 (by assumption) ?ru1x10
  case yu1x10 => (intro w' hSw; (try dsimp only at hSw); go_simp; try (with_reducible rfl))
  simp only [List.setIfInBounds_toArray, List.set_cons_zero, List.set_cons_succ]
  refine' take_run 11 (Op.call { callee := Callee.builtin Builtin.copy, args := #[Operand.tmp 17, Operand.tmp 22], argTypes := #[99, 99] }) 3 (by kernel_rfl) rfl rfl rfl rfl rfl (run_copy_op w.drew (cur := byts r) (cs := (byts r).take i) rfl rfl Tryz.underlying99 (by kernel_rfl) hB.drew HM.out HS.out HF.out HO.out) ?su1x11 (fun hHeld => ?ru1x11)
  case su1x11 => ((try dsimp only); all_goals trivial)
  simp only [List.setIfInBounds_toArray, List.set_cons_zero, List.set_cons_succ]
  refine wpAnyH_done (by kernel_rfl) ?_ _
  clear hw hw2
  have hX := (hB.drew.setRow ((byts r).take 1 ++ (byts r).take i ++ (byts r).drop (1 + ((byts r).take i).length)).toArray)
  have hgX := grown_setRow w.drew g ((byts r).take 1 ++ (byts r).take i ++ (byts r).drop (1 + ((byts r).take i).length)).toArray
  generalize World.setRow w.drew g ((byts r).take 1 ++ (byts r).take i ++ (byts r).drop (1 + ((byts r).take i).length)).toArray = X at *
  have hx0 : ∃ v, X.cell? ⟨g, 0, none⟩ = some v := by
    rw [hX.cell]
    have : 0 < ((byts r).take 1 ++ (byts r).take i ++ (byts r).drop (1 + ((byts r).take i).length)).length := by
      have := HR.out
      simp [byts]; omega
    exact ⟨_, by rw [List.getElem?_toArray, List.getElem?_eq_getElem this]⟩
  obtain ⟨v0, hv0⟩ := hx0
  have f0 := hX.frozen 0
  have hbv : ∃ n : Int, b = .int .u8 n := ⟨_, HBB.out.symm⟩
  obtain ⟨nb, rfl⟩ := hbv
  go_wp2
  go_ret
  refine ⟨rfl, blk_eq (hX.set 0 _) ?_, ?_⟩
  · have := mtf_cells r i (by rw [HR.out]; exact hi)
    rw [HBB.out] at this
    simp only [rowC, ← this]
    simp
  · exact ⟨hgX.os, hgX.tape, hgX.output, by simpa [World.setCell] using hgX.size, fun k hk hne => (Below.heap_setCell _ _ _ k (fun e => hne (by rw [e]))).trans (hgX.block k hk hne)⟩
end FrontW
end Go.Proofs.YtnpncpoiiikafaaGreat
