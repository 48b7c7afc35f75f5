/- Walks over package buff and its reference: the parts of a row of records. -/
import Derived.Test.YtehlgpfkpagaeaaBufW
import Derived.Test.YtehlgpfkpagaeaaParts
namespace Go.Proofs.Ytehlgpfkpagaeaa
set_option linter.unusedVariables false
set_option linter.unusedSimpArgs false
set_option linter.unnecessarySimpa false
open Go.RowKit
namespace RecW

/-- How many records the first part has, s bytes being there already. -/
def cutF (t : Int) : Nat → List Rc → Nat
  | _, [] => 0
  | s, r :: l => if t ≤ ((s + sizeN r : Nat) : Int) then 1 else 1 + cutF t (s + sizeN r) l
def sumN (l : List Rc) : Nat := (l.map sizeN).sum
theorem sumN_snoc (l : List Rc) (k : Nat) (h : k < l.length) : sumN (l.take (k + 1)) = sumN (l.take k) + sizeN l[k] := by
  unfold sumN
  rw [List.take_succ_eq_append_getElem h, List.map_append, List.sum_append]
  simp
theorem sumN_le (l : List Rc) : sumN l ≤ 2027 * l.length := by
  unfold sumN
  induction l with
  | nil => simp
  | cons r l ih =>
    have := sizeN_le r
    simp only [List.map_cons, List.sum_cons, List.length_cons]
    omega
theorem rawN_sum (l : List Rc) : rawN l = min (sumN l) 1000000 := rfl
theorem cutF_le (t : Int) (s : Nat) (l : List Rc) : cutF t s l ≤ l.length := by
  induction l generalizing s with
  | nil => exact Nat.le_refl _
  | cons r l ih => unfold cutF; have := ih (s + sizeN r); split <;> simp <;> omega
theorem cutF_pos (t : Int) (s : Nat) (l : List Rc) (h : 0 < l.length) : 0 < cutF t s l := by
  cases l with
  | nil => simp at h
  | cons r l => unfold cutF; split <;> omega
theorem cutF_stop (t : Int) (s : Nat) (l : List Rc) (k : Nat) (h : k < l.length) (hc : t ≤ ((s + sizeN l[k] : Nat) : Int)) : cutF t s (l.drop k) = 1 := by
  rw [List.drop_eq_getElem_cons h, cutF, if_pos hc]
theorem cutF_go (t : Int) (s : Nat) (l : List Rc) (k : Nat) (h : k < l.length) (hc : ¬ t ≤ ((s + sizeN l[k] : Nat) : Int)) : cutF t s (l.drop k) = 1 + cutF t (s + sizeN l[k]) (l.drop (k + 1)) := by
  rw [List.drop_eq_getElem_cons h, cutF, if_neg hc]

def chunksF (t : Int) : Nat → List Rc → List (List Rc)
  | 0, _ => []
  | f + 1, l => if l = [] then [] else l.take (cutF t 0 l) :: chunksF t f (l.drop (cutF t 0 l))
def chunksN (t : Int) (l : List Rc) : List (List Rc) := chunksF t l.length l
theorem chunksF_fuel (t : Int) (f g : Nat) (l : List Rc) (hf : l.length ≤ f) (hg : l.length ≤ g) : chunksF t f l = chunksF t g l := by
  induction f generalizing l g with
  | zero =>
    have : l = [] := List.eq_nil_of_length_eq_zero (by omega)
    subst this
    cases g <;> simp [chunksF]
  | succ f ih =>
    cases g with
    | zero =>
      have : l = [] := List.eq_nil_of_length_eq_zero (by omega)
      subst this
      simp [chunksF]
    | succ g =>
      unfold chunksF
      split
      · rfl
      · rename_i hl
        have hp := cutF_pos t 0 l (by cases l with | nil => simp at hl | cons => simp)
        rw [ih g _ (by simp; omega) (by simp; omega)]
theorem chunksN_nil (t : Int) : chunksN t [] = [] := rfl
theorem chunksN_cons (t : Int) (l : List Rc) (h : 0 < l.length) : chunksN t l = l.take (cutF t 0 l) :: chunksN t (l.drop (cutF t 0 l)) := by
  unfold chunksN
  have hp := cutF_pos t 0 l h
  obtain ⟨n, hn⟩ : ∃ n, l.length = n + 1 := ⟨l.length - 1, by omega⟩
  rw [hn, chunksF, if_neg (by intro e; simp [e] at h)]
  rw [chunksF_fuel t n _ (l.drop (cutF t 0 l)) (by simp; omega) (Nat.le_refl _)]

set_option maxHeartbeats 1000000 in
theorem end_any (A : Option Addr) (n c : Nat) (l : List Rc) (t : Int) (p : Addr) (w : World) (h : Rd w w.heap.size 3 A n (rcells l)) (hn : n ≤ 1000000) (hp : w.cell? p = some (.int .i64 t)) (hpb : p.block < w.heap.size) :
    Calls Try.prog 68 #[.slice A n c, .pointer (some p)] w fun e w' => e = .returned (.int .i64 (cutF t 0 l : Nat)) ∧ Below w.heap.size w w' := by
  have hl := rd_rlen h
  have hl1 : l.length ≤ n := by omega
  have hl2 : n ≤ l.length := by omega
  clear hl
  go_enter Try.func68, Try.ntmps68
  go_wp2_with fail
  go_loopw [4, 9] (fun x i wr => ∃ k : Nat, k ≤ n ∧ i = .int .i64 k ∧ x = .int .i64 (sumN (l.take k) : Nat) ∧ cutF t 0 l = k + cutF t (sumN (l.take k)) (l.drop k) ∧ Below w.heap.size w wr) (fun _ i _ => n - (intOf i).toNat)
  case atStart => exact ⟨0, by omega, rfl, rfl, by simp [sumN], (by first | exact Below.refl _ _ | (repeat (first | exact Below.refl _ _ | assumption | refine Below.drew ?_ | refine Below.drewN_ ?_ _ | refine Below.alloc ?_ (by first | exact Nat.le_refl _ | (simp; done) | (simp; omega) | omega) _ | refine Below.setCell ?_ (by first | exact Nat.le_refl _ | (simp; done) | (simp; omega) | omega) _ | (refine Below.trans ?_ (Below.mono (by assumption) (by first | exact Nat.le_refl _ | (simp; done) | (simp; omega) | omega))))))⟩
  case round =>
    obtain ⟨k, hk, rfl, rfl, hcut, hbw⟩ := hrel
    have HC := Lib.hid hcut
    have hsz := hbw.size
    clear hcut
    have hs1 := sumN_le (l.take k)
    rw [List.length_take] at hs1
    by_cases hlt : k < n
    · have hkl : k < l.length := by omega
      obtain ⟨b, o, rfl, hb, hc⟩ := rd_recs (h.below hbw) (by omega)
      obtain ⟨c0, c1, c2⟩ := hc k hkl
      have hs := sizeN_le l[k]
      have HS := Lib.hid (sumN_snoc l k hkl)
      have hpw : wr.cell? p = some (.int .i64 t) := (hbw.cell hpb).trans hp
      clear hc
      go_wp2_with fail
      refine (size_any l[k] _).mono ?_
      rintro e w1 ⟨rfl, hb1⟩
      have HB1 : Below w.heap.size w w1 := (Below.trans (by first | exact Below.refl _ _ | (repeat (first | exact Below.refl _ _ | assumption | refine Below.drew ?_ | refine Below.drewN_ ?_ _ | refine Below.alloc ?_ (by first | exact Nat.le_refl _ | (simp; done) | (simp; omega) | omega) _ | refine Below.setCell ?_ (by first | exact Nat.le_refl _ | (simp; done) | (simp; omega) | omega) _ | (refine Below.trans ?_ (Below.mono (by assumption) (by first | exact Nat.le_refl _ | (simp; done) | (simp; omega) | omega)))))) (Below.mono hb1 (by first | exact Nat.le_refl _ | (simp only [World.size_alloc, World.size_setCell, World.size_drew]; omega) | (simp; done) | (simp; omega) | omega)))
      have hpw1 : w1.cell? p = some (.int .i64 t) := (HB1.cell hpb).trans hp
      by_cases hstop : t ≤ ((sumN (l.take k) + sizeN l[k] : Nat) : Int)
      · have HT := Lib.hid (cutF_stop t (sumN (l.take k)) l k hkl hstop)
        have hst : t ≤ (sumN (l.take k) : Int) + (sizeN l[k] : Int) := by omega
        clear hstop
        go_wp2_with fail
        go_ret
        exact ⟨ret_int (by rw [HC.out, HT.out]; omega), HB1⟩
      · have HT := Lib.hid (cutF_go t (sumN (l.take k)) l k hkl hstop)
        have hst : ¬ t ≤ (sumN (l.take k) : Int) + (sizeN l[k] : Int) := by omega
        clear hstop
        go_wp2_with fail
        go_roundw
        case rel => exact ⟨k + 1, by omega, by go_num, by rw [HS.out]; go_num, by rw [HC.out, HT.out, HS.out]; omega, HB1⟩
        case measure => simp [intOf]; omega
    · have HZ := Lib.hid (show l.drop k = [] from List.drop_of_length_le (by omega))
      go_wp2_with fail
      go_ret
      exact ⟨ret_int (by rw [HC.out, HZ.out]; simp [cutF]; omega), hbw⟩

theorem rcells_drop (l : List Rc) (m : Nat) : rcells (l.drop m) = (rcells l).drop (m * 3) := by
  induction l generalizing m with
  | nil => simp [rcells]
  | cons r l ih =>
    cases m with
    | zero => simp
    | succ m => rw [List.drop_succ_cons, ih m, rcells_cons, Nat.add_mul]; simp
theorem rcells_take (l : List Rc) (m : Nat) : rcells (l.take m) = (rcells l).take (m * 3) := by
  induction l generalizing m with
  | nil => simp [rcells]
  | cons r l ih =>
    cases m with
    | zero => simp [rcells]
    | succ m => rw [List.take_succ_cons, rcells_cons, ih m, rcells_cons, Nat.add_mul]; simp
theorem El_rows : El Try.prog 56 48 1 24 := El.mk' Try.underlying56 (z := .slice none 0 0) (by kernel_rfl) rfl (by decide)
abbrev PartsR := Parts rcells 50 3
/-- What cutting tells. -/
def chunksV (t : Int) (l : List Rc) : List (List Rc) × Int := if t < 1 ∨ 20000 < t then ([], 2) else if rowN l = 0 then (chunksN t l, 0) else ([], rowN l)

set_option maxHeartbeats 2000000 in
theorem chunks_any (A : Option Addr) (n c : Nat) (l : List Rc) (t : Int) (w : World) (h : Rd w w.heap.size 3 A n (rcells l)) (hn : n ≤ 1000000) (hnc : n ≤ c) (hcm : c ≤ 9223372036854775807) :
    Calls Try.prog 44 #[.slice A n c, .int .i64 t] w fun e w' => ∃ A' n' c', e = .returned (.tuple #[.slice A' n' c', .int .i64 (chunksV t l).2]) ∧ n' ≤ c' ∧ c' ≤ maxLen ∧ RdRows rcells 50 3 w' w'.heap.size A' n' (chunksV t l).1 ∧ Below w.heap.size w w' := by
  by_cases ht : t < 1 ∨ 20000 < t
  · have HV := Lib.hid (show chunksV t l = ([], 2) by unfold chunksV; rw [if_pos ht])
    have ht' : t < 1 ∨ (¬ t < 1 ∧ 20000 < t) := by omega
    clear ht
    rcases ht' with ht | ⟨ht, ht2⟩
    all_goals
      go_enter Try.func44, Try.ntmps44
      go_wp2_with fail
      go_ret2
      rw [HV.out]
      exact ⟨none, 0, 0, rfl, Nat.le_refl _, Nat.zero_le _, RdRows.nil _ _ _, (by first | exact Below.refl _ _ | (repeat (first | exact Below.refl _ _ | assumption | refine Below.drew ?_ | refine Below.drewN_ ?_ _ | refine Below.alloc ?_ (by first | exact Nat.le_refl _ | (simp; done) | (simp; omega) | omega) _ | refine Below.setCell ?_ (by first | exact Nat.le_refl _ | (simp; done) | (simp; omega) | omega) _ | (refine Below.trans ?_ (Below.mono (by assumption) (by first | exact Nat.le_refl _ | (simp; done) | (simp; omega) | omega))))))⟩
  · obtain ⟨q, hq⟩ : ∃ q, rowN l = q := ⟨_, rfl⟩
    have HV0 := Lib.hid (show chunksV t l = if q = 0 then (chunksN t l, 0) else ([], q) by unfold chunksV; rw [if_neg ht, hq])
    have ht1 : ¬ t < 1 := by omega
    have ht2 : ¬ 20000 < t := by omega
    have HQ := Lib.hid hq
    clear hq ht
    have hmf : ∀ (fn : Fn) (first cap : Array Value) (w : World), (Instr.makeFunc fn first cap).run Try.prog w = .ok (.func fn first cap) w := fun _ _ _ _ => rfl
    go_enter Try.func44, Try.ntmps44
    go_wp2_with fail
    have g0 : Blk (w.alloc (.cells #[Value.int .i64 t] 3)) w.heap.size 3 #[.int .i64 t] := Blk.new _ _ _
    have HB0 : Below w.heap.size w (w.alloc (.cells #[Value.int .i64 t] 3)) := (by first | exact Below.refl _ _ | (repeat (first | exact Below.refl _ _ | assumption | refine Below.drew ?_ | refine Below.drewN_ ?_ _ | refine Below.alloc ?_ (by first | exact Nat.le_refl _ | (simp; done) | (simp; omega) | omega) _ | refine Below.setCell ?_ (by first | exact Nat.le_refl _ | (simp; done) | (simp; omega) | omega) _ | (refine Below.trans ?_ (Below.mono (by assumption) (by first | exact Nat.le_refl _ | (simp; done) | (simp; omega) | omega))))))
    have hz0 : (w.alloc (.cells #[Value.int .i64 t] 3)).heap.size = w.heap.size + 1 := by simp
    have C1 := row_any A n c l (w.alloc (.cells #[Value.int .i64 t] 3)) ((h.below HB0).more (by omega)) (by omega)
    rw [HQ.out] at C1
    refine C1.mono ?_
    clear C1
    rintro e w1 ⟨rfl, hb1⟩
    have g1 := g0.below hb1 (by omega)
    have HB1 : Below w.heap.size w w1 := HB0.trans (hb1.mono (by omega))
    have hz1 := hb1.size
    rw [hz0] at hz1
    clear g0 HB0 hb1 hz0
    by_cases h0 : q = 0
    · have hq1 : (q != 0) = false := by simp [h0]
      have HV := Lib.hid (show chunksV t l = (chunksN t l, 0) by rw [HV0.out, if_pos h0])
      clear h0
      go_wp2_with fail
      go_loopw [0, 8] (fun s0 out wr => ∃ (k : Nat) (A1 : Option Addr) (n1 c1 : Nat) (done : List (List Rc)) (A2 : Option Addr) (n2 c2 : Nat) (vs : List Value),
          s0 = .slice A1 n1 c1 ∧ out = .slice A2 n2 c2 ∧ n1 + k = n ∧ n1 ≤ c1 ∧ c1 ≤ 9223372036854775807 ∧ Rd wr w.heap.size 3 A1 n1 (rcells (l.drop k)) ∧ done ++ chunksN t (l.drop k) = chunksN t l ∧ n2 ≤ k ∧
          Own wr (w.heap.size + 1) 48 1 A2 n2 c2 vs ∧ PartsR wr (w.heap.size + 1) (blkOf A2) none vs done ∧ Blk wr w.heap.size 3 #[.int .i64 t] ∧ Below w.heap.size w wr ∧ w.heap.size + 1 ≤ wr.heap.size)
        (fun s0 _ _ => match s0 with | .slice _ m _ => m | _ => 0)
      case atStart => exact ⟨0, A, n, c, [], none, 0, 0, [], rfl, rfl, rfl, hnc, hcm, by simpa using h.below HB1, rfl, Nat.le_refl _, Own.nil _ _ _ _, Parts.nil _ _ _ _, g1, HB1, hz1⟩
      case round =>
        obtain ⟨k, A1, n1, c1, done, A2, n2, c2, vs, rfl, rfl, hk, hnc1, hcm1, hr, hdone, hn2, hown, hparts, hg, hbw, hz⟩ := hrel
        have HD := Lib.hid hdone
        have HK := Lib.hid hk
        have hk1 : n1 ≤ 1000000 := by omega
        have hk2 : n2 ≤ 1000000 := by omega
        clear hdone hk
        rcases Nat.eq_zero_or_pos n1 with hn1 | hn1
        · have HZ := Lib.hid (show l.drop k = [] from List.eq_nil_of_length_eq_zero (by rw [rd_rlen hr]; exact hn1))
          have hlen1 : ((0 : Nat) : Int) = (n1 : Int) := by omega
          subst hn1
          go_wp2_with fail
          go_ret2
          rw [HV.out]
          refine ⟨A2, n2, c2, rfl, hown.cap, hown.capm, ?_, hbw⟩
          have := HD.out
          rw [HZ.out, chunksN_nil, List.append_nil] at this
          rw [← this]
          exact RdRows.of hown hparts
        · have hlen : 0 < (l.drop k).length := by rw [rd_rlen hr]; exact hn1
          have HCC := Lib.hid (chunksN_cons t (l.drop k) hlen)
          have hm1 := cutF_pos t 0 (l.drop k) hlen
          have hm2 := cutF_le t 0 (l.drop k)
          rw [rd_rlen hr] at hm2
          obtain ⟨m, hm⟩ : ∃ m, cutF t 0 (l.drop k) = m := ⟨_, rfl⟩
          rw [hm] at hm1 hm2
          have HM := Lib.hid hm
          obtain ⟨d0, f0, z0⟩ := blk1 hg
          clear hlen hm
          go_wp2_with fail
          have C2 := end_any A1 n1 c1 (l.drop k) t ⟨w.heap.size, 0, none⟩ wr (hr.more (by omega)) hk1 d0 z0
          rw [HM.out] at C2
          refine C2.mono ?_
          clear C2
          rintro e w2 ⟨rfl, hb2⟩
          have hbw2 := hbw.trans (hb2.mono hbw.size)
          have hr2 := hr.below (hb2.mono hbw.size)
          have hown2 := hown.below hb2
          have hparts2 := hparts.below hb2
          have hg2 := hg.below hb2 (by omega)
          have hz2 := hb2.size
          clear hb2 hr hown hparts hg d0 f0 z0 hbw
          obtain ⟨ie, _, hie, _, hsz, _⟩ := El_rec.inf
          have hsl := run_slice_head (P := Try.prog) Try.underlying48 hie (by rw [hsz]; exact hr2) c1 m hm2 hnc1
          obtain ⟨A3, hsf, hr3⟩ := run_slice_from (P := Try.prog) Try.underlying48 hie (by rw [hsz]; exact hr2) c1 m hm2 hnc1
          rw [hsz, ← rcells_drop] at hr3
          have hrt := hr2.take m hm2
          rw [← rcells_take] at hrt
          clear hr2
          have hzb : w.heap.size + 1 ≤ w2.heap.size := by omega
          have hzc : w.heap.size ≤ w2.heap.size := by omega
          go_wp2_with (first
            | (at_builtin; with_reducible refine wp_append El_rec rfl (s := .tmp 29) (x := .tmp 33) rfl rfl (own_new (W0 := w2) (t := 50) (base := w.heap.size + 1) (n := 0) (size := 3) (cs := []) rfl rfl hzb (Nat.zero_le _)) rfl (hrt.below (w' := w2.alloc (.cells [].toArray 50)) (Below.alloc (Below.refl _ _) hzc _)) (rcells_one _) (by unfold maxLen; omega) (by omega) (by simp; omega) ?_; intro A4 c4 w4 hown4 hg4 hat4; obtain ⟨hg24, ho24, hp24, hd24⟩ := parts_made hown2 hparts2 hg4 hat4; have hr34 := hr3.grow0 hg24 hzc; have hgb4 := hg2.grow0 hg24; have hb4 := below_grow hbw2 hg24; have hz4 := hg24.size; clear hown2 hparts2 hg4 hat4 hr3 hg2 hbw2 hrt hg24; simp only [Nat.zero_add, List.nil_append] at hown4)
            | (at_builtin; with_reducible refine wp_append El_rows rfl (s := .tmp 28) (x := .tmp 35) rfl rfl (ho24.alloc _) rfl (rd_new (cs := [.slice A4 m c4]) (m := 1) rfl rfl) (by simp [Value.oneCell']) (by unfold maxLen; omega) (by omega) (by simp; omega) ?_; intro A5 c5 w5 hown5 hg5 hat5))
          have hg45 := grown_alloc hg5
          have hp5 := hp24.push hown4 hd24 hg45 (hat5.imp id fun h => ⟨_, h, by simp⟩)
          have hr5 := hr34.grownOwn hg45 ho24 (by omega) (by omega)
          have hgb5 := hgb4.grown hg45 (by intro e; have := ho24.blk _ e.symm; omega)
          have hb5 := below_grown hb4 hg45 ho24 (by omega)
          have hz5 := hg45.size
          go_roundw
          case rel =>
            refine ⟨k + m, A3, n1 - m, c1 - m, done ++ [(l.drop k).take m], A5, n2 + 1, c5, vs ++ [.slice A4 m c4], rfl, rfl, by have := HK.out; omega, by omega, by omega, ?_, ?_, by omega, hown5, hp5, hgb5, hb5, by omega⟩
            · rw [← List.drop_drop]; exact hr5
            · rw [← HD.out, HCC.out, HM.out, List.drop_drop]; simp
          case measure => dsimp only; omega
    · have hq1 : (q != 0) = true := by simp [h0]
      have HV := Lib.hid (show chunksV t l = ([], q) by rw [HV0.out, if_neg h0])
      clear h0
      go_wp2_with fail
      go_ret2
      rw [HV.out]
      exact ⟨none, 0, 0, rfl, Nat.le_refl _, Nat.zero_le _, RdRows.nil _ _ _, HB1⟩

theorem cutF_app (t : Int) (s : Nat) (p l : List Rc) (hp : cutF t s p = p.length) (h : p = [] ∨ ¬ t ≤ ((s + sumN p : Nat) : Int)) : cutF t s (p ++ l) = p.length + cutF t (s + sumN p) l := by
  induction p generalizing s with
  | nil => simp [sumN]
  | cons r p ih =>
    have hs : sumN (r :: p) = sizeN r + sumN p := by simp [sumN]
    rw [hs] at h ⊢
    have hn : ¬ t ≤ ((s + sizeN r : Nat) : Int) := by rcases h with h | h; cases h; omega
    rw [cutF, if_neg hn] at hp
    rw [List.cons_append, cutF, if_neg hn, ih (s + sizeN r) (by simp at hp; omega) (.inr (by rcases h with h | h; cases h; omega)), Nat.add_assoc s]
    simp
    omega
/-- The part that grows has not come to its end. -/
def growsB (t : Int) (p l : List Rc) : Prop := cutF t 0 (p ++ l) = p.length + cutF t (sumN p) l
theorem grows_nil (t : Int) (l : List Rc) : growsB t [] l := by simp [growsB, sumN]
theorem sumN_app (p : List Rc) (r : Rc) : sumN (p ++ [r]) = sumN p + sizeN r := by simp [sumN]
theorem grows_next {t : Int} {p l : List Rc} {k : Nat} (h : growsB t p (l.drop k)) (hk : k < l.length) (hn : ¬ t ≤ (sumN (p ++ [l[k]]) : Int)) : growsB t (p ++ [l[k]]) (l.drop (k + 1)) := by
  unfold growsB at *
  rw [sumN_app] at hn ⊢
  rw [cutF_go t (sumN p) l k hk hn, List.drop_eq_getElem_cons hk] at h
  rw [List.append_assoc, List.singleton_append, h]
  simp
  omega
theorem grows_end {t : Int} {p l : List Rc} {k : Nat} (h : growsB t p (l.drop k)) (hk : k < l.length) (hn : t ≤ (sumN (p ++ [l[k]]) : Int) ∨ k + 1 = l.length) : chunksN t (p ++ l.drop k) = (p ++ [l[k]]) :: chunksN t (l.drop (k + 1)) := by
  have hc : cutF t 0 (p ++ l.drop k) = p.length + 1 := by
    unfold growsB at h
    rw [h]
    congr 1
    by_cases ht : t ≤ ((sumN p + sizeN l[k] : Nat) : Int)
    · exact cutF_stop t _ l k hk ht
    · rw [cutF_go t _ l k hk ht]
      rcases hn with hn | hn
      · rw [sumN_app] at hn; exact absurd hn ht
      · rw [List.drop_of_length_le (by omega)]; rfl
  rw [chunksN_cons t _ (by simp; omega), hc]
  congr 1
  · rw [List.take_append, List.take_of_length_le (by omega), show p.length + 1 - p.length = 1 from by omega, List.drop_eq_getElem_cons hk]
    rfl
  · rw [List.drop_append, List.drop_of_length_le (by omega)]
    simp

set_option maxHeartbeats 2000000 in
theorem refChunks_any (A : Option Addr) (n c : Nat) (l : List Rc) (t : Int) (w : World) (h : Rd w w.heap.size 3 A n (rcells l)) (hn : n ≤ 1000000) :
    Calls Try.prog 45 #[.slice A n c, .int .i64 t] w fun e w' => ∃ A' n' c', e = .returned (.tuple #[.slice A' n' c', .int .i64 (chunksV t l).2]) ∧ n' ≤ c' ∧ c' ≤ maxLen ∧ RdRows rcells 50 3 w' w'.heap.size A' n' (chunksV t l).1 ∧ Below w.heap.size w w' := by
  by_cases ht : t < 1 ∨ 20000 < t
  · have HV := Lib.hid (show chunksV t l = ([], 2) by unfold chunksV; rw [if_pos ht])
    have ht' : t < 1 ∨ (¬ t < 1 ∧ 20000 < t) := by omega
    clear ht
    rcases ht' with ht | ⟨ht, ht2⟩
    all_goals
      go_enter Try.func45, Try.ntmps45
      go_wp2_with fail
      go_ret2
      rw [HV.out]
      exact ⟨none, 0, 0, rfl, Nat.le_refl _, Nat.zero_le _, RdRows.nil _ _ _, (by first | exact Below.refl _ _ | (repeat (first | exact Below.refl _ _ | assumption | refine Below.drew ?_ | refine Below.drewN_ ?_ _ | refine Below.alloc ?_ (by first | exact Nat.le_refl _ | (simp; done) | (simp; omega) | omega) _ | refine Below.setCell ?_ (by first | exact Nat.le_refl _ | (simp; done) | (simp; omega) | omega) _ | (refine Below.trans ?_ (Below.mono (by assumption) (by first | exact Nat.le_refl _ | (simp; done) | (simp; omega) | omega))))))⟩
  · obtain ⟨q, hq⟩ : ∃ q, rowN l = q := ⟨_, rfl⟩
    have HV0 := Lib.hid (show chunksV t l = if q = 0 then (chunksN t l, 0) else ([], q) by unfold chunksV; rw [if_neg ht, hq])
    have ht1 : ¬ t < 1 := by omega
    have ht2 : ¬ 20000 < t := by omega
    have HQ := Lib.hid hq
    have hl := rd_rlen h
    have hl1 : l.length ≤ n := by omega
    have hl2 : n ≤ l.length := by omega
    clear hq ht hl
    go_enter Try.func45, Try.ntmps45
    go_wp2_with fail
    have C1 := refRow_any A n c l w h (by omega)
    rw [HQ.out] at C1
    refine C1.mono ?_
    clear C1
    rintro e w1 ⟨rfl, hb1⟩
    have hz1 := hb1.size
    by_cases h0 : q = 0
    · have hq1 : (q != 0) = false := by simp [h0]
      have HV := Lib.hid (show chunksV t l = (chunksN t l, 0) by rw [HV0.out, if_pos h0])
      clear h0
      go_wp2_with fail
      go_loopw [7, 8, 9] (fun out part i wr => ∃ (k : Nat) (p : List Rc) (done : List (List Rc)) (A2 : Option Addr) (n2 c2 : Nat) (vs : List Value) (Ap : Option Addr) (np cp : Nat),
          i = .int .i64 k ∧ out = .slice A2 n2 c2 ∧ part = .slice Ap np cp ∧ k ≤ n ∧ np ≤ k ∧ n2 ≤ k ∧ done ++ chunksN t (p ++ l.drop k) = chunksN t l ∧ growsB t p (l.drop k) ∧ (k = n → p = []) ∧
          Own wr w.heap.size 48 1 A2 n2 c2 vs ∧ Own wr w.heap.size 50 3 Ap np cp (rcells p) ∧ PartsR wr w.heap.size (blkOf A2) (blkOf Ap) vs done ∧ (∀ k, blkOf Ap = some k → blkOf A2 ≠ some k) ∧ Below w.heap.size w wr)
        (fun _ _ i _ => n - (intOf i).toNat)
      case atStart => exact ⟨0, [], [], none, 0, 0, [], none, 0, 0, rfl, rfl, rfl, by omega, by omega, by omega, by simp, by simpa using grows_nil t l, fun _ => rfl, Own.nil _ _ _ _, Own.nil _ _ _ _, Parts.nil _ _ _ _, (fun k h => by cases h), hb1⟩
      case round =>
        obtain ⟨k, p, done, A2, n2, c2, vs, Ap, np, cp, rfl, rfl, rfl, hk, hnp, hn2, hdone, hgr, hend, hown, hop, hparts, hdd, hbw⟩ := hrel
        have HD := Lib.hid hdone
        have HG := Lib.hid hgr
        have HE := Lib.hid hend
        have hsz := hbw.size
        clear hdone hgr hend
        by_cases hlt : k < n
        · have hkl : k < l.length := by omega
          obtain ⟨b, o, rfl, hb, hc⟩ := rd_recs (h.below hbw) (by omega)
          obtain ⟨d0, d1, d2⟩ := hc k hkl
          clear hc
          go_wp2_with (at_builtin; with_reducible refine wp_append El_rec rfl (s := .tmp 27) (x := .tmp 32) rfl rfl (hop.alloc _) rfl (rd_new (cs := rcells [l[k]]) (m := 1) rfl rfl) (rcells_one _) (by unfold maxLen; omega) (by omega) (by simp; omega) ?_; intro A4 c4 w4 hop4 hg4 hat4; obtain ⟨hg24, ho24, hp24, hd24⟩ := parts_grow hown hparts hop hdd hg4 hat4; have hbw4 := below_grown hbw hg24 hop (Nat.le_refl _); rw [← rcells_append] at hop4; clear hown hparts hg4 hat4 hg24 hdd hop)
          refine (refRaw_any A4 (np + 1) c4 (p ++ [l[k]]) w4 hop4.rd (by omega)).mono ?_
          rintro e w5 ⟨rfl, hb5⟩
          have ho5 := ho24.below hb5
          have hp5 := hp24.below hb5
          have hop5 := hop4.below hb5
          have hbw5 := hbw4.trans (hb5.mono hbw4.size)
          have hz5 := hbw5.size
          have hrs : rawN (p ++ [l[k]]) = min (sumN (p ++ [l[k]])) 1000000 := rfl
          have HRS := Lib.hid hrs
          clear hb5 ho24 hp24 hop4 hbw4 hrs
          by_cases hbig : t ≤ (rawN (p ++ [l[k]]) : Int)
          · have HF : Hid (t ≤ (sumN (p ++ [l[k]]) : Int) ∨ k + 1 = l.length) := Lib.hid (.inl (by have := HRS.out; omega))
            go_wp2_with (at_builtin; with_reducible refine wp_append El_rows rfl (s := .tmp 45) (x := .tmp 47) rfl rfl (ho5.alloc _) rfl (rd_new (cs := [.slice A4 (np + 1) c4]) (m := 1) rfl rfl) (by simp [Value.oneCell']) (by unfold maxLen; omega) (by omega) (by simp; omega) ?_; intro A6 c6 w6 hown6 hg6 hat6)
            have hg56 := grown_alloc hg6
            have hp6 := (hp5.turn (X' := blkOf A2) (Y' := none) (.inl rfl) (.inr (.inr (.inl rfl)))).push hop5 hd24 hg56 (hat6.imp id fun h => ⟨_, h, by simp⟩)
            have hb6 := below_grown hbw5 hg56 ho5 (Nat.le_refl _)
            go_roundw
            case rel =>
              refine ⟨k + 1, [], done ++ [p ++ [l[k]]], A6, n2 + 1, c6, vs ++ [Value.slice A4 (np + 1) c4], none, 0, 0, by go_num, rfl, rfl, by omega, by omega, by omega, ?_, grows_nil t _, fun _ => rfl, hown6, Own.nil _ _ _ _, (by exact hp6), (fun k h => by cases h), hb6⟩
              rw [← HD.out, grows_end HG.out hkl HF.out]
              simp
            case measure => simp [intOf]; omega
          · by_cases hlast : k + 1 = n
            · have HF : Hid (t ≤ (sumN (p ++ [l[k]]) : Int) ∨ k + 1 = l.length) := Lib.hid (.inr (by omega))
              have hlI : ((k : Int) == (n : Int) - 1) = true := by rw [beq_iff_eq]; omega
              clear hlast
              go_wp2_with (at_builtin; with_reducible refine wp_append El_rows rfl (s := .tmp 45) (x := .tmp 47) rfl rfl (ho5.alloc _) rfl (rd_new (cs := [.slice A4 (np + 1) c4]) (m := 1) rfl rfl) (by simp [Value.oneCell']) (by unfold maxLen; omega) (by omega) (by simp; omega) ?_; intro A6 c6 w6 hown6 hg6 hat6)
              have hg56 := grown_alloc hg6
              have hp6 := (hp5.turn (X' := blkOf A2) (Y' := none) (.inl rfl) (.inr (.inr (.inl rfl)))).push hop5 hd24 hg56 (hat6.imp id fun h => ⟨_, h, by simp⟩)
              have hb6 := below_grown hbw5 hg56 ho5 (Nat.le_refl _)
              go_roundw
              case rel =>
                refine ⟨k + 1, [], done ++ [p ++ [l[k]]], A6, n2 + 1, c6, vs ++ [Value.slice A4 (np + 1) c4], none, 0, 0, by go_num, rfl, rfl, by omega, by omega, by omega, ?_, grows_nil t _, fun _ => rfl, hown6, Own.nil _ _ _ _, (by exact hp6), (fun k h => by cases h), hb6⟩
                rw [← HD.out, grows_end HG.out hkl HF.out]
                simp
              case measure => simp [intOf]; omega
            · have HF := Lib.hid (show ¬ t ≤ (sumN (p ++ [l[k]]) : Int) by have := HRS.out; omega)
              have hlI : ((k : Int) == (n : Int) - 1) = false := by rw [beq_eq_false_iff_ne]; omega
              have hkn : k + 1 < n := by omega
              clear hlast
              go_wp2_with fail
              go_roundw
              case rel =>
                refine ⟨k + 1, p ++ [l[k]], done, A2, n2, c2, vs, A4, np + 1, c4, by go_num, rfl, rfl, by omega, by omega, by omega, ?_, grows_next HG.out hkl (by have := HF.out; omega), fun h => by omega, ho5, hop5, hp5, hd24, hbw5⟩
                rw [← HD.out, List.append_assoc, List.singleton_append, ← List.drop_eq_getElem_cons hkl]
              case measure => simp [intOf]; omega
        · have hkn : k = n := by omega
          have HZ := Lib.hid (show l.drop k = [] from List.drop_of_length_le (by omega))
          have HP := Lib.hid (HE.out hkn)
          clear hkn
          go_wp2_with fail
          go_ret2
          rw [HV.out]
          refine ⟨A2, n2, c2, rfl, hown.cap, hown.capm, ?_, hbw⟩
          have := HD.out
          rw [HZ.out, HP.out, List.nil_append, chunksN_nil, List.append_nil] at this
          rw [← this]
          exact RdRows.of hown hparts
    · have hq1 : (q != 0) = true := by simp [h0]
      have HV := Lib.hid (show chunksV t l = ([], q) by rw [HV0.out, if_neg h0])
      clear h0
      go_wp2_with fail
      go_ret2
      rw [HV.out]
      exact ⟨none, 0, 0, rfl, Nat.le_refl _, Nat.zero_le _, RdRows.nil _ _ _, hb1⟩
end RecW
end Go.Proofs.Ytehlgpfkpagaeaa
