/- The walks of package slices at records: the first that is no hit. The walks of package slices at records: a copy; what is a hit is kept. The walks of package skip: the hits. -/
import Derived.Test.YtnpncpoiiikafaaGreatSkpHQb
import Derived.Test.YtnpncpoiiikafaaGreatLenWQb
import Derived.Laws.EntriesVeiled
import Derived.Test.YtnpncpoiiikafaaGreatBldQb
namespace Go.Proofs.YtnpncpoiiikafaaGreat
set_option linter.unusedVariables false
set_option linter.unusedSimpArgs false
set_option linter.unnecessarySimpa false
open Go.RowKit
namespace SkpW

abbrev filtF (g : Nat) : Value := .func (.func 71) #[] #[.pointer (some ⟨g, 0, none⟩)]
set_option maxRecDepth 100000 in
set_option maxHeartbeats 2000000 in
theorem filt1_any (a : Qy × SpanW.R) (r : Rc) (g : Nat) (b : Bool) (hb : hitA a r = b) (w : World) (hp : w.cell? ⟨g, 0, none⟩ = some (hitF a)) (hg : g < w.heap.size) (hf : a.1.find.length ≤ 100000) (hd : r.2.2.length ≤ 100000) :
    Calls Tryz.prog 71 #[recv r, .pointer (some ⟨g, 0, none⟩)] w fun e w' => e = .returned (.bool (!b)) ∧ Below w.heap.size w w' := by
  have C := fun w => hit_any a r b hb w hf hd
  obtain ⟨sq, tk, dt⟩ := r
  have b1 := Blk.new w 98 #[.int .i64 sq, .int .i64 tk, str dt]
  have HB : Below w.heap.size w (w.alloc (.cells #[.int .i64 sq, .int .i64 tk, str dt] 98)) := (Below.refl _ w).alloc (Nat.le_refl _) _
  have p1 := (HB.cell (p := ⟨g, 0, none⟩) hg).trans hp
  obtain ⟨k0, k1, k2, _, _, _, _⟩ := blk3 b1
  clear b1 hb
  go_enter Tryz.func71, Tryz.ntmps71
  go_wp2_with fail
  refine (C _).mono ?_
  clear C
  rintro e w1 ⟨rfl, hb1⟩
  replace HB := HB.trans (hb1.mono HB.size)
  go_wp2_with fail
  go_ret
  exact ⟨rfl, HB⟩
/-- How many hits stand ahead of the first that is none. -/
def firstNo (a : Qy × SpanW.R) : List Rc → Nat
  | [] => 0
  | r :: l => if hitA a r then 1 + firstNo a l else 0
theorem firstNo_le (a : Qy × SpanW.R) (l : List Rc) : firstNo a l ≤ l.length := by
  induction l with
  | nil => simp [firstNo]
  | cons r l ih => unfold firstNo; split <;> simp <;> omega
theorem firstNo_yes (a : Qy × SpanW.R) (l : List Rc) (i : Nat) (h : i < firstNo a l) (h' : i < l.length) : hitA a l[i] = true := by
  induction l generalizing i with
  | nil => simp at h'
  | cons r l ih =>
    unfold firstNo at h
    split at h
    · rename_i hr
      cases i with
      | zero => simpa using hr
      | succ i => exact ih i (by omega) (by simpa using h')
    · omega
theorem firstNo_no (a : Qy × SpanW.R) (l : List Rc) (h : firstNo a l < l.length) : hitA a l[firstNo a l] = false := by
  induction l with
  | nil => simp at h
  | cons r l ih =>
    by_cases hr : hitA a r = true
    · have e : firstNo a (r :: l) = firstNo a l + 1 := by simp [firstNo, hr]; omega
      simp only [e, List.getElem_cons_succ]
      exact ih (by rw [e] at h; simpa using h)
    · have e : firstNo a (r :: l) = 0 := by simp [firstNo, hr]
      simp only [e, List.getElem_cons_zero]
      simpa using hr
theorem firstNo_at (a : Qy × SpanW.R) (l : List Rc) (k : Nat) (hk : k < l.length) (h1 : ∀ i (h : i < k), hitA a (l[i]'(by omega)) = true) (h2 : hitA a l[k] = false) : firstNo a l = k := by
  rcases Nat.lt_trichotomy (firstNo a l) k with h | h | h
  · have e1 := firstNo_no a l (by omega)
    rw [h1 _ h] at e1
    cases e1
  · exact h
  · have e1 := firstNo_yes a l k h hk
    rw [h2] at e1
    cases e1
theorem firstNo_all (a : Qy × SpanW.R) (l : List Rc) (h1 : ∀ i (h : i < l.length), hitA a l[i] = true) : firstNo a l = l.length := by
  rcases Nat.lt_or_ge (firstNo a l) l.length with h | h
  · have e1 := firstNo_no a l h
    rw [h1 _ h] at e1
    cases e1
  · have := firstNo_le a l
    omega
def idxI (a : Qy × SpanW.R) (l : List Rc) : Int := if firstNo a l = l.length then -1 else firstNo a l

set_option maxRecDepth 100000 in
set_option maxHeartbeats 4000000 in
theorem index_any (A : Option Addr) (n c g : Nat) (l : List Rc) (a : Qy × SpanW.R) (w : World) (h : Rd w w.heap.size 3 A n (rcells l)) (hn : n ≤ 1000000) (hp : w.cell? ⟨g, 0, none⟩ = some (hitF a)) (hg : g < w.heap.size)
    (hf : a.1.find.length ≤ 100000) (hd : ∀ r ∈ l, r.2.2.length ≤ 100000) :
    Calls Tryz.prog 124 #[.slice A n c, filtF g] w fun e w' => e = .returned (.int .i64 (idxI a l)) ∧ Below w.heap.size w w' := by
  have hl := rd_rlen h
  have hl1 : l.length ≤ n := by omega
  have hl2 : n ≤ l.length := by omega
  have HD := Lib.hid hd
  clear hl hd
  go_enter Tryz.func124, Tryz.ntmps124
  go_wp2_with fail
  go_loopw [8] (fun i wr => ∃ k : Nat, i = .int .i64 k ∧ k ≤ n ∧ (∀ i (hi : i < k) (hj : i < l.length), hitA a l[i] = true) ∧ Below w.heap.size w wr) (fun i _ => n - (intOf i).toNat)
  case atStart => exact ⟨0, rfl, by omega, fun i hi => absurd hi (by omega), Below.refl _ _⟩
  case round =>
    obtain ⟨k, rfl, hk, hy, hbw⟩ := hrel
    have HY := Lib.hid hy
    have hsz := hbw.size
    clear hy
    by_cases hlt : k < n
    · have hkl : k < l.length := by omega
      obtain ⟨b, o, rfl, hb, hc⟩ := rd_recs (h.below hbw) (by omega)
      obtain ⟨d0, d1, d2⟩ := hc k hkl
      have p1 := (hbw.cell (p := ⟨g, 0, none⟩) hg).trans hp
      obtain ⟨v, hv⟩ : ∃ v, hitA a l[k] = v := ⟨_, rfl⟩
      have C := fun w hp hg => filt1_any a l[k] g v hv w hp hg hf (HD.out _ (List.getElem_mem hkl))
      have HC := Lib.hid C
      have HV := Lib.hid hv
      clear hc C hv
      generalize hr : l[k] = r at *
      have HR := Lib.hid hr
      clear hr
      obtain ⟨ra, rb, rd⟩ := r
      dsimp only at d0 d1 d2
      have hki : (k : Int) < (n : Int) := by omega
      have hk0 : (0 : Int) ≤ (k : Int) := by omega
      go_wp2_with fail
      refine (HC.out _ p1 (by omega)).mono ?_
      rintro e w2 ⟨rfl, hb2⟩
      have hbw2 := hbw.trans (hb2.mono hsz)
      clear hb2 d0 d1 d2 p1
      cases v with
      | true =>
        go_wp2_with fail
        go_roundw
        case rel =>
          refine ⟨k + 1, by go_num, by omega, fun i hi hj => ?_, hbw2⟩
          by_cases hik : i = k
          · subst hik; rw [HR.out]; exact HV.out
          · exact HY.out i (by omega) hj
        case measure => simp [intOf]; omega
      | false =>
        go_wp2_with fail
        go_ret
        refine ⟨?_, hbw2⟩
        have e1 := firstNo_at a l k hkl (fun i hi => HY.out i hi (by omega)) (by rw [HR.out]; exact HV.out)
        unfold idxI
        rw [if_neg (by omega), e1]
        rfl
    · go_wp2_with fail
      go_ret
      refine ⟨?_, hbw⟩
      have e1 := firstNo_all a l (fun i hi => HY.out i (by omega) hi)
      unfold idxI
      rw [if_pos e1]
      rfl
end SkpW
end Go.Proofs.YtnpncpoiiikafaaGreat

namespace Go.Proofs.YtnpncpoiiikafaaGreat
set_option linter.unusedVariables false
set_option linter.unusedSimpArgs false
set_option linter.unnecessarySimpa false
open Go.RowKit
namespace SkpW
open RecW (El_rec')

theorem own_none (w : World) (t size : Nat) : Own (w.alloc (.cells #[] t)) w.heap.size t size (some ⟨w.heap.size, 0, none⟩) 0 0 [] :=
  own_new (W0 := w) (cs := []) (n := 0) rfl (by simp) (Nat.le_refl _) (Nat.zero_le _)
set_option maxRecDepth 100000 in
set_option maxHeartbeats 2000000 in
theorem clone_any (A : Option Addr) (n c : Nat) (l : List Rc) (w : World) (h : Rd w w.heap.size 3 A n (rcells l)) (hn : n ≤ 1000000) :
    Calls Tryz.prog 70 #[.slice A n c] w fun e w' => ∃ A' c', e = .returned (.slice A' n c') ∧ Own w' w.heap.size 98 3 A' n c' (rcells l) ∧ Below w.heap.size w w' := by
  cases A with
  | none =>
    have hn0 : n = 0 := by
      rcases Nat.eq_zero_or_pos n with rfl | h'
      · rfl
      · obtain ⟨_, _, h, _⟩ := h.at_ h'; cases h
    subst hn0
    have hl : l = [] := List.eq_nil_of_length_eq_zero (rd_rlen h)
    subst hl
    have hq : ∀ w, (binOp .eql 29 (.slice none 0 c) (.slice none 0 0)).run Tryz.prog w = .ok (.bool true) w := fun w => Go.Lib.run_eql_slice_nil w _ _ none 0 c 0 0 Tryz.underlying29
    go_enter Tryz.func70, Tryz.ntmps70
    go_wp2_with fail
    go_ret
    exact ⟨_, _, rfl, Own.nil _ _ _ _, Below.refl _ _⟩
  | some x =>
    have hq : ∀ w, (binOp .eql 29 (.slice (some x) n c) (.slice none 0 0)).run Tryz.prog w = .ok (.bool false) w := fun w => Go.Lib.run_eql_slice_nil w _ _ (some x) n c 0 0 Tryz.underlying29
    have hr : Rd (w.alloc (.cells #[] 98)) w.heap.size 3 (some x) n (rcells l) := h.below ((Below.refl _ w).alloc (Nat.le_refl _) _)
    go_enter Tryz.func70, Tryz.ntmps70
    go_wp2_with (at_builtin; with_reducible refine wp_append El_rec' rfl (s := .tmp 5) (x := .tmp 6) rfl rfl (own_none _ _ _) rfl hr (rcells_one _) (by unfold maxLen; omega) (by omega) (by simp) ?_; intro A4 c4 w4 o4 hg4 hat4; have q4 := below_grown ((Below.refl _ w).alloc (Nat.le_refl _) _) hg4 (own_none w 98 3) (Nat.le_refl _); simp only [Nat.zero_add, List.nil_append] at o4; clear hg4 hat4)
    go_ret
    refine ⟨A4, c4, ?_, o4, q4⟩
    simp

set_option maxRecDepth 100000 in
set_option maxHeartbeats 4000000 in
theorem delete_any (A : Option Addr) (n c g base : Nat) (l : List Rc) (a : Qy × SpanW.R) (w : World) (h : Own w base 98 3 A n c (rcells l)) (hbase : base ≤ w.heap.size) (hn : n ≤ 1000000) (hp : w.cell? ⟨g, 0, none⟩ = some (hitF a)) (hg : g < w.heap.size)
    (hne : ∀ k, blkOf A = some k → k ≠ g) (hf : a.1.find.length ≤ 100000) (hd : ∀ r ∈ l, r.2.2.length ≤ 100000) :
    Calls Tryz.prog 69 #[.slice A n c, filtF g] w fun e w' => ∃ m, e = .returned (.slice A m c) ∧ Own w' base 98 3 A m c (rcells (l.filter (hitA a))) ∧ w.grownBy w' (blkOf A) := by
  have hl := rd_rlen h.rd
  have hl1 : l.length ≤ n := by omega
  have hl2 : n ≤ l.length := by omega
  have CI := index_any A n c g l a w h.rd hn hp hg hf hd
  have HD := Lib.hid hd
  clear hl hd
  by_cases hall : firstNo a l = l.length
  · have hk : l.filter (hitA a) = l := keepf_all _ l (fun i hi => firstNo_yes a l i (by omega) hi)
    rw [show idxI a l = -1 from by unfold idxI; rw [if_pos hall]] at CI
    rw [hk]
    clear hk
    go_enter Tryz.func69, Tryz.ntmps69
    go_wp2_with fail
    refine CI.mono ?_
    rintro e w1 ⟨rfl, hb1⟩
    go_wp2_with fail
    go_ret
    exact ⟨n, rfl, h.below hb1, grown_below (World.grownBy.refl w _) hb1⟩
  · have hle := firstNo_le a l
    obtain ⟨i0, hi0⟩ : ∃ i, firstNo a l = i := ⟨_, rfl⟩
    have hs0 := Lib.hid (keepf_start (hitA a) l i0 (by omega) (fun i hi => firstNo_yes a l i (by omega) (by omega)) (by have := firstNo_no a l (by omega); simpa [hi0] using this))
    rw [show idxI a l = (i0 : Int) from by unfold idxI; rw [if_neg hall, hi0]] at CI
    have hin : i0 < n := by omega
    clear hall hle hi0
    obtain ⟨b, hA, hbb⟩ : ∃ b, A = some ⟨b, 0, none⟩ ∧ base ≤ b := by
      rcases h.shape with ⟨_, rfl, _⟩ | ⟨b, rfl, hb, _⟩
      · omega
      · exact ⟨b, rfl, hb⟩
    subst hA
    have hbg : b ≠ g := hne b rfl
    have hiI : ((i0 : Int) == -1) = false := by simp <;> omega
    have hcap := h.cap
    have hcapm := h.capm
    unfold maxLen at hcapm
    go_enter Tryz.func69, Tryz.ntmps69
    go_wp2_with fail
    refine CI.mono ?_
    clear CI
    rintro e w1 ⟨rfl, hb1⟩
    have h1 := h.below hb1
    have g1 : w.grownBy w1 (some b) := grown_below (World.grownBy.refl w _) hb1
    go_wp2_with fail
    go_loopw [5, 6] (fun i j wr => ∃ (k m : Nat) (cur : List Rc), i = .int .i64 m ∧ j = .int .i64 k ∧ m < k ∧ k ≤ n ∧ cur.take m = (l.take k).filter (hitA a) ∧ cur.drop k = l.drop k ∧ Own wr base 98 3 (some ⟨b, 0, none⟩) n c (rcells cur) ∧ w.grownBy wr (some b)) (fun _ j _ => n - (intOf j).toNat)
    case atStart => exact ⟨i0 + 1, i0, l, rfl, by go_num, by omega, by omega, hs0.out.symm, rfl, h1, g1⟩
    case round =>
      obtain ⟨k, m, cur, rfl, rfl, hmk, hk, e1, e2, o2, g2⟩ := hrel
      have hcl := rd_rlen o2.rd
      have E1 := Lib.hid e1
      have E2 := Lib.hid e2
      have hz2 := g2.size
      have p2 : wr.cell? ⟨g, 0, none⟩ = some (hitF a) := by
        have := g2.block g hg (by simp; omega)
        unfold World.cell? at hp ⊢
        simp only [this]
        exact hp
      by_cases hlt : k < n
      · have hkl : k < l.length := by omega
        obtain ⟨⟨hkc, heq⟩, hyes, hno⟩ := keepf_step (hitA a) l cur m k (by omega) hkl hmk e1 e2
        obtain ⟨q0, q1, q2⟩ := rcells_get cur k hkc
        rw [heq] at q0 q1 q2
        have d0 := own_cell o2 _ q0
        have d1 := own_cell o2 _ q1
        have d2 := own_cell o2 _ q2
        have HYES := Lib.hid hyes
        have HNO := Lib.hid hno
        obtain ⟨v, hv⟩ : ∃ v, hitA a l[k] = v := ⟨_, rfl⟩
        have HC := Lib.hid (fun w hp hg => filt1_any a l[k] g v hv w hp hg hf (HD.out _ (List.getElem_mem hkl)))
        have HV := Lib.hid hv
        clear q0 q1 q2 hyes hno e1 e2 heq hv
        generalize l[k] = r at *
        obtain ⟨ra, rb, rd⟩ := r
        dsimp only at d0 d1 d2
        have hki : (k : Int) < (n : Int) := by omega
        have hk0 : (0 : Int) ≤ (k : Int) := by omega
        have hmi : (m : Int) < (n : Int) := by omega
        have hm0 : (0 : Int) ≤ (m : Int) := by omega
        have bV := Blk.new wr 98 #[.int .i64 ra, .int .i64 rb, str rd]
        go_wp2_with fail
        refine (HC.out _ (((Below.refl _ wr).alloc (Nat.le_refl _) _).cell (p := ⟨g, 0, none⟩) (Nat.lt_of_lt_of_le hg hz2) |>.trans p2) (by simp; omega)).mono ?_
        rintro e w2 ⟨rfl, hb2⟩
        have hbw2 : Below wr.heap.size wr w2 := ((Below.refl _ wr).alloc (Nat.le_refl _) _).trans (hb2.mono (by simp))
        have o3 := o2.below hbw2
        have g3 := grown_below g2 hbw2
        have b3 := bV.below hb2 (by simp)
        obtain ⟨k0, k1, k2, _, _, _, _⟩ := blk3 b3
        clear hb2 d0 d1 d2 p2 bV
        cases v with
        | false =>
          go_wp2_with fail
          go_roundw
          case rel =>
            obtain ⟨r1, r2⟩ := HNO.out HV.out
            exact ⟨k + 1, m, cur, rfl, by go_num, by omega, by omega, r1, r2, o3, g3⟩
          case measure => simp [intOf]; omega
        | true =>
          have x0 := own_cell o3 (m * 3) (v := (rcells cur)[m * 3]'(by rw [rcells_len]; omega)) (List.getElem?_eq_getElem _)
          have x1 := own_cell o3 (m * 3 + 1) (v := (rcells cur)[m * 3 + 1]'(by rw [rcells_len]; omega)) (List.getElem?_eq_getElem _)
          have x2 := own_cell o3 (m * 3 + 2) (v := (rcells cur)[m * 3 + 2]'(by rw [rcells_len]; omega)) (List.getElem?_eq_getElem _)
          have y0 := own_thaw o3 (m * 3)
          have y1 := own_thaw o3 (m * 3 + 1)
          have y2 := own_thaw o3 (m * 3 + 2)
          generalize (rcells cur)[m * 3]'(by rw [rcells_len]; omega) = v0 at x0
          generalize (rcells cur)[m * 3 + 1]'(by rw [rcells_len]; omega) = v1 at x1
          generalize (rcells cur)[m * 3 + 2]'(by rw [rcells_len]; omega) = v2 at x2
          go_wp2_with fail
          go_roundw
          case rel =>
            obtain ⟨r1, r2⟩ := HYES.out HV.out
            refine ⟨k + 1, m + 1, cur.set m (ra, rb, rd), by go_num, by go_num, by omega, by omega, r1, r2, ?_, ?_⟩
            · rw [rcells_set cur m (by omega)]
              exact ((o3.set _).set _).set _
            · exact grown_set (grown_set (grown_set g3 _) _) _
          case measure => simp [intOf]; omega
      · obtain rfl : k = n := by omega
        have hz : l.take k = l := List.take_of_length_le (by omega)
        rw [hz] at e1
        have o3 := (o2.short (i := m) (by omega))
        rw [rcells_take, e1] at o3
        clear e1 e2 hz
        have hmi : (m : Int) ≤ (k : Int) := by omega
        have hm0 : (0 : Int) ≤ (m : Int) := by omega
        obtain ⟨vs, hclr⟩ := run_clear_recs (P := Tryz.prog) wr 29 98 0 (.agg #[.int .i64 0, .int .i64 0, str []]) Tryz.underlying29 (fun _ => by kernel_rfl) rfl b (m * 3) (k - m) (c - m) (by omega) (fun j hj => by
          have hx : m * 3 + j < (rcells cur).length := by rw [rcells_len]; omega
          rw [own_cell o2 (m * 3 + j) (List.getElem?_eq_getElem hx)]
          rfl) (fun j _ => own_thaw o2 _)
        have hcm : ¬ c = m := by omega
        go_wp2_with fail
        go_ret
        exact ⟨m, rfl, Own.beyonds vs _ _ o3 (Nat.le_refl _), grown_sets vs _ _ g2⟩
end SkpW
end Go.Proofs.YtnpncpoiiikafaaGreat

namespace Go.Proofs.YtnpncpoiiikafaaGreat
set_option linter.unusedVariables false
set_option linter.unusedSimpArgs false
set_option linter.unnecessarySimpa false
open Go.RowKit
namespace SkpW
open RecW (El_rec')

set_option maxRecDepth 100000 in
set_option maxHeartbeats 4000000 in
theorem filter_any (q : Qy) (A : Option Addr) (n c : Nat) (l : List Rc) (w : World) (h : Rd w w.heap.size 3 A n (rcells l)) (hn : n ≤ 1000000) (hf : q.find.length ≤ 100000) (hd : ∀ r ∈ l, r.2.2.length ≤ 100000) :
    Calls Tryz.prog 25 #[qv q, .slice A n c] w fun e w' => ∃ A' m c', e = .returned (.slice A' m c') ∧ Own w' w.heap.size 98 3 A' m c' (rcells (l.filter (hitA (ofQ q)))) ∧ Below w.heap.size w w' := by
  have hmf : ∀ (fn : Fn) (first cap : Array Value) (w : World), (Instr.makeFunc fn first cap).run Tryz.prog w = .ok (.func fn first cap) w := fun _ _ _ _ => rfl
  have hfl := of_find q
  have C := fun w => of_any q w
  generalize ofQ q = a at *
  have hfa : a.1.find.length ≤ 100000 := by omega
  have HD := Lib.hid hd
  clear hfl hd hf
  have HB : Below w.heap.size w (w.alloc (.cells (qc q) 58)) := (Below.refl _ w).alloc (Nat.le_refl _) _
  go_enter Tryz.func25, Tryz.ntmps25
  go_wp2_with fail
  refine (C _).mono ?_
  clear C
  rintro e w1 ⟨rfl, hb1⟩
  replace HB := HB.trans (hb1.mono HB.size)
  clear hb1
  have bF := Blk.new w1 127 #[hitF a]
  have HB2 := HB.alloc HB.size (.cells #[hitF a] 127)
  have hz := HB.size
  go_wp2_with fail
  have rl2 := (h.below HB2).more HB2.size
  refine (clone_any A n c l _ rl2 hn).mono ?_
  rintro e w2 ⟨A2, c2, rfl, o2, hb2⟩
  have hz2 := hb2.size
  have bF2 := bF.below hb2 bF.lt
  have hp2 := bF2.cell_ 0 (v := hitF a) rfl
  have HB3 := HB2.trans (hb2.mono HB2.size)
  have hne : ∀ k, blkOf A2 = some k → k ≠ w1.heap.size := fun k hk e => by
    have := (o2.blk k hk).1
    rw [World.size_alloc] at this
    omega
  clear hb2 bF rl2
  go_wp2_with fail
  refine (delete_any A2 n c2 w1.heap.size _ l a w2 o2 (by simpa using hz2) hn hp2 bF2.lt hne hfa HD.out).mono ?_
  rintro e w3 ⟨m, rfl, o3, g3⟩
  have HB4 := below_grown HB3 g3 o2 (by simp; omega)
  go_wp2_with fail
  go_ret
  exact ⟨A2, m, c2, rfl, o3.base_le (by simp; omega), HB4⟩

end SkpW
end Go.Proofs.YtnpncpoiiikafaaGreat
