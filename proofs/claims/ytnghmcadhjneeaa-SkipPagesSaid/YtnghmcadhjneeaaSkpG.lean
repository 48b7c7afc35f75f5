/- The law of package skip on pages, one behind the other: plain facts, and the walk. -/
import Derived.Test.YtnghmcadhjneeaaSkpC
namespace Go.Proofs.Ytnghmcadhjneeaa
set_option linter.unusedVariables false
set_option linter.unusedSimpArgs false
set_option linter.unnecessarySimpa false
open Go.RowKit
namespace SkpW
open SpanW (R rv)
open RecW (few_any few_len fewB El_rec' sameR_any)

theorem same_own (A1 A2 : Option Addr) (n1 c1 n2 c2 : Nat) (l : List Rc) (w : World) (h1 : Rd w w.heap.size 3 A1 n1 (rcells l)) (h2 : Rd w w.heap.size 3 A2 n2 (rcells l)) (hl : l.length ≤ 1000000) :
    Calls Try.prog 41 #[.slice A1 n1 c1, .slice A2 n2 c2] w fun e w' => e = .returned (.bool true) ∧ Below w.heap.size w w' := by
  have := sameR_any A1 A2 n1 c1 n2 c2 l l w h1 h2 (by have := rd_rlen h1; omega) (by have := rd_rlen h2; omega)
  rwa [decide_eq_true (rfl : l = l)] at this
def Fl (l : List Rc) (q : Qy) : List Rc := l.filter (hitA (ofQ q))
theorem fl_len (l : List Rc) (q : Qy) : (Fl l q).length ≤ l.length := List.length_filter_le _ _
theorem filter_fl (q : Qy) (A : Option Addr) (n c : Nat) (l : List Rc) (w : World) (h : Rd w w.heap.size 3 A n (rcells l)) (hn : n ≤ 1000000) (hf : q.find.length ≤ 100000) (hd : ∀ r ∈ l, r.2.2.length ≤ 100000) :
    Calls Try.prog 42 #[qv q, .slice A n c] w fun e w' => ∃ A' m c', e = .returned (.slice A' m c') ∧ Own w' w.heap.size 26 3 A' m c' (rcells (Fl l q)) ∧ Below w.heap.size w w' := filter_any q A n c l w h hn hf hd
theorem page_fl (q : Qy) (A : Option Addr) (n c : Nat) (l : List Rc) (w : World) (h : Rd w w.heap.size 3 A n (rcells l)) (hn : n ≤ 1000000) (hf : q.find.length ≤ 100000) (hd : ∀ r ∈ l, r.2.2.length ≤ 100000)
    (v : List Rc × Int) (hv : pageV (Fl l q) q.limit = v) :
    Calls Try.prog 35 #[qv q, .slice A n c] w fun e w' => ∃ A' m c', e = .returned (.agg #[.slice A' m c', .int .i64 v.2]) ∧ Rd w' w'.heap.size 3 A' m (rcells v.1) ∧ (∀ k, blkOf A' = some k → w.heap.size ≤ k ∧ k < w'.heap.size) ∧ Below w.heap.size w w' := page_any q A n c l w h hn hf hd v hv
theorem row_pairs {l : List Rc} (h : rowN l = 0) : l.Pairwise (fun a b => a.1 < b.1) := by
  rw [List.pairwise_iff_getElem]
  intro i j hi hj hij
  have h1 := (row_span h i hi).1
  have h2 := (row_span h j hj).1
  omega
theorem drop_of (l : List Rc) (hp : l.Pairwise (fun a b => a.1 < b.1)) (m : Nat) (hm : m < l.length) : l.filter (fun r => decide (l[m].1 ≤ r.1)) = l.drop m := by
  induction l generalizing m with
  | nil => simp at hm
  | cons a l ih =>
    obtain ⟨h1, h2⟩ := List.pairwise_cons.1 hp
    cases m with
    | zero =>
      rw [List.drop_zero, List.filter_eq_self]
      intro r hr
      simp only [List.getElem_cons_zero, decide_eq_true_eq]
      rcases List.mem_cons.1 hr with rfl | hr
      · omega
      · have := h1 r hr; omega
    | succ m =>
      have hm' : m < l.length := by simpa using hm
      have := h1 _ (List.getElem_mem hm')
      simp only [List.getElem_cons_succ, List.drop_succ_cons]
      rw [List.filter_cons_of_neg (by simp; omega)]
      exact ih h2 m hm'
theorem chk_frm (q : Qy) (f : Int) (hc : chkQ q = 0) (h1 : 1 ≤ f) (h2 : f ≤ 1000000000) : chkQ { q with frm := f } = 0 := by
  unfold chkQ at hc ⊢
  split at hc
  · omega
  · rename_i hh
    rw [if_neg (by dsimp only; omega)]
theorem hitR_frm (q : Qy) (f : Int) (r : Rc) (hc : chkQ q = 0) (hc2 : chkQ { q with frm := f } = 0) (hf : q.frm ≤ f) : hitR { q with frm := f } r = (hitR q r && decide (f ≤ r.1)) := by
  unfold hitR
  rw [decide_eq_true hc, decide_eq_true hc2]
  dsimp only
  rw [Bool.eq_iff_iff]
  simp only [Bool.and_eq_true, decide_eq_true_eq]
  constructor
  · rintro ⟨_, h1, h2⟩; exact ⟨⟨trivial, by omega, h2⟩, h1⟩
  · rintro ⟨⟨_, _, h2⟩, h1⟩; exact ⟨trivial, h1, h2⟩
/-- One page on. -/
theorem page_step (q : Qy) (l : List Rc) (hr : rowN l = 0) (hok : ∀ x ∈ l, RcOk x) (hc : chkQ q = 0) (L : Nat) (hlt : L < (Fl l q).length) :
    chkQ { q with frm := (Fl l q)[L].1 } = 0 ∧ 1 ≤ (Fl l q)[L].1 ∧ Fl l { q with frm := (Fl l q)[L].1 } = (Fl l q).drop L := by
  have hmem : (Fl l q)[L] ∈ Fl l q := List.getElem_mem hlt
  obtain ⟨hm, hit⟩ := List.mem_filter.1 hmem
  have hk := (okR_iff _).1 (rowFrom_ok hr _ hm)
  rw [hit_eq q _ (hok _ hm).1] at hit
  have hfr : q.frm ≤ (Fl l q)[L].1 := by
    unfold hitR at hit
    simp only [Bool.and_eq_true, decide_eq_true_eq] at hit
    exact hit.2.1
  have hc2 := chk_frm q (Fl l q)[L].1 hc hk.1 hk.2.1
  refine ⟨hc2, hk.1, ?_⟩
  have hp := (row_pairs hr).filter (hitA (ofQ q))
  have hdo := drop_of (Fl l q) hp L hlt
  rw [← hdo]
  generalize (Fl l q)[L].1 = f at *
  unfold Fl
  rw [List.filter_filter]
  refine List.filter_congr fun r hrm => ?_
  rw [hit_eq _ r (hok r hrm).1, hit_eq q r (hok r hrm).1, hitR_frm q f r hc hc2 hfr, Bool.and_comm]
theorem page_up (q : Qy) (l : List Rc) (hr : rowN l = 0) (L : Nat) (hL : 1 ≤ L) (hlt : L < (Fl l q).length) : ((Fl l q)[0]'(by omega)).1 < (Fl l q)[L].1 := by
  have hp := (row_pairs hr).filter (hitA (ofQ q))
  exact List.pairwise_iff_getElem.1 hp 0 L (Nat.lt_of_le_of_lt (Nat.zero_le _) hlt) hlt (by omega)

set_option maxRecDepth 100000 in
set_option maxHeartbeats 16000000 in
theorem pages_law (q : Qy) (A : Option Addr) (n c : Nat) (l : List Rc) (w : World) (h : Rd w w.heap.size 3 A n (rcells l)) (hok : ∀ x ∈ l, RcOk x) (hn : n ≤ maxLen) (hfd : q.find.length ≤ maxLen) :
    Calls Try.prog 11 #[qv q, .slice A n c] w fun e w' => e = .returned (.bool true) ∧ Below w.heap.size w w' := by
  unfold maxLen at hn hfd
  have CF := Lib.hid (fun v hv w HH => few_any A n c l v hv w HH (by omega) (fun r hr => by have := (hok r hr).2.2; unfold maxLen at this; omega))
  have CR := Lib.hid (fun w HH => RecW.row_any A n c l w HH (by omega))
  have hl := rd_rlen h
  have bQ := Blk.new w 67 (qc q)
  have HB : Below w.heap.size w (w.alloc (.cells (qc q) 67)) := (Below.refl _ w).alloc (Nat.le_refl _) _
  obtain ⟨fw, hfw⟩ : ∃ v, fewB l = v := ⟨_, rfl⟩
  obtain ⟨s1, s2, t1, t2, fd, li, f0⟩ := q
  dsimp only at hfd
  go_enter Try.func11, Try.ntmps11
  go_wp2_with fail
  refine (CF.out fw hfw _ ((h.below HB).more HB.size)).mono ?_
  rintro e w1 ⟨rfl, hb1⟩
  replace bQ := bQ.below hb1 bQ.lt
  replace HB := HB.trans (hb1.mono HB.size)
  clear hb1 CF
  cases fw with
  | false =>
    go_wp2_with fail
    refine (awake_any _).mono ?_
    rintro e w2 ⟨rfl, hb2⟩
    go_wp2_with fail
    go_ret
    exact ⟨rfl, HB.trans (hb2.mono HB.size)⟩
  | true =>
    have hlen := few_len hfw
    have hdat := few_dat hfw
    have bQ' := bQ
    obtain ⟨d0, d1, d2, d3, d4, d5, d6⟩ := blk7 bQ'
    clear bQ' hfw
    by_cases hm : (1000 : Int) < (fd.length : Int)
    · go_wp2_with fail
      refine (awake_any _).mono ?_
      rintro e w2 ⟨rfl, hb2⟩
      go_wp2_with fail
      go_ret
      exact ⟨rfl, HB.trans (hb2.mono HB.size)⟩
    · obtain ⟨ck, hck⟩ : ∃ x, chkQ ⟨s1, s2, t1, t2, fd, li, f0⟩ = x := ⟨_, rfl⟩
      have C0 := Lib.hid (fun w => check_any ⟨s1, s2, t1, t2, fd, li, f0⟩ ck hck w)
      go_wp2_with fail
      refine (C0.out _).mono ?_
      rintro e w2 ⟨rfl, hb2⟩
      replace bQ := bQ.below hb2 bQ.lt
      replace HB := HB.trans (hb2.mono HB.size)
      clear hb2 d0 d1 d2 d3 d4 d5 d6 C0
      by_cases hcz : ck = 0
      · subst hcz
        obtain ⟨rv, hrv⟩ : ∃ x, rowN l = x := ⟨_, rfl⟩
        have CR2 := Lib.hid (fun w HH => hrv ▸ CR.out w HH)
        go_wp2_with fail
        refine (CR2.out _ ((h.below HB).more HB.size)).mono ?_
        rintro e w3 ⟨rfl, hb3⟩
        replace bQ := bQ.below hb3 bQ.lt
        replace HB := HB.trans (hb3.mono HB.size)
        clear hb3 CR CR2
        have bQ' := bQ
        obtain ⟨d0, d1, d2, d3, d4, d5, d6⟩ := blk7 bQ'
        clear bQ'
        by_cases hrz : rv = 0
        · subst hrz
          have hfl : fd.length ≤ 1000 := by omega
          have hli := chk0_pos _ hck
          dsimp only at hli
          obtain ⟨L, rfl⟩ := Int.eq_ofNat_of_zero_le (show 0 ≤ li by omega)
          have hL1 : 1 ≤ L := by omega
          have C1 := (fun w HH => filter_fl ⟨s1, s2, t1, t2, fd, (L : Int), f0⟩ A n c l w HH (by omega) (by dsimp only; omega) hdat)
          have CP := Lib.hid (fun f v hv w HH => page_fl ⟨s1, s2, t1, t2, fd, (L : Int), f⟩ A n c l w HH (by omega) (by dsimp only; omega) hdat v hv)
          have ST := Lib.hid (fun f hc hlt => page_step ⟨s1, s2, t1, t2, fd, (L : Int), f⟩ l hrv hok hc L hlt)
          have UP := Lib.hid (fun f hlt => page_up ⟨s1, s2, t1, t2, fd, (L : Int), f⟩ l hrv L hL1 hlt)
          have hHl : (Fl l ⟨s1, s2, t1, t2, fd, (L : Int), f0⟩).length ≤ n := by
            have := fl_len l ⟨s1, s2, t1, t2, fd, (L : Int), f0⟩
            omega
          obtain ⟨H, hH⟩ : ∃ H, Fl l ⟨s1, s2, t1, t2, fd, (L : Int), f0⟩ = H := ⟨_, rfl⟩
          simp only [hH] at C1
          have C1' := Lib.hid C1
          rw [hH] at hHl
          have HHH := Lib.hid hH
          have HCK := Lib.hid hck
          clear hH hck hrv hdat hok C1
          go_wp2_with fail
          refine (C1'.out _ ((h.below HB).more HB.size)).mono ?_
          rintro e wF ⟨A5, m5, c5, rfl, o5, hb5⟩
          have hob5 : ∀ k, blkOf A5 = some k → w.heap.size < k := fun k hk => by
            have := (o5.blk k hk).1
            have := bQ.lt
            omega
          have bQ := bQ.below hb5 bQ.lt
          have hqw := bQ.lt
          have HB := HB.trans (hb5.mono HB.size)
          have r5 := o5.rd
          have hm5 : H.length = m5 := rd_rlen o5.rd
          clear hb5 o5 C1' d0 d1 d2 d3 d4 d5 d6
          have hbw0 := HB.size
          go_wp2_with fail
          go_loopw [6, 7] (fun hv i wr => ∃ (k : Nat) (A2 : Option Addr) (j c2 : Nat) (f : Int) (rest : List Rc), i = .int .i64 k ∧ hv = .slice A2 j c2 ∧ k ≤ n ∧ chkQ ⟨s1, s2, t1, t2, fd, (L : Int), f⟩ = 0 ∧
            Fl l ⟨s1, s2, t1, t2, fd, (L : Int), f⟩ = rest ∧ rest = H.drop (k * L) ∧ (k = 0 ∨ ∃ h0 : 0 < rest.length, f = rest[0].1) ∧ Own wr wF.heap.size 26 3 A2 j c2 (rcells (H.take (k * L))) ∧
            Blk wr w.heap.size 67 (qc ⟨s1, s2, t1, t2, fd, (L : Int), f⟩) ∧ Rd wr wF.heap.size 3 A5 m5 (rcells H) ∧ Below w.heap.size w wr ∧ wF.heap.size ≤ wr.heap.size) (fun _ i _ => n + 1 - (intOf i).toNat)
          case atStart => exact ⟨0, none, 0, 0, f0, H, rfl, rfl, by omega, HCK.out, HHH.out, by simp, .inl rfl, by simpa [rcells] using Own.nil _ _ _ _, bQ, r5, HB, Nat.le_refl _⟩
          case round =>
            obtain ⟨k, A2, j, c2, f, rest, rfl, rfl, hk, hckf, hF, hrest, hfst, o2, q2, w5, hbw, hzF⟩ := hrel
            clear bQ HB r5
            have hsz := hbw.size
            have hkI : (k : Int) ≤ (n : Int) := by omega
            have q2' := q2
            obtain ⟨d0, d1, d2, d3, d4, d5, d6⟩ := blk7 q2'
            clear q2'
            have hql := q2.lt
            have hob2 := o2.blk
            have hjl : (H.take (k * L)).length = j := rd_rlen o2.rd
            have hjl2 : (H.take (k * L)).length ≤ H.length := by rw [List.length_take]; omega
            have hrl : rest.length ≤ H.length := by rw [hrest, List.length_drop]; omega
            obtain ⟨v, hv⟩ : ∃ v, pageV rest (L : Int) = v := ⟨_, rfl⟩
            have CPf := Lib.hid (CP.out f v (by rw [hF]; exact hv))
            by_cases hall : rest.length ≤ L
            · rw [pageV_all rest _ (by omega)] at hv
              subst hv
              have happ : H.take (k * L) ++ rest = H := by rw [hrest, List.take_append_drop]
              have HAPP := Lib.hid happ
              clear hfst hckf hF happ ST UP hrest
              go_wp2_with fail
              refine (CPf.out _ ((h.below hbw).more hbw.size)).mono ?_
              rintro e w3 ⟨A3, m3, c3, rfl, r3, f3, hb3⟩
              have hm3 : rest.length = m3 := rd_rlen r3
              have HB3 := hbw.trans (hb3.mono hbw.size)
              have o3 := (o2.below hb3).alloc (.cells #[.slice A3 m3 c3, .int .i64 0] 70)
              have q3 := (q2.below hb3 q2.lt).alloc (.cells #[.slice A3 m3 c3, .int .i64 0] 70)
              have w53 := (w5.below (hb3.mono hzF)).below ((Below.refl wF.heap.size w3).alloc (by have := hb3.size; omega) (.cells #[.slice A3 m3 c3, .int .i64 0] 70))
              have bP := Blk.new w3 70 #[.slice A3 m3 c3, .int .i64 0]
              have HB4 := HB3.alloc HB3.size (.cells #[.slice A3 m3 c3, .int .i64 0] 70)
              have rp := r3.below ((Below.refl w3.heap.size w3).alloc (Nat.le_refl _) (.cells #[.slice A3 m3 c3, .int .i64 0] 70))
              have hz3 := hb3.size
              clear d0 d1 d2 d3 d4 d5 d6 hb3 r3 f3 o2 q2 w5
              have q3' := q3
              obtain ⟨d0, d1, d2, d3, d4, d5, d6⟩ := blk7 q3'
              have bP' := bP
              obtain ⟨p0, p1, _, _, _⟩ := blk2 bP'
              clear q3' bP'
              have hm3I : ¬ (L : Int) < (m3 : Int) := by omega
              go_wp2_with (at_builtin; with_reducible refine wp_append El_rec' rfl (s := .tmp 60) (x := .tmp 62) rfl rfl o3 rfl rp (rcells_one _) (by unfold maxLen; omega) (by omega) (by simp only [World.size_alloc]; omega) ?_; intro A4 c4 w4 o4 hg4 hat4; have hb4 := below_grown HB4 hg4 o3 (by omega); have w54 := w53.grownOwn hg4 o3 (Nat.le_refl _) (by simp only [World.size_alloc]; omega); have bP4 := bP.grown hg4 (fun e => by have := (hob2 _ e.symm).2; omega); have q4 := q3.grown hg4 (fun e => by have := (hob2 _ e.symm).1; omega); rw [← rcells_append, HAPP.out] at o4; obtain ⟨x0, x1, _, _, _⟩ := blk2 bP4; have q4' := q4; obtain ⟨y0, y1, y2, y3, y4, y5, y6⟩ := blk7 q4'; have yf := q4.frozen 6; have hz4 := hg4.size; simp only [World.size_alloc] at hz4; clear q4' d0 d1 d2 d3 d4 d5 d6 p0 p1 hg4 hat4)
              refine (same_own A4 A5 _ c4 m5 c5 H w4 o4.rd (w54.more (by omega)) (by omega)).mono ?_
              rintro e w6 ⟨rfl, hb6⟩
              have HB6 := hb4.trans (hb6.mono hb4.size)
              go_wp2_with fail
              refine (awake_any _).mono ?_
              rintro e w7 ⟨rfl, hb7⟩
              go_wp2_with fail
              go_ret
              exact ⟨rfl, HB6.trans (hb7.mono HB6.size)⟩
            · have hlt : L < rest.length := by omega
              rw [pageV_cut rest L hlt] at hv
              have hst := ST.out f hckf (by rw [hF]; exact hlt)
              have hup := UP.out f (by rw [hF]; exact hlt)
              simp only [hF] at hst hup
              obtain ⟨nx, hnx⟩ : ∃ x, rest[L].1 = x := ⟨_, rfl⟩
              rw [hnx] at hst hup hv
              subst hv
              obtain ⟨g1, g2, g3⟩ := hst
              have e1 : (k + 1) * L = k * L + L := Nat.succ_mul k L
              have hdr : rest.drop L = H.drop ((k + 1) * L) := by rw [hrest, List.drop_drop, e1]
              have happ : H.take (k * L) ++ rest.take L = H.take ((k + 1) * L) := by rw [hrest, e1, List.take_add]
              have hkn : k + 1 ≤ n := by
                have h1 : rest.length = H.length - k * L := by rw [hrest, List.length_drop]
                have h2 : k + 1 ≤ (k + 1) * L := Nat.le_mul_of_pos_right _ hL1
                omega
              have hlt1 : k = 0 ∨ f < nx := by
                rcases hfst with h | ⟨h0, h1⟩
                · exact .inl h
                · exact .inr (by omega)
              have hd0 : 0 < (rest.drop L).length := by rw [List.length_drop]; omega
              have hd1 : nx = (rest.drop L)[0].1 := by rw [List.getElem_drop]; simpa using hnx.symm
              have hnz : (nx != 0) = true := by simp; omega
              have hnze : (nx == 0) = false := by simp; omega
              have hnzd : decide (nx = 0) = false := by simp; omega
              have HAPP := Lib.hid happ
              have HNEW := Lib.hid (show Fl l ⟨s1, s2, t1, t2, fd, (L : Int), nx⟩ = rest.drop L ∧ rest.drop L = H.drop ((k + 1) * L) ∧ ∃ h0 : 0 < (rest.drop L).length, nx = (rest.drop L)[0].1 from ⟨g3, hdr, hd0, hd1⟩)
              have HCK2 := Lib.hid g1
              have htl : (rest.take L).length = L := by rw [List.length_take]; omega
              clear hfst hckf hF happ ST UP hrest hup g1 g3 hdr hd0 hd1 hnx
              go_wp2_with fail
              refine (CPf.out _ ((h.below hbw).more hbw.size)).mono ?_
              rintro e w3 ⟨A3, m3, c3, rfl, r3, f3, hb3⟩
              have hm3 : m3 = L := (rd_rlen r3).symm.trans htl
              subst hm3
              have HB3 := hbw.trans (hb3.mono hbw.size)
              have o3 := (o2.below hb3).alloc (.cells #[.slice A3 m3 c3, .int .i64 nx] 70)
              have q3 := (q2.below hb3 q2.lt).alloc (.cells #[.slice A3 m3 c3, .int .i64 nx] 70)
              have w53 := (w5.below (hb3.mono hzF)).below ((Below.refl wF.heap.size w3).alloc (by have := hb3.size; omega) (.cells #[.slice A3 m3 c3, .int .i64 nx] 70))
              have bP := Blk.new w3 70 #[.slice A3 m3 c3, .int .i64 nx]
              have HB4 := HB3.alloc HB3.size (.cells #[.slice A3 m3 c3, .int .i64 nx] 70)
              have rp := r3.below ((Below.refl w3.heap.size w3).alloc (Nat.le_refl _) (.cells #[.slice A3 m3 c3, .int .i64 nx] 70))
              have hz3 := hb3.size
              clear d0 d1 d2 d3 d4 d5 d6 hb3 r3 f3 o2 q2 w5
              have q3' := q3
              obtain ⟨d0, d1, d2, d3, d4, d5, d6⟩ := blk7 q3'
              have bP' := bP
              obtain ⟨p0, p1, _, _, _⟩ := blk2 bP'
              clear q3' bP'
              go_wp2_with (at_builtin; with_reducible refine wp_append El_rec' rfl (s := .tmp 60) (x := .tmp 62) rfl rfl o3 rfl rp (rcells_one _) (by unfold maxLen; omega) (by omega) (by simp only [World.size_alloc]; omega) ?_; intro A4 c4 w4 o4 hg4 hat4; have hb4 := below_grown HB4 hg4 o3 (by omega); have w54 := w53.grownOwn hg4 o3 (Nat.le_refl _) (by simp only [World.size_alloc]; omega); have bP4 := bP.grown hg4 (fun e => by have := (hob2 _ e.symm).2; omega); have q4 := q3.grown hg4 (fun e => by have := (hob2 _ e.symm).1; omega); rw [← rcells_append, HAPP.out] at o4; obtain ⟨x0, x1, _, _, _⟩ := blk2 bP4; have q4' := q4; obtain ⟨y0, y1, y2, y3, y4, y5, y6⟩ := blk7 q4'; have yf := q4.frozen 6; have hz4 := hg4.size; simp only [World.size_alloc] at hz4; clear q4' d0 d1 d2 d3 d4 d5 d6 p0 p1 hg4 hat4)
              all_goals
                have oN := o4.far (p := ⟨w.heap.size, 6, none⟩) (fun e => by have := (o4.blk _ e).1; dsimp only at this; omega) (.int .i64 nx)
                have qN : Blk (w4.setCell ⟨w.heap.size, 6, none⟩ (.int .i64 nx)) w.heap.size 67 (qc ⟨s1, s2, t1, t2, fd, (m3 : Int), nx⟩) := blk_eq (q4.set 6 _) (by simp)
                have wN := w54.apart (p := ⟨w.heap.size, 6, none⟩) (fun k hk => by have := hob5 k hk; dsimp only; omega) (.int .i64 nx)
                have hN := hb4.setCell (p := ⟨w.heap.size, 6, none⟩) (Nat.le_refl _) (.int .i64 nx)
                have E1 := HNEW.out.1
                have E2 := HNEW.out.2.1
                have E3 := HNEW.out.2.2
                first
                  | (go_roundw
                     case rel => exact ⟨k + 1, A4, j + m3, c4, nx, rest.drop m3, by go_num, rfl, hkn, HCK2.out, E1, E2, .inr E3, oN, qN, wN, hN, by simp only [World.size_setCell]; omega⟩
                     case measure => simp [intOf]; omega)
                  | (exfalso; omega)
                  | (trace_state; fail)
        · have hrzI : (rv != 0) = true := by simp [hrz]
          go_wp2_with fail
          refine (awake_any _).mono ?_
          rintro e w4 ⟨rfl, hb4⟩
          go_wp2_with fail
          go_ret
          exact ⟨rfl, HB.trans (hb4.mono HB.size)⟩
      · have hcI : (ck != 0) = true := by simp [hcz]
        have bQ' := bQ
        obtain ⟨d0, d1, d2, d3, d4, d5, d6⟩ := blk7 bQ'
        clear bQ'
        go_wp2_with fail
        refine (awake_any _).mono ?_
        rintro e w4 ⟨rfl, hb4⟩
        go_wp2_with fail
        go_ret
        exact ⟨rfl, HB.trans (hb4.mono HB.size)⟩
end SkpW
end Go.Proofs.Ytnghmcadhjneeaa
