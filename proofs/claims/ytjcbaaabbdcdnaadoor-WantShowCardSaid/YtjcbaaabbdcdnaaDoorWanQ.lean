/- The walk of package want: Parse. -/
import Derived.Test.YtjcbaaabbdcdnaaDoorWanO
import Derived.Maps.Own
import Derived.Maps.OwnSet
namespace Go.Proofs.YtjcbaaabbdcdnaaDoor
set_option linter.unusedVariables false
set_option linter.unusedSimpArgs false
set_option linter.unnecessarySimpa false
open Go.RowKit Go.Maps
namespace WanW
open SkpW (Qy qv qc chkQ)

theorem parse_end (n p : Nat) (st : St) : parseL n [] p st = (some st, p) := by cases n <;> rfl
theorem bef_pos (c : UInt8) (l : List UInt8) (h : ¬ c = 32) : 1 ≤ (bef 32 (c :: l)).length := by
  have h2 : (c != 32) = true := by simp; exact h
  rw [bef, List.takeWhile_cons, h2]
  simp
theorem parse_fuel : ∀ (n m : Nat) (l : List UInt8) (p : Nat) (st : St), l.length ≤ n → l.length ≤ m → parseL n l p st = parseL m l p st := by
  intro n
  induction n with
  | zero => intro m l p st h _; obtain rfl := List.length_eq_zero_iff.1 (Nat.le_zero.1 h); rw [parse_end, parse_end]
  | succ n ih =>
    intro m l p st h1 h2
    cases l with
    | nil => rw [parse_end, parse_end]
    | cons c l =>
      cases m with
      | zero => simp at h2
      | succ m =>
        simp only [parseL]
        simp only [List.length_cons] at h1 h2
        by_cases hc : c = 32
        · rw [if_pos hc, if_pos hc]
          exact ih m l _ _ (by omega) (by omega)
        · rw [if_neg hc, if_neg hc]
          have hp := bef_pos c l hc
          cases stepW st (bef 32 (c :: l)) with
          | none => rfl
          | some st' => exact ih m _ _ _ (by rw [List.length_drop, List.length_cons]; omega) (by rw [List.length_drop, List.length_cons]; omega)
section
variable (s : List UInt8) (p : Nat) (st : St)
theorem parse_sp (hp : p < s.length) (hc : s[p] = 32) : parseL s.length (s.drop p) p st = parseL s.length (s.drop (p + 1)) (p + 1) st := by
  obtain ⟨n, hn⟩ : ∃ n, s.length = n + 1 := ⟨s.length - 1, by omega⟩
  rw [List.drop_eq_getElem_cons hp, hn]
  conv => lhs; rw [parseL, if_pos hc]
  exact parse_fuel _ _ _ _ _ (by rw [List.length_drop]; omega) (by rw [List.length_drop]; omega)
theorem parse_yes (hp : p < s.length) (hc : ¬ s[p] = 32) (st' : St) (h : stepW st (bef 32 (s.drop p)) = some st') :
    parseL s.length (s.drop p) p st = parseL s.length (s.drop (p + (bef 32 (s.drop p)).length)) (p + (bef 32 (s.drop p)).length) st' ∧ 1 ≤ (bef 32 (s.drop p)).length ∧ p + (bef 32 (s.drop p)).length ≤ s.length := by
  obtain ⟨n, hn⟩ : ∃ n, s.length = n + 1 := ⟨s.length - 1, by omega⟩
  have hb := bef_pos s[p] (s.drop (p + 1)) hc
  have hl := bef_le 32 (s.drop p)
  have e := List.drop_eq_getElem_cons hp
  rw [List.length_drop] at hl
  refine ⟨?_, ?_, by omega⟩
  · rw [e] at h ⊢
    have e2 : s.drop (p + (bef 32 (s[p] :: s.drop (p + 1))).length) = (s[p] :: s.drop (p + 1)).drop (bef 32 (s[p] :: s.drop (p + 1))).length := by rw [← e, List.drop_drop]
    rw [e2, hn]
    conv => lhs; rw [parseL, if_neg hc, h]
    refine parse_fuel _ _ _ _ _ ?_ ?_ <;> rw [← e2, List.length_drop] <;> omega
  · rw [e]; exact hb
theorem parse_no (hp : p < s.length) (hc : ¬ s[p] = 32) (h : stepW st (bef 32 (s.drop p)) = none) : parseL s.length (s.drop p) p st = (none, p) := by
  obtain ⟨n, hn⟩ : ∃ n, s.length = n + 1 := ⟨s.length - 1, by omega⟩
  rw [List.drop_eq_getElem_cons hp] at h ⊢
  rw [hn, parseL, if_neg hc, h]
end
/-- What the map of the keys that were said holds. -/
def SaidIs (f : Nat → Bool) (D : DataW Unit) : Prop := IsMap D ∧ ∀ k : List UInt8, ¬ keyN k = 0 → D.atKey (.string k) (.lit (.bool false)) = .lit (.bool (f (keyN k)))
theorem keyN_inj (a b : List UInt8) (h : keyN a = keyN b) (h0 : ¬ keyN a = 0) : a = b := by
  rcases keyN_cases a with ⟨e, hk⟩ | ⟨e, hk⟩ | ⟨e, hk⟩ | ⟨e, hk⟩ | ⟨e, hk⟩ | ⟨e, _⟩ <;> rcases keyN_cases b with ⟨e', hk'⟩ | ⟨e', hk'⟩ | ⟨e', hk'⟩ | ⟨e', hk'⟩ | ⟨e', hk'⟩ | ⟨e', _⟩ <;> first | (rw [hk, hk']; done) | omega
theorem SaidIs.put {f : Nat → Bool} {D : DataW Unit} (h : SaidIs f D) (k : List UInt8) (h0 : ¬ keyN k = 0) : SaidIs (said f (keyN k)) (D.put (.string k) (.lit (.bool true))) := by
  refine ⟨h.1.put _ _, fun k' hk' => ?_⟩
  by_cases e : k' = k
  · subst e
    rw [atKey_put_same h.1 (by trivial)]
    simp [said]
  · rw [atKey_put_other (by intro e2; injection e2 with e2; exact e e2), h.2 k' hk']
    have : ¬ keyN k' = keyN k := fun e2 => e (keyN_inj k' k e2 hk')
    simp [said, this]
theorem bool_inv {v : Value} {z : DataW Unit × List MemPlace} (h : plainElem Tryd.prog 4 v = some z) : ∃ x, v = .bool x ∧ z = (.lit (.bool x), []) := by
  unfold plainElem at h
  rw [Tryd.underlying4] at h
  cases v <;> simp at h
  exact ⟨_, rfl, h.symm⟩
theorem zeroE (w : World) : (zeroValue 4).run Tryd.prog w = .ok (.bool false) w := by kernel_rfl
set_option maxRecDepth 100000 in
set_option maxHeartbeats 8000000 in
theorem parse_any (s : List UInt8) (w : World) (h : Wo w) (hs : s.length ≤ 100000) (q : Qy) (at' e' : Int) (hv : parseV s = (q, at', e')) :
    Calls Tryd.prog 8 #[str s] w fun e w' => e = .returned (.tuple #[qv q, .int .i64 at', .int .i64 e']) ∧ Below w.heap.size w w' := by
  obtain ⟨S, hS⟩ : ∃ S : ByteArray, (⟨s.toArray⟩ : ByteArray) = S := ⟨_, rfl⟩
  have HS := Lib.hid hS
  have hsz : S.size = s.length := by rw [← hS]; simp [ByteArray.size]
  by_cases h1 : 1000 < s.length
  · have hI : (1000 : Int) < (s.length : Int) := by omega
    rw [parseV, if_pos h1] at hv
    obtain ⟨rfl, hv2⟩ := Prod.mk.inj hv
    obtain ⟨rfl, rfl⟩ := Prod.mk.inj hv2
    have HB := (Below.refl w.heap.size w).alloc (Nat.le_refl _) (.cells (qc zeroQ) 26)
    have G := Blk.new w 26 (qc zeroQ)
    go_enter Tryd.func8, Tryd.ntmps8
    go_wp2_with fail
    refine bodyPost_ret (results_rowB rfl _ _ w.heap.size (qc zeroQ) _ rfl G Tryd.underlying26 rfl (by kernel_rfl)) rfl ?_
    exact ⟨rfl, HB⟩
  · have hI : ¬ (1000 : Int) < (s.length : Int) := by omega
    have hmm := @run_makeMap Tryd.prog
    have B1 := (Below.refl w.heap.size w).alloc (Nat.le_refl _) (.cells (qc allQ) 26)
    have G1 := Blk.new w 26 (qc allQ)
    obtain ⟨w1, hw1⟩ : ∃ w1, w.alloc (.cells (qc allQ) 26) = w1 := ⟨_, rfl⟩
    have z1 : w1.heap.size = w.heap.size + 1 := by rw [← hw1]; simp
    rw [hw1] at B1 G1
    have B2 := B1.alloc (by omega) (.cells #[.int .i64 0, .int .i64 1000000001] 24)
    have G2 := G1.alloc (.cells #[.int .i64 0, .int .i64 1000000001] 24)
    obtain ⟨w2, hw2⟩ : ∃ w2, w1.alloc (.cells #[.int .i64 0, .int .i64 1000000001] 24) = w2 := ⟨_, rfl⟩
    have z2 : w2.heap.size = w.heap.size + 1 + 1 := by rw [← hw2]; simp [z1]
    rw [hw2] at B2 G2
    have B3 := B2.alloc (by omega) (.map #[] 0)
    have G3 := G2.alloc (.map #[] 0)
    have M3 := World.ownsMap_made (H := Unit) w2 Tryd.prog 9 (plainElem Tryd.prog 4)
    rw [z2] at M3
    obtain ⟨w3, hw3⟩ : ∃ w3, w2.alloc (.map #[] 0) = w3 := ⟨_, rfl⟩
    rw [hw3] at B3 G3 M3
    have hw4 : ((w.alloc (.cells (qc allQ) 26)).alloc (.cells #[.int .i64 0, .int .i64 1000000001] 24)).alloc (.map #[] 0) = w3 := by rw [hw1, hw2, hw3]
    clear hw1 hw2 hw3 z1 z2 G1 G2 B1 B2
    simp only [qc, allQ, str] at hw4
    go_enter Tryd.func8, Tryd.ntmps8
    go_wp2_with fail
    clear hw4 hmm
    have HWO := Lib.hid h
    clear h
    obtain ⟨R, hR⟩ : ∃ R, parseL s.length s 0 (allQ, fun _ => false) = R := ⟨_, rfl⟩
    have HV := Lib.hid (show finV R = (q, at', e') by rw [parseV, if_neg h1, hR] at hv; exact hv)
    have HR0 := Lib.hid (show parseL s.length (s.drop 0) 0 (allQ, fun _ => false) = R by rw [List.drop_zero]; exact hR)
    clear hv hR
    go_loopw [3] (fun o3 wr => ∃ (p : Nat) (st : St) (D : DataW Unit), o3 = .int .i64 (p : Int) ∧ p ≤ s.length ∧ parseL s.length (s.drop p) p st = R ∧ Blk wr w.heap.size 26 (qc st.1) ∧ wr.ownsMap Tryd.prog 9 (plainElem Tryd.prog 4) (w.heap.size + 1 + 1) p D ∧ SaidIs st.2 D ∧ Below w.heap.size w wr) (fun o3 _ => s.length - (intOf o3).toNat)
    case atStart => exact ⟨0, _, _, rfl, by omega, HR0.out, G3, M3, ⟨isMap_empty, fun k _ => rfl⟩, B3⟩
    case round =>
      obtain ⟨p, st, D, rfl, hp, hpar, g1, m1, hsd, HB⟩ := hrel
      clear G3 M3 B3
      have HP := Lib.hid hpar
      have HSD := Lib.hid hsd
      clear hpar hsd
      have hzr := HB.size
      have hWr := HWO.out.below HB
      have hml := m1.lt
      by_cases hlt : p < s.length
      · have hpI : (p : Int) < (s.length : Int) := by omega
        have hp0 : (0 : Int) ≤ (p : Int) := by omega
        have hkS : p < S.size := by rw [hsz]; exact hlt
        obtain ⟨x, hx⟩ : ∃ x, S[p]'hkS = x := ⟨_, rfl⟩
        have hx2 : s[p] = x := by
          rw [← hx]
          subst hS
          rfl
        obtain ⟨m, hm⟩ : ∃ m : Nat, x.toNat = m := ⟨_, rfl⟩
        by_cases q1 : m = 32
        · have q1B : ((m : Int) == 32) = true := by simp [q1]
          have HN := Lib.hid (parse_sp s p st hlt (by rw [hx2]; exact UInt8.toNat_inj.1 (by rw [hm, q1]; rfl)))
          have hadd : IntKind.i64.wrap ((p : Int) + 1) = (p : Int) + 1 := w64k (by omega) (by omega)
          clear q1 hx2
          go_wp2_with fail
          go_roundw
          case rel => exact ⟨p + 1, st, D, by go_num, by omega, by rw [← HN.out]; exact HP.out, g1, m1.mono (by omega), HSD.out, HB⟩
          case measure => simp [intOf]; omega
        · have q1B : ((m : Int) == 32) = false := by simp; omega
          have hnc : ¬ s[p] = 32 := by
            rw [hx2]
            intro e
            rw [e] at hm
            exact q1 hm.symm
          have HY := Lib.hid (parse_yes s p st hlt hnc)
          have HN := Lib.hid (parse_no s p st hlt hnc)
          clear hnc q1 hx2
          have hdl : (s.drop p).length ≤ 100000 := by rw [List.length_drop]; omega
          have e0 : S.extract p s.length = ⟨(s.drop p).toArray⟩ := by rw [← hS, ext_str, List.take_of_length_le (by rw [List.length_drop]; omega)]
          have C1 := fun w h => cut_any (s.drop p) 32 w h hdl
          obtain ⟨tx, htx⟩ : ∃ tx, bef 32 (s.drop p) = tx := ⟨_, rfl⟩
          have htl : tx.length ≤ s.length - p := by rw [← htx, ← List.length_drop]; exact bef_le _ _
          rw [htx] at HY HN C1
          clear htx
          obtain ⟨ta, hta⟩ : ∃ ta, aft 32 (s.drop p) = ta := ⟨_, rfl⟩
          obtain ⟨tb, htb⟩ : ∃ tb, (s.drop p).contains 32 = tb := ⟨_, rfl⟩
          rw [hta, htb] at C1
          clear hta htb hdl
          obtain ⟨dr, hdr⟩ : ∃ dr, s.drop p = dr := ⟨_, rfl⟩
          rw [hdr] at e0 C1
          clear hdr
          have C2 := fun w h => cut_any tx 61 w h (by omega)
          obtain ⟨key, hkey⟩ : ∃ key, bef 61 tx = key := ⟨_, rfl⟩
          obtain ⟨val, hval⟩ : ∃ val, aft 61 tx = val := ⟨_, rfl⟩
          obtain ⟨has, hhas⟩ : ∃ has, tx.contains 61 = has := ⟨_, rfl⟩
          have hkl : key.length ≤ 1000 := by rw [← hkey]; exact Nat.le_trans (bef_le _ _) (by omega)
          have hvl : val.length ≤ 1000 := by rw [← hval]; exact Nat.le_trans (aft_le _ _) (by omega)
          rw [hkey, hval, hhas] at C2
          have HKO := Lib.hid (show kOf tx = if has = true then keyN key else 0 by rw [kOf, hhas, hkey])
          have HVO := Lib.hid (show vOf tx = val from hval)
          clear hkey hval hhas
          have HC1 := Lib.hid C1
          have HC2 := Lib.hid C2
          clear C1 C2
          go_wp2_with fail
          refine (HC1.out _ hWr).mono ?_
          rintro e w4 ⟨rfl, b4⟩
          have hz4 := b4.size
          have g4 := g1.below b4 g1.lt
          have m4 := m1.kept (grown_of_below b4) (by simp)
          have B4 := HB.trans (b4.mono hzr)
          have W4 := HWO.out.below B4
          clear g1 m1 HB b4 hWr
          go_wp2_with fail
          refine (HC2.out _ W4).mono ?_
          rintro e w5 ⟨rfl, b5⟩
          have hz5 := b5.size
          have g5 := g4.below b5 g4.lt
          have m5 := m4.kept (grown_of_below b5) (by simp)
          have B5 := B4.trans (b5.mono (by omega))
          have W5 := HWO.out.below B5
          clear g4 m4 B4 b5 W4
          have HERR := Lib.hid (show stepW st tx = none → q = zeroQ ∧ at' = (p : Int) ∧ e' = 380 from fun hn => by
            have := HV.out
            rw [← HP.out, HN.out hn] at this
            obtain ⟨r1, r2⟩ := Prod.mk.inj this
            obtain ⟨r3, r4⟩ := Prod.mk.inj r2
            exact ⟨r1.symm, r3.symm, r4.symm⟩)
          have hml5 := m5.lt
          obtain ⟨⟨s1, s2, t1, t2, fd, li, fr⟩, f⟩ := st
          obtain ⟨c0, c1, c2, c3, c4, c5, c6, f0, f1, f2, f3, f4, f5, f6⟩ := blk7f g5
          cases has
          · have hst : stepW (⟨s1, s2, t1, t2, fd, li, fr⟩, f) tx = none := by
              unfold stepW
              rw [show kOf tx = 0 by rw [HKO.out]; rfl]
              exact if_neg (fun hh => absurd hh.1 (by simp [okW]))
            obtain ⟨rfl, rfl, rfl⟩ := HERR.out hst
            go_wp2_with fail
            try rw [Exit.noGoto_ret]
            refine bodyPost_ret (results_rowB rfl _ _ w.heap.size (qc zeroQ) _ rfl (((((((g5.set 0 (.int .i64 0)).set 1 (.int .i64 0)).set 2 (.int .i64 0)).set 3 (.int .i64 0)).set 4 (str [])).set 5 (.int .i64 0)).set 6 (.int .i64 0)) Tryd.underlying26 rfl (by kernel_rfl)) rfl ?_
            exact ⟨rfl, B5.setCell (p := ⟨w.heap.size, 0, none⟩) (Nat.le_refl _) (.int .i64 0) |>.setCell (p := ⟨w.heap.size, 1, none⟩) (Nat.le_refl _) (.int .i64 0) |>.setCell (p := ⟨w.heap.size, 2, none⟩) (Nat.le_refl _) (.int .i64 0) |>.setCell (p := ⟨w.heap.size, 3, none⟩) (Nat.le_refl _) (.int .i64 0) |>.setCell (p := ⟨w.heap.size, 4, none⟩) (Nat.le_refl _) (str []) |>.setCell (p := ⟨w.heap.size, 5, none⟩) (Nat.le_refl _) (.int .i64 0) |>.setCell (p := ⟨w.heap.size, 6, none⟩) (Nat.le_refl _) (.int .i64 0)⟩
          · obtain ⟨vx, ps, hlk, hvx⟩ := m5.lookup (string_keyed Tryd.underlying9) Tryd.underlying46 (zeroE _) (plainElem_bool Tryd.underlying4 false) (WideMaps.keyOf_string_mk (s := ⟨key.toArray⟩) Tryd.underlying9 (by show key.toArray.size ≤ _; unfold maxLen; simp; omega))
            obtain ⟨x2, rfl, hz⟩ := bool_inv hvx
            have HSX := Lib.hid (show ¬ keyN key = 0 → f (keyN key) = x2 from fun h0 => by
              have h1 := (HSD.out).2 key h0
              have h2 := (Prod.mk.inj hz).1
              have h3 := h1.symm.trans h2
              simpa using h3)
            have HHK := Lib.hid (show kOf tx = keyN key by rw [HKO.out, if_pos rfl])
            clear hz hvx
            cases x2
            · obtain ⟨b, hb⟩ : ∃ b, okW (keyN key) val = b := ⟨_, rfl⟩
              obtain ⟨q6, hq6⟩ : ∃ q6, setW (keyN key) ⟨s1, s2, t1, t2, fd, li, fr⟩ val = q6 := ⟨_, rfl⟩
              have C3 := word_any w.heap.size ⟨s1, s2, t1, t2, fd, li, fr⟩ key val w5 W5 g5 (by omega)
              rw [hb, hq6] at C3
              have HC3 := Lib.hid C3
              have HOK := Lib.hid hb
              have HQ6 := Lib.hid hq6
              clear C3 hb hq6
              go_wp2_with fail
              refine HC3.out.mono ?_
              rintro e w6 ⟨rfl, g6, gr6⟩
              have B6 : Below w.heap.size w w6 := Below.grown B5 gr6 B5.size (by intro k hk; cases hk; exact Nat.le_refl _)
              have m6 := m5.kept gr6 (by simp; omega)
              have hml6 := m6.lt
              clear hlk c0 c1 c2 c3 c4 c5 c6 f0 f1 f2 f3 f4 f5 f6 g5 m5
              obtain ⟨y1, y2, y3, y4, yf, yl, yr⟩ := q6
              obtain ⟨c0, c1, c2, c3, c4, c5, c6, f0, f1, f2, f3, f4, f5, f6⟩ := blk7f g6
              cases b
              · have hst : stepW (⟨s1, s2, t1, t2, fd, li, fr⟩, f) tx = none := by
                  unfold stepW
                  rw [HHK.out, HVO.out, HOK.out]
                  exact if_neg (fun hh => absurd hh.1 (by decide))
                obtain ⟨rfl, rfl, rfl⟩ := HERR.out hst
                go_wp2_with fail
                try rw [Exit.noGoto_ret]
                refine bodyPost_ret (results_rowB rfl _ _ w.heap.size (qc zeroQ) _ rfl (((((((g6.set 0 (.int .i64 0)).set 1 (.int .i64 0)).set 2 (.int .i64 0)).set 3 (.int .i64 0)).set 4 (str [])).set 5 (.int .i64 0)).set 6 (.int .i64 0)) Tryd.underlying26 rfl (by kernel_rfl)) rfl ?_
                exact ⟨rfl, B6.setCell (p := ⟨w.heap.size, 0, none⟩) (Nat.le_refl _) (.int .i64 0) |>.setCell (p := ⟨w.heap.size, 1, none⟩) (Nat.le_refl _) (.int .i64 0) |>.setCell (p := ⟨w.heap.size, 2, none⟩) (Nat.le_refl _) (.int .i64 0) |>.setCell (p := ⟨w.heap.size, 3, none⟩) (Nat.le_refl _) (.int .i64 0) |>.setCell (p := ⟨w.heap.size, 4, none⟩) (Nat.le_refl _) (str []) |>.setCell (p := ⟨w.heap.size, 5, none⟩) (Nat.le_refl _) (.int .i64 0) |>.setCell (p := ⟨w.heap.size, 6, none⟩) (Nat.le_refl _) (.int .i64 0)⟩
              · have h0 : ¬ keyN key = 0 := by
                  intro e
                  have := HOK.out
                  rw [e] at this
                  cases this
                have hst : stepW (⟨s1, s2, t1, t2, fd, li, fr⟩, f) tx = some (⟨y1, y2, y3, y4, yf, yl, yr⟩, said f (keyN key)) := by
                  unfold stepW
                  rw [HHK.out, HVO.out, HOK.out]
                  rw [if_pos ⟨rfl, HSX.out h0⟩, HQ6.out]
                obtain ⟨n1, n2, n3⟩ := HY.out _ hst
                have HN1 := Lib.hid n1
                have HS2 := Lib.hid ((HSD.out).put key h0)
                obtain ⟨w7, hup, m7, gr7⟩ := m6.update (string_keyed Tryd.underlying9) Tryd.underlying46 (by unfold maxLen; omega) (WideMaps.keyOf_string_mk (s := ⟨key.toArray⟩) Tryd.underlying9 (by show key.toArray.size ≤ _; unfold maxLen; simp; omega)) (plainElem_bool Tryd.underlying4 true)
                have g7 := g6.grown gr7 (by simp; omega)
                have B7 : Below w.heap.size w w7 := Below.grown B6 gr7 B6.size (by intro k hk; cases hk; omega)
                have hadd : IntKind.i64.wrap ((p : Int) + (tx.length : Int)) = (p : Int) + (tx.length : Int) := w64k (by omega) (by omega)
                clear hst n1 h0
                go_wp2_with fail
                go_roundw
                case rel => exact ⟨p + tx.length, _, _, by go_num, n3, by rw [← HN1.out]; exact HP.out, g7, m7.mono (by omega), HS2.out, B7⟩
                case measure => simp [intOf]; omega
            · have hst : stepW (⟨s1, s2, t1, t2, fd, li, fr⟩, f) tx = none := by
                unfold stepW
                rw [HHK.out]
                by_cases h0 : keyN key = 0
                · rw [h0]
                  exact if_neg (fun hh => absurd hh.1 (by simp [okW]))
                · exact if_neg (fun hh => by
                    have h2 : f (keyN key) = false := hh.2
                    rw [HSX.out h0] at h2
                    cases h2)
              obtain ⟨rfl, rfl, rfl⟩ := HERR.out hst
              go_wp2_with fail
              try rw [Exit.noGoto_ret]
              refine bodyPost_ret (results_rowB rfl _ _ w.heap.size (qc zeroQ) _ rfl (((((((g5.set 0 (.int .i64 0)).set 1 (.int .i64 0)).set 2 (.int .i64 0)).set 3 (.int .i64 0)).set 4 (str [])).set 5 (.int .i64 0)).set 6 (.int .i64 0)) Tryd.underlying26 rfl (by kernel_rfl)) rfl ?_
              exact ⟨rfl, B5.setCell (p := ⟨w.heap.size, 0, none⟩) (Nat.le_refl _) (.int .i64 0) |>.setCell (p := ⟨w.heap.size, 1, none⟩) (Nat.le_refl _) (.int .i64 0) |>.setCell (p := ⟨w.heap.size, 2, none⟩) (Nat.le_refl _) (.int .i64 0) |>.setCell (p := ⟨w.heap.size, 3, none⟩) (Nat.le_refl _) (.int .i64 0) |>.setCell (p := ⟨w.heap.size, 4, none⟩) (Nat.le_refl _) (str []) |>.setCell (p := ⟨w.heap.size, 5, none⟩) (Nat.le_refl _) (.int .i64 0) |>.setCell (p := ⟨w.heap.size, 6, none⟩) (Nat.le_refl _) (.int .i64 0)⟩
      · have hpI : ¬ (p : Int) < (s.length : Int) := by omega
        have hpe : p = s.length := by omega
        have hfin := HP.out
        rw [hpe, List.drop_length, parse_end] at hfin
        have hv := HV.out
        rw [← hfin] at hv
        clear hfin
        obtain ⟨⟨s1, s2, t1, t2, fd, li, fr⟩, f⟩ := st
        have hc := SkpW.chk_cases ⟨s1, s2, t1, t2, fd, li, fr⟩
        obtain ⟨ce, hce⟩ : ∃ ce, chkQ ⟨s1, s2, t1, t2, fd, li, fr⟩ = ce := ⟨_, rfl⟩
        have C := SkpW.check_any ⟨s1, s2, t1, t2, fd, li, fr⟩ ce hce
        rw [hce] at hc
        have hce2 : ce = 320 ∨ ce = 0 := by
          rcases hc with ⟨e, _⟩ | ⟨e, _⟩
          · exact .inl e
          · exact .inr e
        unfold finV at hv
        dsimp only at hv
        rw [hce] at hv
        have HC := Lib.hid C
        clear C hc hce
        obtain ⟨c0, c1, c2, c3, c4, c5, c6, f0, f1, f2, f3, f4, f5, f6⟩ := blk7f g1
        rcases hce2 with rfl | rfl
        · rw [if_neg (by decide)] at hv
          obtain ⟨rfl, hv2⟩ := Prod.mk.inj hv
          obtain ⟨rfl, rfl⟩ := Prod.mk.inj hv2
          clear hv hv2
          have hpl : (p : Int) = (s.length : Int) := by omega
          have HPL := Lib.hid hpl
          clear hpl hpe
          go_wp2_with fail
          refine (HC.out _).mono ?_
          rintro e w4 ⟨rfl, b4⟩
          have g4 := g1.below b4 g1.lt
          have B4 := HB.trans (b4.mono hzr)
          clear c0 c1 c2 c3 c4 c5 c6 f0 f1 f2 f3 f4 f5 f6
          obtain ⟨c0, c1, c2, c3, c4, c5, c6, f0, f1, f2, f3, f4, f5, f6⟩ := blk7f g4
          go_wp2_with fail
          try rw [Exit.noGoto_ret]
          refine bodyPost_ret (results_rowB rfl _ _ w.heap.size (qc zeroQ) _ rfl (((((((g4.set 0 (.int .i64 0)).set 1 (.int .i64 0)).set 2 (.int .i64 0)).set 3 (.int .i64 0)).set 4 (str [])).set 5 (.int .i64 0)).set 6 (.int .i64 0)) Tryd.underlying26 rfl (by kernel_rfl)) rfl ?_
          refine ⟨?_, B4.setCell (p := ⟨w.heap.size, 0, none⟩) (Nat.le_refl _) (.int .i64 0) |>.setCell (p := ⟨w.heap.size, 1, none⟩) (Nat.le_refl _) (.int .i64 0) |>.setCell (p := ⟨w.heap.size, 2, none⟩) (Nat.le_refl _) (.int .i64 0) |>.setCell (p := ⟨w.heap.size, 3, none⟩) (Nat.le_refl _) (.int .i64 0) |>.setCell (p := ⟨w.heap.size, 4, none⟩) (Nat.le_refl _) (str []) |>.setCell (p := ⟨w.heap.size, 5, none⟩) (Nat.le_refl _) (.int .i64 0) |>.setCell (p := ⟨w.heap.size, 6, none⟩) (Nat.le_refl _) (.int .i64 0)⟩
          rw [← HPL.out]
          rfl
        · rw [if_pos rfl] at hv
          obtain ⟨rfl, hv2⟩ := Prod.mk.inj hv
          obtain ⟨rfl, rfl⟩ := Prod.mk.inj hv2
          clear hv hv2
          have hpl : (p : Int) = (s.length : Int) := by omega
          have HPL := Lib.hid hpl
          clear hpl hpe
          go_wp2_with fail
          refine (HC.out _).mono ?_
          rintro e w4 ⟨rfl, b4⟩
          have g4 := g1.below b4 g1.lt
          have B4 := HB.trans (b4.mono hzr)
          clear c0 c1 c2 c3 c4 c5 c6 f0 f1 f2 f3 f4 f5 f6
          obtain ⟨c0, c1, c2, c3, c4, c5, c6, f0, f1, f2, f3, f4, f5, f6⟩ := blk7f g4
          go_wp2_with fail
          try rw [Exit.noGoto_ret]
          refine bodyPost_ret (results_rowB rfl _ _ w.heap.size (qc ⟨s1, s2, t1, t2, fd, li, fr⟩) _ rfl (((((((g4.set 0 (.int .i64 s1)).set 1 (.int .i64 s2)).set 2 (.int .i64 t1)).set 3 (.int .i64 t2)).set 4 (str fd)).set 5 (.int .i64 li)).set 6 (.int .i64 fr)) Tryd.underlying26 rfl (by kernel_rfl)) rfl ?_
          refine ⟨?_, B4.setCell (p := ⟨w.heap.size, 0, none⟩) (Nat.le_refl _) (.int .i64 s1) |>.setCell (p := ⟨w.heap.size, 1, none⟩) (Nat.le_refl _) (.int .i64 s2) |>.setCell (p := ⟨w.heap.size, 2, none⟩) (Nat.le_refl _) (.int .i64 t1) |>.setCell (p := ⟨w.heap.size, 3, none⟩) (Nat.le_refl _) (.int .i64 t2) |>.setCell (p := ⟨w.heap.size, 4, none⟩) (Nat.le_refl _) (str fd) |>.setCell (p := ⟨w.heap.size, 5, none⟩) (Nat.le_refl _) (.int .i64 li) |>.setCell (p := ⟨w.heap.size, 6, none⟩) (Nat.le_refl _) (.int .i64 fr)⟩
          rw [← HPL.out]
          rfl
end WanW
end Go.Proofs.YtjcbaaabbdcdnaaDoor
