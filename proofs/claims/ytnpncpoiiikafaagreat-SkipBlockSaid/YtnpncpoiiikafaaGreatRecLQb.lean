/- Walks over package record and its reference: records' bytes together. -/
import Derived.Test.YtnpncpoiiikafaaGreatBldQb
import Derived.Test.YtnpncpoiiikafaaGreatAppQb
namespace Go.Proofs.YtnpncpoiiikafaaGreat
set_option linter.unusedVariables false
set_option linter.unusedSimpArgs false
set_option linter.unnecessarySimpa false
open Go.RowKit
namespace RecW

theorem putRN_ok {r : Rc} (h : okR r = true) : putRN r = putR r := by unfold putRN; rw [if_pos h]

set_option maxRecDepth 100000 in
set_option maxHeartbeats 4000000 in
theorem join_any (A : Option Addr) (n c : Nat) (l : List Rc) (w : World) (h : Rd w w.heap.size 3 A n (rcells l)) (hn : n ≤ 1000000) (x : List UInt8 × Int) (hx : joinV l = x) :
    Calls Tryz.prog 47 #[.slice A n c] w fun e w' => e = .returned (.tuple #[str x.1, .int .i64 x.2]) ∧ Below w.heap.size w w' := by
  have hl := rd_rlen h
  have CR := row_any A n c l w h (by omega)
  by_cases he : rowN l = 0
  · have hok : ∀ r ∈ l, okR r = true := rowFrom_ok he
    have hbad := fun k => joinV_bigAt (l := l) (k := k)
    have hyes := joinV_yes (l := l)
    rw [hx] at hyes
    have HBG := Lib.hid (fun k h2 => hx.symm.trans (hbad k he h2))
    have HYS := Lib.hid (fun h2 => hyes he h2)
    rw [he] at CR
    have HOK := Lib.hid hok
    have hl1 : l.length ≤ n := by omega
    have hl2 : n ≤ l.length := by omega
    have HLN := Lib.hid hl
    clear hbad hyes hok hx he hl
    go_enter Tryz.func47, Tryz.ntmps47
    go_wp2_with fail
    refine CR.mono ?_
    rintro e w1 ⟨rfl, hb1⟩
    go_wp2_with fail
    have hBl := Bld.Bl.fresh w1
    have hBk := heap_alloc_new w1 (.cells #[.pointer none, .slice none 0 0] 112)
    have HB2 := hb1.alloc hb1.size (.cells #[.pointer none, .slice none 0 0] 112)
    have zb : w.heap.size ≤ w1.heap.size := hb1.size
    obtain ⟨bb, hbb⟩ : ∃ bb, w1.heap.size = bb := ⟨_, rfl⟩
    rw [hbb] at hBl zb hBk
    rw [hbb]
    generalize w1.alloc (.cells #[.pointer none, .slice none 0 0] 112) = w2 at *
    clear hbb hb1
    go_loopw [17] (fun i wr => ∃ k : Nat, i = .int .i64 k ∧ k ≤ n ∧ (flatR (l.take k)).length ≤ 20000 ∧ 3 * k ≤ (flatR (l.take k)).length ∧ Bld.Bl bb bb (flatR (l.take k)) wr ∧ (k = 0 → wr.heap[bb]? = some (.cells #[.pointer none, .slice none 0 0] 112 (0, 0))) ∧ Below w.heap.size w wr) (fun i _ => n - (intOf i).toNat)
    case atStart => exact ⟨0, rfl, by omega, by simp [flatR], by omega, hBl, fun _ => hBk, HB2⟩
    case round =>
      obtain ⟨k, rfl, hk, hfl, hfl3, hB, h0, hbw⟩ := hrel
      have H0 := Lib.hid h0
      have hsz := hbw.size
      have hbl := hB.lt
      clear h0 hBl hBk HB2
      by_cases hlt : k < n
      · have hkl : k < l.length := by omega
        obtain ⟨b, o, rfl, hb, hc⟩ := rd_recs (h.below hbw) (by omega)
        obtain ⟨d0, d1, d2⟩ := hc k hkl
        have hokk := HOK.out l[k] (List.getElem_mem hkl)
        have HS := Lib.hid (flatR_snoc l k hkl)
        have hpl := putR_len hokk
        have C := fun w => putR_any l[k] w
        have hch := chkR_yes hokk
        rw [hch, putRN_ok hokk] at C
        have HC := Lib.hid C
        have HSB := Lib.hid (fun (e : List UInt8) (he : flatR (l.take k) ++ putR l[k] = e) => show flatR (l.take (k + 1)) = e from HS.out.trans he)
        have HBK := Lib.hid (fun (h2 : 20000 < (flatR (l.take k)).length + (putR l[k]).length) => HBG.out (k + 1) (by rw [HS.out, List.length_append]; exact h2))
        generalize hr : l[k] = r at *
        obtain ⟨ra, rb, rd⟩ := r
        generalize putR (ra, rb, rd) = p at *
        generalize flatR (l.take k) = fl at *
        clear hc hr hokk C hch
        obtain ⟨HP1, HP2⟩ := hpl
        go_wp2_with fail
        have hB1 := hB.below ((Below.refl wr.heap.size wr).alloc (Nat.le_refl _) (.cells #[.int .i64 ra, .int .i64 rb, str rd] 98))
        have hbw1 := hbw.alloc hsz (.cells #[.int .i64 ra, .int .i64 rb, str rd] 98)
        refine (HC.out _).mono ?_
        rintro e w2 ⟨rfl, hb2⟩
        have hB2 := hB1.below hb2
        have hbw2 := hbw1.trans (hb2.mono hbw1.size)
        clear hb2 d0 d1 d2 hB hB1 hbw hbw1
        go_wp2_with fail
        refine (Bld.len_any bb bb fl _ hB2).mono ?_
        rintro e w3 ⟨rfl, rfl⟩
        by_cases hbg : 20000 < fl.length + p.length
        · have hx := HBK.out hbg
          subst hx
          have hI : (20000 : Int) - (fl.length : Int) < (p.length : Int) := by omega
          go_wp2_with fail
          go_ret2
          exact ⟨rfl, hbw2⟩
        · have hI : ¬ (20000 : Int) - (fl.length : Int) < (p.length : Int) := by omega
          go_wp2_with fail
          refine (Bld.write_any bb bb fl p w2 hB2 (by omega) (Nat.le_of_lt hB2.lt)).mono ?_
          rintro e w5 ⟨rfl, hB5, hb5⟩
          go_wp2_with fail
          go_roundw
          case rel => exact ⟨k + 1, by go_num, by omega, by rw [HSB.out _ rfl, List.length_append]; omega, by rw [HSB.out _ rfl, List.length_append]; omega, by rw [HSB.out _ rfl]; exact hB5, fun h => absurd h (by omega), hbw2.trans (hb5.mono zb)⟩
          case measure => simp [intOf]; omega
      · have hz := Lib.hid (show l.take k = l from List.take_of_length_le (by omega))
        rw [hz.out] at hfl hfl3 hB
        have hx := HYS.out (by omega)
        subst hx
        by_cases hk0 : k = 0
        · have hl0 : l = [] := List.eq_nil_of_length_eq_zero (by have := HLN.out; omega)
          have C := Bld.text_nil bb bb wr (H0.out hk0)
          have HL0 := Lib.hid hl0
          clear hl0 hk0
          go_wp2_with fail
          refine C.mono ?_
          rintro e w6 ⟨rfl, hb6⟩
          go_wp2_with fail
          go_ret2
          exact ⟨by rw [HL0.out]; rfl, hbw.trans (hb6.mono zb)⟩
        · have C := Bld.text_any bb bb _ wr hB (by intro e; rw [e] at hfl3; simp at hfl3; omega)
          go_wp2_with fail
          refine C.mono ?_
          rintro e w6 ⟨rfl, hb6⟩
          go_wp2_with fail
          go_ret2
          exact ⟨rfl, hbw.trans (hb6.mono zb)⟩
  · rw [joinV_bad he] at hx
    obtain ⟨v, hv⟩ : ∃ v, rowN l = v := ⟨_, rfl⟩
    rw [hv] at hx CR he
    subst hx
    have heI : (v != 0) = true := by simp [he]
    clear he hv hl
    go_enter Tryz.func47, Tryz.ntmps47
    go_wp2_with fail
    refine CR.mono ?_
    rintro e w1 ⟨rfl, hb1⟩
    go_wp2_with fail
    go_ret2
    exact ⟨rfl, hb1⟩
end RecW
end Go.Proofs.YtnpncpoiiikafaaGreat

namespace Go.Proofs.YtnpncpoiiikafaaGreat
set_option linter.unusedVariables false
set_option linter.unusedSimpArgs false
set_option linter.unnecessarySimpa false
open Go.RowKit
theorem own_ne_own {w : World} {base e size n c base' e' size' m c' g : Nat} {A : Option Addr} {xs ys : List Value} (ho : Own w base e size A n c xs) (hb : Own w base' e' size' (some ⟨g, 0, none⟩) m c' ys) (hne : e ≠ e') : blkOf A ≠ some g := by
  intro hA
  rcases hb.2 with ⟨hv, _⟩ | ⟨k, cap, cur, hv, _, hk, _⟩
  · simp at hv
  · simp only [Value.slice.injEq, Option.some.injEq, Addr.mk.injEq, and_true] at hv
    obtain ⟨rfl, _⟩ := hv
    rcases ho.2 with ⟨hv, _⟩ | ⟨g', cap2, cur2, hv, _, hg, _⟩
    · simp only [Value.slice.injEq] at hv
      rw [hv.1] at hA
      simp [blkOf] at hA
    · simp only [Value.slice.injEq] at hv
      rw [hv.1] at hA
      simp only [blkOf, Option.map_some, Option.some.injEq] at hA
      subst hA
      rw [hk] at hg
      simp only [Option.some.injEq, Obj.cells.injEq] at hg
      exact hne hg.2.1.symm
theorem wp_app_str {w : World} {ops : Array Oper} {rest : List Oper} {o : Oper} {a : Act} {Q : Exit → Act → World → Prop} (hgd : o.guard = none) {sl x : Operand}
    (ho : o.op = .call { callee := .builtin .append, args := #[sl, x], argTypes := #[99, 9] })
    {base : Nat} {A : Option Addr} {n c : Nat} {l : List UInt8} (hs : a.eval sl = .slice A n c) (hown : Own w base 5 1 A n c (byts l)) (s : List UInt8) (hx : a.eval x = str s) (hb : n + s.length ≤ 140737488355328) (hbase : base ≤ w.heap.size)
    (h : ∀ A' c' w', Own w' base 5 1 A' (n + s.length) c' (byts (l ++ s)) → w.grownBy w' (blkOf A) → wpList Tryz.prog ops Q rest (a.put o.dst (.slice A' (n + s.length) c')) w') :
    wpList Tryz.prog ops Q (o :: rest) a w := by
  obtain ⟨i0, hi, hz0, hz1, hz2⟩ := info_parts Bld.infoByte
  refine Lib.wpList_append_own_string _ hgd sl x 99 9 ho base 5 i0 Tryz.underlying99 Tryz.underlying9 hi hz0 hz1 hz2 _ _ _ hs hown ⟨s.toArray⟩ hx ?_ ?_ hbase ?_
  · show n + s.toArray.size ≤ maxLen; rw [List.size_toArray]; unfold maxLen; omega
  · show n + s.toArray.size ≤ _; rw [List.size_toArray]; exact hb
  · intro v' w2 hown' hgrow _
    have hlen : (⟨s.toArray⟩ : ByteArray).size = s.length := by show s.toArray.size = _; simp
    rw [hlen] at hown'
    have hcs : byts l ++ Lib.strCells (⟨s.toArray⟩ : ByteArray) = byts (l ++ s) := by simp [byts, Lib.strCells, byt, Function.comp_def]
    rw [hcs] at hown'
    rw [ownBlock_slice] at hgrow
    rcases hown'.2 with ⟨hv, h0⟩ | ⟨g, cap, cur, hv, hr⟩
    · have : n + s.length = 0 := h0
      subst hv
      have hx := h none 0 w2 (by rw [this] at hown' ⊢; exact hown') hgrow
      rw [this] at hx
      exact hx
    · subst hv
      exact h _ _ w2 hown' hgrow
end Go.Proofs.YtnpncpoiiikafaaGreat
