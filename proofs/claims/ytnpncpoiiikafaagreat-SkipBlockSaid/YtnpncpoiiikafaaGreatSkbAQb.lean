/- The walk of varvelaw31.SkipBlock: a block that need not be read has no hit. -/
import Derived.Test.YtnpncpoiiikafaaGreatBloEQb
import Derived.Test.YtnpncpoiiikafaaGreatBloQQb
import Derived.Test.YtnpncpoiiikafaaGreatSkpHQb
import Derived.Test.YtnpncpoiiikafaaGreatSkpXQb
import Derived.Test.YtnpncpoiiikafaaGreatSkpKQb
import Derived.Test.YtnpncpoiiikafaaGreatSkpBQb
namespace Go.Proofs.YtnpncpoiiikafaaGreat
set_option linter.unusedVariables false
set_option linter.unusedSimpArgs false
set_option linter.unnecessarySimpa false
open Go.RowKit
namespace SkpW
open RecW (few_any few_len fewB)
open BloW (encode_none encode_bad encode_any Peek_any peekV encB peek_enc BodyOf mcs mode_of enc_len)

set_option maxRecDepth 100000 in
set_option maxHeartbeats 16000000 in
theorem block_law (q : Qy) (A : Option Addr) (n c : Nat) (l : List Rc) (w : World) (h : Rd w w.heap.size 3 A n (rcells l)) (hok : ∀ x ∈ l, RcOk x) (hn : n ≤ maxLen) (hfd : q.find.length ≤ maxLen) :
    Calls Tryz.prog 5 #[qv q, .slice A n c] w fun e w' => e = .returned (.bool true) ∧ Below w.heap.size w w' := by
  unfold maxLen at hn hfd
  have CF := Lib.hid (fun v hv w HH => few_any A n c l v hv w HH (by omega) (fun r hr => by have := (hok r hr).2.2; unfold maxLen at this; omega))
  have hl := rd_rlen h
  have bQ := Blk.new w 58 (qc q)
  have HB : Below w.heap.size w (w.alloc (.cells (qc q) 58)) := (Below.refl w.heap.size w).alloc (Nat.le_refl _) _
  obtain ⟨fw, hfw⟩ : ∃ v, fewB l = v := ⟨_, rfl⟩
  go_enter Tryz.func5, Tryz.ntmps5
  go_wp2_with fail
  refine (CF.out fw hfw _ ((h.below HB).more HB.size)).mono ?_
  rintro e w1 ⟨rfl, hb1⟩
  replace bQ := bQ.below hb1 bQ.lt
  replace HB := HB.trans (hb1.mono HB.size)
  clear hb1 CF
  cases fw with
  | false =>
    go_wp2_with fail
    refine (awake_any _).mono ?_
    rintro e w2 ⟨rfl, hb2⟩
    go_wp2_with fail
    go_ret
    exact ⟨rfl, HB.trans (hb2.mono HB.size)⟩
  | true =>
    have hlen := few_len hfw
    have hdat := few_dat hfw
    have bQ' := bQ
    obtain ⟨d0, d1, d2, d3, d4, d5, d6⟩ := blk7 bQ'
    clear bQ' hfw hok
    by_cases hm : (1000 : Int) < (q.find.length : Int)
    · go_wp2_with fail
      refine (awake_any _).mono ?_
      rintro e w2 ⟨rfl, hb2⟩
      go_wp2_with fail
      go_ret
      exact ⟨rfl, HB.trans (hb2.mono HB.size)⟩
    · by_cases hn0 : n = 0
      · subst hn0
        go_wp2_with fail
        refine (encode_none A c _).mono ?_
        rintro e w2 ⟨rfl, hb2⟩
        replace HB := HB.trans (hb2.mono HB.size)
        go_wp2_with fail
        refine (awake_any _).mono ?_
        rintro e w3 ⟨rfl, hb3⟩
        go_wp2_with fail
        go_ret
        exact ⟨rfl, HB.trans (hb3.mono HB.size)⟩
      · by_cases hj : (joinV l).2 = 0
        · have hr : rowN l = 0 := by
            unfold joinV at hj
            by_cases e : rowN l = 0
            · exact e
            · rw [if_neg e] at hj; exact absurd hj e
          have hraw : (flatR l).length ≤ 20000 := by
            unfold joinV at hj
            rw [if_pos hr] at hj
            by_cases e : 20000 < (flatR l).length
            · rw [if_pos e] at hj; simp at hj
            · omega
          have hl0 : 0 < l.length := by omega
          have C := encode_any A n c l w1 ((h.below HB).more HB.size) (by omega) (by omega) hr hraw
          have CH := Lib.hid (fun w HH => filter_any q A n c l w HH (by omega) (by omega) hdat)
          have HPK := Lib.hid (fun md hm bd => peek_enc hr hl0 hraw md hm bd)
          have HEL := Lib.hid (fun md bd (hb : BodyOf (flatR l) md bd) => enc_len hb hraw)
          obtain ⟨hits, hhits⟩ : ∃ hits, l.filter (hitA (ofQ q)) = hits := ⟨_, rfl⟩
          have HIT : Hid (∀ m : Me, m.count = (l.length : Nat) → m.first = (l[0]'hl0).1 → m.early = (l[0]'hl0).2.1 → m.late = (l[l.length - 1]'(by omega)).2.1 → blockB q m = false → hits.length = 0) := Lib.hid (by
            intro m h1 h2 h3 h4 h5
            rcases Nat.eq_zero_or_pos hits.length with e | e
            · exact e
            · have := blk_hit q l hr hl0 (by rw [hhits]; exact e) m h1 h2 h3 h4
              rw [h5] at this
              cases this)
          rw [hhits] at CH
          obtain ⟨x0, hx0⟩ : ∃ x, (l[0]'hl0) = x := ⟨_, rfl⟩
          obtain ⟨xk, hxk⟩ : ∃ x, (l[l.length - 1]'(by omega)) = x := ⟨_, rfl⟩
          obtain ⟨f1, f2, f3, f4, f5⟩ := BloW.row_facts hr hl0
          rw [hx0] at f1 f2 f3 f4
          rw [hxk] at f4 f5
          simp only [hx0, hxk] at HPK HIT
          clear hj hhits hx0 hxk hr hdat
          go_wp2_with fail
          refine C.mono ?_
          clear C
          rintro e w2 ⟨md, bd, rfl, hbo, hb2⟩
          replace bQ := bQ.below hb2 bQ.lt
          replace HB := HB.trans (hb2.mono HB.size)
          clear hb2 d0 d1 d2 d3 d4 d5 d6
          have C := Peek_any (encB l md bd) w2 (by have := HEL.out md bd hbo; omega) _ (HPK.out md (mode_of hbo) bd)
          clear hbo
          go_wp2_with fail
          refine C.mono ?_
          clear C
          rintro e w3 ⟨rfl, hb3⟩
          replace bQ := bQ.below hb3 bQ.lt
          replace HB := HB.trans (hb3.mono HB.size)
          clear hb3
          obtain ⟨m, hm⟩ : ∃ m : Me, (⟨0, 0, ((flatR l).length : Nat), (l.length : Nat), x0.1, x0.2.1, xk.2.1⟩ : Me) = m := ⟨_, rfl⟩
          have HIM := Lib.hid (HIT.out m (by rw [← hm]) (by rw [← hm]) (by rw [← hm]) (by rw [← hm]))
          have hmc : (mcs ⟨(md.toNat : Int), ((flatR l).length : Nat), (l.length : Nat), x0.1, x0.2.1, xk.2.1, bd⟩) = mc m := by rw [← hm]; rfl
          dsimp only
          rw [hmc]
          have hI1 : I64 m.count := by rw [← hm]; unfold I64; dsimp only; omega
          have hI2 : I64 m.first := by rw [← hm]; unfold I64; dsimp only; omega
          clear hm hmc HIT HPK
          have bM := Blk.new w3 33 (mc m)
          have bQ4 := bQ.alloc (.cells (mc m) 33)
          have HB4 := HB.alloc HB.size (.cells (mc m) 33)
          obtain ⟨d0, d1, d2, d3, d4, d5, d6⟩ := blk7 bQ4
          go_wp2_with fail
          refine (CH.out _ ((h.below HB4).more HB4.size)).mono ?_
          clear CH d0 d1 d2 d3 d4 d5 d6
          rintro e w5 ⟨A', m', c', rfl, oh, hb5⟩
          have hml : hits.length = m' := rd_rlen oh.rd
          replace bM := bM.below hb5 bM.lt
          replace bQ4 := bQ4.below hb5 bQ4.lt
          replace HB4 := HB4.trans (hb5.mono HB4.size)
          clear hb5 oh bQ HB
          obtain ⟨d0, d1, d2, d3, d4, d5, d6⟩ := blk7 bQ4
          obtain ⟨k0, k1, k2, k3, k4, k5, k6⟩ := blk7 bM
          obtain ⟨v, hv⟩ : ∃ v, blockB q m = v := ⟨_, rfl⟩
          have C := Lib.hid (fun w => block_any q m v hv w hI1 hI2)
          have hvz : v = false → m' = 0 := fun e => by rw [← hml]; exact HIM.out (hv.trans e)
          clear HIM hv hml hI1 hI2
          cases v with
          | true =>
            clear hvz
            go_wp2_with fail
            refine (C.out _).mono ?_
            clear C
            rintro e w6 ⟨rfl, hb6⟩
            replace HB4 := HB4.trans (hb6.mono HB4.size)
            go_wp2_with fail
            refine (awake_any _).mono ?_
            rintro e w7 ⟨rfl, hb7⟩
            go_wp2_with fail
            go_ret
            exact ⟨rfl, HB4.trans (hb7.mono HB4.size)⟩
          | false =>
            have hm0 := hvz rfl
            subst hm0
            clear hvz
            go_wp2_with fail
            refine (C.out _).mono ?_
            clear C
            rintro e w6 ⟨rfl, hb6⟩
            replace HB4 := HB4.trans (hb6.mono HB4.size)
            go_wp2_with fail
            refine (awake_any _).mono ?_
            rintro e w7 ⟨rfl, hb7⟩
            go_wp2_with fail
            go_ret
            exact ⟨rfl, HB4.trans (hb7.mono HB4.size)⟩
        · have C := encode_bad A n c l w1 ((h.below HB).more HB.size) (by omega) (by omega) hj
          go_wp2_with fail
          refine C.mono ?_
          clear C
          rintro e w2 ⟨er, rfl, her, hb2⟩
          replace HB := HB.trans (hb2.mono HB.size)
          have hne : ¬ er = 0 := by rw [her]; exact hj
          clear her hj
          go_wp2_with fail
          refine (awake_any _).mono ?_
          rintro e w3 ⟨rfl, hb3⟩
          go_wp2_with fail
          go_ret
          exact ⟨rfl, HB.trans (hb3.mono HB.size)⟩
end SkpW
end Go.Proofs.YtnpncpoiiikafaaGreat
