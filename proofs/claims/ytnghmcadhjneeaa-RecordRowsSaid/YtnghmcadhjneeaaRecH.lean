/- The law of package record on two rows: its walk. -/
import Derived.Test.YtnghmcadhjneeaaRecC
import Derived.Test.YtnghmcadhjneeaaRecG
import Derived.Test.YtnghmcadhjneeaaRecQ
namespace Go.Proofs.Ytnghmcadhjneeaa
set_option linter.unusedVariables false
set_option linter.unusedSimpArgs false
set_option linter.unnecessarySimpa false
open Go.RowKit Go.ChangeShapes Go.WideShapes Go.Deep
namespace RecW

theorem own_empty (w : World) (t size : Nat) : Own (w.alloc (.cells #[] t)) w.heap.size t size (some ⟨w.heap.size, 0, none⟩) 0 0 [] :=
  own_new (W0 := w) (cs := []) rfl (by simp) (Nat.le_refl _) (by decide)

set_option maxRecDepth 100000 in
set_option maxHeartbeats 16000000 in
theorem rows_law (A1 : Option Addr) (n1 c1 : Nat) (a : List Rc) (A2 : Option Addr) (n2 c2 : Nat) (b : List Rc) (w : World) (ha : Rd w w.heap.size 3 A1 n1 (rcells a)) (hoka : ∀ x ∈ a, RcOk x) (hn1 : n1 ≤ maxLen)
    (hb : Rd w w.heap.size 3 A2 n2 (rcells b)) (hokb : ∀ x ∈ b, RcOk x) (hn2 : n2 ≤ maxLen) :
    Calls Try.prog 3 #[.slice A1 n1 c1, .slice A2 n2 c2] w fun e w' => e = .returned (.bool true) ∧ Below w.heap.size w w' := by
  unfold maxLen at hn1 hn2
  have CF1 := fun v hv => few_any A1 n1 c1 a v hv w ha (by omega) (fun r hr => by have := (hoka r hr).2.2; unfold maxLen at this; omega)
  have CF2 := fun v hv w HH => few_any A2 n2 c2 b v hv w HH (by omega) (fun r hr => by have := (hokb r hr).2.2; unfold maxLen at this; omega)
  have hla := rd_rlen ha
  have hlb := rd_rlen hb
  have HF1 := Lib.hid CF1
  have HF2 := Lib.hid CF2
  clear CF1 CF2
  by_cases hf1 : fewB a = true
  · have C1 := HF1.out true hf1
    have hlen1 := few_len hf1
    by_cases hf2 : fewB b = true
    · have C2 := Lib.hid (fun w HH => HF2.out true hf2 w HH)
      have hlen2 := few_len hf2
      clear HF1 HF2 hf1 hf2
      by_cases hz : n1 = 0 ∨ n2 = 0
      · have hz' : n1 = 0 ∨ (n1 ≠ 0 ∧ n2 = 0) := by omega
        clear hz
        rcases hz' with hz | ⟨hz1, hz⟩
        · have hzI : ((n1 : Int) == 0) = true := by simp [hz]
          clear hz
          go_enter Try.func3, Try.ntmps3
          go_wp2_with fail
          refine C1.mono ?_
          rintro e w1 ⟨rfl, HB⟩
          go_wp2_with fail
          refine (C2.out _ ((hb.below HB).more HB.size)).mono ?_
          rintro e w2 ⟨rfl, hb9⟩
          replace HB := HB.trans (hb9.mono HB.size)
          go_wp2_with fail
          refine (awake_any _).mono ?_
          rintro e w3 ⟨rfl, hb9⟩
          go_wp2_with fail
          go_ret
          exact ⟨rfl, HB.trans (hb9.mono HB.size)⟩
        · have hzI : ((n1 : Int) == 0) = false := by rw [beq_eq_false_iff_ne]; omega
          have hzI2 : ((n2 : Int) == 0) = true := by simp [hz]
          clear hz hz1
          go_enter Try.func3, Try.ntmps3
          go_wp2_with fail
          refine C1.mono ?_
          rintro e w1 ⟨rfl, HB⟩
          go_wp2_with fail
          refine (C2.out _ ((hb.below HB).more HB.size)).mono ?_
          rintro e w2 ⟨rfl, hb9⟩
          replace HB := HB.trans (hb9.mono HB.size)
          go_wp2_with fail
          refine (awake_any _).mono ?_
          rintro e w3 ⟨rfl, hb9⟩
          go_wp2_with fail
          go_ret
          exact ⟨rfl, HB.trans (hb9.mono HB.size)⟩
      · have hpa : 0 < a.length := by omega
        have hpb : 0 < b.length := by omega
        have hap := row_app hpa hpb
        have hlo := Lib.hid (last_ok hpa)
        have hjo := Lib.hid (join_app_ok hpa hpb)
        have hjb := Lib.hid (join_app_big (a := a) (b := b))
        have hj3 := Lib.hid (joinV_big3 (l := a ++ b))
        have hca := Lib.hid (joinV_cases a)
        have hcb := Lib.hid (joinV_cases b)
        have hcc := Lib.hid (joinV_cases (a ++ b))
        have hzI1 : ((n1 : Int) == 0) = false := by rw [beq_eq_false_iff_ne]; omega
        have hzI2 : ((n2 : Int) == 0) = false := by rw [beq_eq_false_iff_ne]; omega
        obtain ⟨ba, oa, rfl, hba, hcra⟩ := rd_recs ha (by omega)
        obtain ⟨bb, ob, rfl, hbb, hcrb⟩ := rd_recs hb (by omega)
        obtain ⟨la0, la1, la2⟩ := hcra (a.length - 1) (by omega)
        obtain ⟨lb0, lb1, lb2⟩ := hcrb 0 hpb
        have hi64 : I64 (a[a.length - 1]'(by omega)).1 := (hoka _ (List.getElem_mem _)).1
        have hi64b : I64 (b[0]).1 := (hokb _ (List.getElem_mem _)).1
        generalize hea : a[a.length - 1]'(by omega) = ra at *
        generalize heb : b[0] = rb at *
        obtain ⟨as_, at_, ad⟩ := ra
        obtain ⟨bs_, bt, bd⟩ := rb
        rw [show a.length - 1 = n1 - 1 from by omega] at la0 la1
        have la0' : w.cell? ⟨ba, oa + (n1 - 1) * 3, none⟩ = some (.int .i64 as_) := la0
        have la1' : w.cell? ⟨ba, oa + (n1 - 1) * 3 + 1, none⟩ = some (.int .i64 at_) := la1
        have CRa := Lib.hid (fun w HH => row_any (some ⟨ba, oa, none⟩) n1 c1 a w HH (by omega))
        have CRb := Lib.hid (fun w HH => row_any (some ⟨bb, ob, none⟩) n2 c2 b w HH (by omega))
        have CRab := Lib.hid (fun A n c w HH hn => row_any A n c (a ++ b) w HH hn)
        have CJa := Lib.hid (fun w HH => join_any (some ⟨ba, oa, none⟩) n1 c1 a w HH (by omega) _ rfl)
        have CJb := Lib.hid (fun w HH => join_any (some ⟨bb, ob, none⟩) n2 c2 b w HH (by omega) _ rfl)
        have CJab := Lib.hid (fun A n c w HH hn => join_any A n c (a ++ b) w HH hn _ rfl)
        dsimp only at hap lb0 lb1
        have hwn : IntKind.i64.wrap ((n1 : Int) - 1) = (n1 : Int) - 1 := IntWalk.i64_in _ (by omega)
        have hwb : 1 < bs_ → IntKind.i64.wrap (bs_ - 1) = bs_ - 1 := fun h => IntWalk.i64_in _ (by have := hi64b.2; dsimp only at this; omega)
        have htn : ((n1 : Int) - 1).toNat = n1 - 1 := by omega
        have hi0 : (0 : Int) ≤ (n1 : Int) - 1 := by omega
        have hi1 : (n1 : Int) - 1 < (n1 : Int) := by omega
        have hi2 : (0 : Int) < (n2 : Int) := by omega
        have la0 := la0'
        have la1 := la1'
        clear la0' la1' hea heb hcra hcrb lb2 la2 hi64
        simp only [Nat.zero_mul, Nat.add_zero] at lb0 lb1
        have HV : Hid ((¬ (1 : Int) < bs_ ∨ as_ ≠ bs_ - 1 ∨ ¬ at_ ≤ bt) → rowN (a ++ b) ≠ 0) := Lib.hid (by
          intro h e
          obtain ⟨e1, e2, e3, e4⟩ := hap.1 e
          have := hlo.out e1
          dsimp only at this
          rcases h with h | h | h
          · omega
          · omega
          · exact h e4)
        have HW : Hid (as_ = bs_ - 1 → at_ ≤ bt → rowN a = 0 → rowN b = 0 → rowN (a ++ b) = 0) := Lib.hid (fun h1 h2 h3 h4 => hap.2 ⟨h3, h4, by omega, h2⟩)
        clear hap
        by_cases hon : (1 : Int) < bs_ ∧ as_ = bs_ - 1 ∧ at_ ≤ bt
        · obtain ⟨h1, h2, h3⟩ := hon
          have hwb' := hwb h1
          have hd2 : (as_ == bs_ - 1) = true := by rw [beq_iff_eq]; exact h2
          have hd1 : decide ((1 : Int) < bs_) = true := decide_eq_true h1
          have hd3 : decide (at_ ≤ bt) = true := decide_eq_true h3
          have HON := Lib.hid (HW.out h2 h3)
          clear HV HW h1 h2 h3 hwb
          go_enter Try.func3, Try.ntmps3
          go_wp2_with fail
          refine C1.mono ?_
          rintro e w1 ⟨rfl, HB⟩
          go_wp2_with fail
          refine (C2.out _ ((hb.below HB).more HB.size)).mono ?_
          rintro e w2 ⟨rfl, hb9⟩
          replace HB := HB.trans (hb9.mono HB.size)
          have M0 : w2.cell? ⟨ba, oa + (n1 - 1) * 3, none⟩ = some (.int .i64 as_) := (HB.cell (p := ⟨ba, oa + (n1 - 1) * 3, none⟩) hba).trans la0
          have M1 : w2.cell? ⟨ba, oa + (n1 - 1) * 3 + 1, none⟩ = some (.int .i64 at_) := (HB.cell (p := ⟨ba, oa + (n1 - 1) * 3 + 1, none⟩) hba).trans la1
          have M2 : w2.cell? ⟨bb, ob, none⟩ = some (.int .i64 bs_) := (HB.cell (p := ⟨bb, ob, none⟩) hbb).trans lb0
          have M3 : w2.cell? ⟨bb, ob + 1, none⟩ = some (.int .i64 bt) := (HB.cell (p := ⟨bb, ob + 1, none⟩) hbb).trans lb1
          clear hb9 la0 la1 lb0 lb1
          go_wp2_with fail
          go_quiet (fail)
          replace HB := HB.drewN_ nq
          have hR : ∀ (w' : World), Below w.heap.size w w' → Below w.heap.size w (w'.alloc (.cells #[] 26)) := fun w' h => h.alloc h.size _
          generalize World.drewN w2 nq = w3 at *
          have z3 := HB.size
          have ra' := (ha.below HB).below ((Below.refl _ _).alloc HB.size (.cells #[] 26))
          have rb' := (hb.below HB).below ((Below.refl _ _).alloc HB.size (.cells #[] 26))
          have HBa := HB.alloc HB.size (.cells #[] 26)
          go_wp2_with (at_builtin; first | (with_reducible refine wp_append El_rec' rfl (s := .tmp 67) (x := .tmp 68) rfl rfl (own_empty _ _ _) rfl ra' (rcells_one _) (by unfold maxLen; omega) (by omega) (by simp) ?_; intro A5 c5 w5 o5 hg5 hat5; simp only [Nat.zero_add, List.nil_append] at o5; have hb5 := below_grown HBa hg5 (own_empty w3 26 3) z3; have hbR := rb'.grown hg5 (by simp; omega) (by intro k hk; simp [blkOf] at hk; omega)) | (with_reducible refine wp_append El_rec' rfl (s := .tmp 69) (x := .tmp 70) rfl rfl o5 rfl hbR (rcells_one _) (by unfold maxLen; omega) (by omega) (by have := hg5.size; simp only [World.size_alloc] at this; omega) ?_; intro A6 c6 w6 o6o hg6 hat6))
          rw [← rcells_append] at o6o
          have HB6 := below_grown hb5 hg6 o5 z3
          have o6 := o6o.rd
          replace HB := HB6
          clear HB6 o6o hg6 hat6 o5 hg5 hat5 hbR hb5 ra' rb' HBa z3 hR M0 M1 M2 M3
          have hn12 : n1 + n2 ≤ 1000000 := by omega
          generalize hja : joinV a = ja at *
          generalize hjb' : joinV b = jb at *
          generalize hjab : joinV (a ++ b) = jab at *
          obtain ⟨ja1, ja2⟩ := ja
          obtain ⟨jb1, jb2⟩ := jb
          obtain ⟨jc1, jc2⟩ := jab
          dsimp only at CJa CJb CJab hjo hjb hj3 hca hcb
          clear hja hjb' hjab
          generalize hra : rowN a = va at *
          generalize hrb : rowN b = vb at *
          generalize hrab : rowN (a ++ b) = vab at *
          have CRa' := CRa
          have CRb' := CRb
          by_cases h1 : va = 0
          · by_cases h2 : vb = 0
            · have hv : vab = 0 := HON.out h1 h2
              subst h1
              subst h2
              subst hv
              have hA := hca.out
              have hBb := hcb.out
              by_cases hc : jc2 = 0
              · obtain ⟨_, _, e3, e4, e5⟩ := hjo.out hc
                simp only [Prod.mk.injEq] at e3 e4 e5
                obtain ⟨rfl, rfl⟩ := e3
                obtain ⟨rfl, rfl⟩ := e4
                obtain ⟨rfl, rfl⟩ := e5
                have hcat : ((flatR a ++ flatR b) == (((⟨(flatR a).toArray⟩ : ByteArray) ++ ⟨(flatR b).toArray⟩).toList)) = true := by rw [str_cat, Lib.toList_data]; simp
                have hl3 : (flatR a).length ≤ 20000 := by
                  rcases hA with ⟨_, _, h⟩ | ⟨h, _⟩
                  · exact h
                  · exact absurd rfl h
                have hl4 : (flatR b).length ≤ 20000 := by
                  rcases hBb with ⟨_, _, h⟩ | ⟨h, _⟩
                  · exact h
                  · exact absurd rfl h
                generalize flatR a = fa at *
                generalize flatR b = fb at *
                clear hA hBb hca hcb hjo hjb hj3
                go_wp2_with fail
                refine (CRa.out _ ((ha.below HB).more HB.size)).mono ?_
                rintro e wA ⟨rfl, hb9⟩
                replace HB := HB.trans (hb9.mono HB.size)
                replace o6 := (o6.below hb9).more hb9.size
                clear hb9
                go_wp2_with fail
                refine (CRb.out _ ((hb.below HB).more HB.size)).mono ?_
                rintro e wB ⟨rfl, hb9⟩
                replace HB := HB.trans (hb9.mono HB.size)
                replace o6 := (o6.below hb9).more hb9.size
                clear hb9
                go_wp2_with fail
                refine (CRab.out A6 (n1 + n2) c6 _ o6 (by omega)).mono ?_
                rintro e wC ⟨rfl, hb9⟩
                replace HB := HB.trans (hb9.mono HB.size)
                replace o6 := (o6.below hb9).more hb9.size
                clear hb9
                go_wp2_with fail
                refine (CJa.out _ ((ha.below HB).more HB.size)).mono ?_
                rintro e wF ⟨rfl, hb9⟩
                replace HB := HB.trans (hb9.mono HB.size)
                replace o6 := (o6.below hb9).more hb9.size
                clear hb9
                go_wp2_with fail
                refine (CJb.out _ ((hb.below HB).more HB.size)).mono ?_
                rintro e wG ⟨rfl, hb9⟩
                replace HB := HB.trans (hb9.mono HB.size)
                replace o6 := (o6.below hb9).more hb9.size
                clear hb9
                go_wp2_with fail
                refine (CJab.out A6 (n1 + n2) c6 _ o6 hn12).mono ?_
                rintro e wH ⟨rfl, hb9⟩
                replace HB := HB.trans (hb9.mono HB.size)
                replace o6 := (o6.below hb9).more hb9.size
                clear hb9
                go_wp2_with fail
                refine (awake_any _).mono ?_
                rintro e wE ⟨rfl, hb9⟩
                replace HB := HB.trans (hb9.mono HB.size)
                replace o6 := (o6.below hb9).more hb9.size
                clear hb9
                go_wp2_with fail
                go_ret
                exact ⟨rfl, HB⟩
              · have hj := hj3.out rfl hc
                subst hj
                by_cases he : ja2 = 0
                · by_cases hf : jb2 = 0
                  · have e1 := hA.resolve_right (fun h => h.1 he)
                    have e2 := hBb.resolve_right (fun h => h.1 hf)
                    have e3 := (hjb.out rfl hc e1.1 e2.1).2
                    have e4 := e1.2.2
                    have e5 := e2.2.2
                    have e6 := congrArg Prod.fst e1.1
                    have e7 := congrArg Prod.fst e2.1
                    dsimp only at e6 e7
                    subst e6
                    subst e7
                    have hw : IntKind.i64.wrap (((flatR a).length : Int) + ((flatR b).length : Int)) = ((flatR a).length : Int) + ((flatR b).length : Int) := IntWalk.i64_in _ (by omega)
                    have e8 : (20000 : Int) < ((flatR a).length : Int) + ((flatR b).length : Int) := by omega
                    subst he
                    subst hf
                    clear hA hBb hca hcb hjo hjb hj3 e1 e2
                    generalize flatR a = fa at *
                    generalize flatR b = fb at *
                    go_wp2_with fail
                    refine (CRa.out _ ((ha.below HB).more HB.size)).mono ?_
                    rintro e wA ⟨rfl, hb9⟩
                    replace HB := HB.trans (hb9.mono HB.size)
                    replace o6 := (o6.below hb9).more hb9.size
                    clear hb9
                    go_wp2_with fail
                    refine (CRb.out _ ((hb.below HB).more HB.size)).mono ?_
                    rintro e wB ⟨rfl, hb9⟩
                    replace HB := HB.trans (hb9.mono HB.size)
                    replace o6 := (o6.below hb9).more hb9.size
                    clear hb9
                    go_wp2_with fail
                    refine (CRab.out A6 (n1 + n2) c6 _ o6 (by omega)).mono ?_
                    rintro e wC ⟨rfl, hb9⟩
                    replace HB := HB.trans (hb9.mono HB.size)
                    replace o6 := (o6.below hb9).more hb9.size
                    clear hb9
                    go_wp2_with fail
                    refine (CJa.out _ ((ha.below HB).more HB.size)).mono ?_
                    rintro e wF ⟨rfl, hb9⟩
                    replace HB := HB.trans (hb9.mono HB.size)
                    replace o6 := (o6.below hb9).more hb9.size
                    clear hb9
                    go_wp2_with fail
                    refine (CJb.out _ ((hb.below HB).more HB.size)).mono ?_
                    rintro e wG ⟨rfl, hb9⟩
                    replace HB := HB.trans (hb9.mono HB.size)
                    replace o6 := (o6.below hb9).more hb9.size
                    clear hb9
                    go_wp2_with fail
                    refine (CJab.out A6 (n1 + n2) c6 _ o6 hn12).mono ?_
                    rintro e wH ⟨rfl, hb9⟩
                    replace HB := HB.trans (hb9.mono HB.size)
                    replace o6 := (o6.below hb9).more hb9.size
                    clear hb9
                    go_wp2_with fail
                    refine (awake_any _).mono ?_
                    rintro e wE ⟨rfl, hb9⟩
                    replace HB := HB.trans (hb9.mono HB.size)
                    replace o6 := (o6.below hb9).more hb9.size
                    clear hb9
                    go_wp2_with fail
                    go_ret
                    exact ⟨rfl, HB⟩
                  · have hfI : (jb2 != 0) = true := by simp [hf]
                    subst he
                    clear hA hBb hca hcb hjo hjb hj3 hf
                    go_wp2_with fail
                    refine (CRa.out _ ((ha.below HB).more HB.size)).mono ?_
                    rintro e wA ⟨rfl, hb9⟩
                    replace HB := HB.trans (hb9.mono HB.size)
                    replace o6 := (o6.below hb9).more hb9.size
                    clear hb9
                    go_wp2_with fail
                    refine (CRb.out _ ((hb.below HB).more HB.size)).mono ?_
                    rintro e wB ⟨rfl, hb9⟩
                    replace HB := HB.trans (hb9.mono HB.size)
                    replace o6 := (o6.below hb9).more hb9.size
                    clear hb9
                    go_wp2_with fail
                    refine (CRab.out A6 (n1 + n2) c6 _ o6 (by omega)).mono ?_
                    rintro e wC ⟨rfl, hb9⟩
                    replace HB := HB.trans (hb9.mono HB.size)
                    replace o6 := (o6.below hb9).more hb9.size
                    clear hb9
                    go_wp2_with fail
                    refine (CJa.out _ ((ha.below HB).more HB.size)).mono ?_
                    rintro e wF ⟨rfl, hb9⟩
                    replace HB := HB.trans (hb9.mono HB.size)
                    replace o6 := (o6.below hb9).more hb9.size
                    clear hb9
                    go_wp2_with fail
                    refine (CJb.out _ ((hb.below HB).more HB.size)).mono ?_
                    rintro e wG ⟨rfl, hb9⟩
                    replace HB := HB.trans (hb9.mono HB.size)
                    replace o6 := (o6.below hb9).more hb9.size
                    clear hb9
                    go_wp2_with fail
                    refine (CJab.out A6 (n1 + n2) c6 _ o6 hn12).mono ?_
                    rintro e wH ⟨rfl, hb9⟩
                    replace HB := HB.trans (hb9.mono HB.size)
                    replace o6 := (o6.below hb9).more hb9.size
                    clear hb9
                    go_wp2_with fail
                    refine (awake_any _).mono ?_
                    rintro e wE ⟨rfl, hb9⟩
                    replace HB := HB.trans (hb9.mono HB.size)
                    replace o6 := (o6.below hb9).more hb9.size
                    clear hb9
                    go_wp2_with fail
                    go_ret
                    exact ⟨rfl, HB⟩
                · have heI : (ja2 != 0) = true := by simp [he]
                  clear hA hBb hca hcb hjo hjb hj3 he
                  go_wp2_with fail
                  refine (CRa.out _ ((ha.below HB).more HB.size)).mono ?_
                  rintro e wA ⟨rfl, hb9⟩
                  replace HB := HB.trans (hb9.mono HB.size)
                  replace o6 := (o6.below hb9).more hb9.size
                  clear hb9
                  go_wp2_with fail
                  refine (CRb.out _ ((hb.below HB).more HB.size)).mono ?_
                  rintro e wB ⟨rfl, hb9⟩
                  replace HB := HB.trans (hb9.mono HB.size)
                  replace o6 := (o6.below hb9).more hb9.size
                  clear hb9
                  go_wp2_with fail
                  refine (CRab.out A6 (n1 + n2) c6 _ o6 (by omega)).mono ?_
                  rintro e wC ⟨rfl, hb9⟩
                  replace HB := HB.trans (hb9.mono HB.size)
                  replace o6 := (o6.below hb9).more hb9.size
                  clear hb9
                  go_wp2_with fail
                  refine (CJa.out _ ((ha.below HB).more HB.size)).mono ?_
                  rintro e wF ⟨rfl, hb9⟩
                  replace HB := HB.trans (hb9.mono HB.size)
                  replace o6 := (o6.below hb9).more hb9.size
                  clear hb9
                  go_wp2_with fail
                  refine (CJb.out _ ((hb.below HB).more HB.size)).mono ?_
                  rintro e wG ⟨rfl, hb9⟩
                  replace HB := HB.trans (hb9.mono HB.size)
                  replace o6 := (o6.below hb9).more hb9.size
                  clear hb9
                  go_wp2_with fail
                  refine (CJab.out A6 (n1 + n2) c6 _ o6 hn12).mono ?_
                  rintro e wH ⟨rfl, hb9⟩
                  replace HB := HB.trans (hb9.mono HB.size)
                  replace o6 := (o6.below hb9).more hb9.size
                  clear hb9
                  go_wp2_with fail
                  refine (awake_any _).mono ?_
                  rintro e wE ⟨rfl, hb9⟩
                  replace HB := HB.trans (hb9.mono HB.size)
                  replace o6 := (o6.below hb9).more hb9.size
                  clear hb9
                  go_wp2_with fail
                  go_ret
                  exact ⟨rfl, HB⟩
            · have hc : jc2 ≠ 0 := fun e => h2 (hjo.out e).2.1
              have hI : (vb == 0) = false := by rw [beq_eq_false_iff_ne]; exact h2
              have hcI : (jc2 == 0) = false := by rw [beq_eq_false_iff_ne]; exact hc
              subst h1
              clear hc h2
              go_wp2_with fail
              refine (CRa.out _ ((ha.below HB).more HB.size)).mono ?_
              rintro e wA ⟨rfl, hb9⟩
              replace HB := HB.trans (hb9.mono HB.size)
              replace o6 := (o6.below hb9).more hb9.size
              clear hb9
              go_wp2_with fail
              refine (CRb.out _ ((hb.below HB).more HB.size)).mono ?_
              rintro e wB ⟨rfl, hb9⟩
              replace HB := HB.trans (hb9.mono HB.size)
              replace o6 := (o6.below hb9).more hb9.size
              clear hb9
              go_wp2_with fail
              refine (CJa.out _ ((ha.below HB).more HB.size)).mono ?_
              rintro e wF ⟨rfl, hb9⟩
              replace HB := HB.trans (hb9.mono HB.size)
              replace o6 := (o6.below hb9).more hb9.size
              clear hb9
              go_wp2_with fail
              refine (CJb.out _ ((hb.below HB).more HB.size)).mono ?_
              rintro e wG ⟨rfl, hb9⟩
              replace HB := HB.trans (hb9.mono HB.size)
              replace o6 := (o6.below hb9).more hb9.size
              clear hb9
              go_wp2_with fail
              refine (CJab.out A6 (n1 + n2) c6 _ o6 hn12).mono ?_
              rintro e wH ⟨rfl, hb9⟩
              replace HB := HB.trans (hb9.mono HB.size)
              replace o6 := (o6.below hb9).more hb9.size
              clear hb9
              go_wp2_with fail
              refine (awake_any _).mono ?_
              rintro e wE ⟨rfl, hb9⟩
              replace HB := HB.trans (hb9.mono HB.size)
              replace o6 := (o6.below hb9).more hb9.size
              clear hb9
              go_wp2_with fail
              go_ret
              exact ⟨rfl, HB⟩
          · have hc : jc2 ≠ 0 := fun e => h1 (hjo.out e).1
            have hI : (va == 0) = false := by rw [beq_eq_false_iff_ne]; exact h1
            have hcI : (jc2 == 0) = false := by rw [beq_eq_false_iff_ne]; exact hc
            clear hc h1
            go_wp2_with fail
            refine (CRa.out _ ((ha.below HB).more HB.size)).mono ?_
            rintro e wA ⟨rfl, hb9⟩
            replace HB := HB.trans (hb9.mono HB.size)
            replace o6 := (o6.below hb9).more hb9.size
            clear hb9
            go_wp2_with fail
            refine (CJa.out _ ((ha.below HB).more HB.size)).mono ?_
            rintro e wF ⟨rfl, hb9⟩
            replace HB := HB.trans (hb9.mono HB.size)
            replace o6 := (o6.below hb9).more hb9.size
            clear hb9
            go_wp2_with fail
            refine (CJb.out _ ((hb.below HB).more HB.size)).mono ?_
            rintro e wG ⟨rfl, hb9⟩
            replace HB := HB.trans (hb9.mono HB.size)
            replace o6 := (o6.below hb9).more hb9.size
            clear hb9
            go_wp2_with fail
            refine (CJab.out A6 (n1 + n2) c6 _ o6 hn12).mono ?_
            rintro e wH ⟨rfl, hb9⟩
            replace HB := HB.trans (hb9.mono HB.size)
            replace o6 := (o6.below hb9).more hb9.size
            clear hb9
            go_wp2_with fail
            refine (awake_any _).mono ?_
            rintro e wE ⟨rfl, hb9⟩
            replace HB := HB.trans (hb9.mono HB.size)
            replace o6 := (o6.below hb9).more hb9.size
            clear hb9
            go_wp2_with fail
            go_ret
            exact ⟨rfl, HB⟩
        · have hoff : ¬ (1 : Int) < bs_ ∨ ((1 : Int) < bs_ ∧ ¬ as_ = bs_ - 1) ∨ ((1 : Int) < bs_ ∧ as_ = bs_ - 1 ∧ ¬ at_ ≤ bt) := by
            by_cases h1 : (1 : Int) < bs_
            · by_cases h2 : as_ = bs_ - 1
              · exact .inr (.inr ⟨h1, h2, fun h3 => hon ⟨h1, h2, h3⟩⟩)
              · exact .inr (.inl ⟨h1, h2⟩)
            · exact .inl h1
          have HOF := Lib.hid (HV.out (by rcases hoff with h | ⟨h, h2⟩ | ⟨h, h2, h3⟩ <;> first | exact .inl h | exact .inr (.inl h2) | exact .inr (.inr h3)))
          clear HV HW hon
          rcases hoff with h1 | ⟨h1, h2⟩ | ⟨h1, h2, h3⟩
          · have hd1 : decide ((1 : Int) < bs_) = false := decide_eq_false h1
            have hd1' : ¬ (1 : Int) < bs_ := h1
            clear h1 hwb
            go_enter Try.func3, Try.ntmps3
            go_wp2_with fail
            refine C1.mono ?_
            rintro e w1 ⟨rfl, HB⟩
            go_wp2_with fail
            refine (C2.out _ ((hb.below HB).more HB.size)).mono ?_
            rintro e w2 ⟨rfl, hb9⟩
            replace HB := HB.trans (hb9.mono HB.size)
            have M0 : w2.cell? ⟨ba, oa + (n1 - 1) * 3, none⟩ = some (.int .i64 as_) := (HB.cell (p := ⟨ba, oa + (n1 - 1) * 3, none⟩) hba).trans la0
            have M1 : w2.cell? ⟨ba, oa + (n1 - 1) * 3 + 1, none⟩ = some (.int .i64 at_) := (HB.cell (p := ⟨ba, oa + (n1 - 1) * 3 + 1, none⟩) hba).trans la1
            have M2 : w2.cell? ⟨bb, ob, none⟩ = some (.int .i64 bs_) := (HB.cell (p := ⟨bb, ob, none⟩) hbb).trans lb0
            have M3 : w2.cell? ⟨bb, ob + 1, none⟩ = some (.int .i64 bt) := (HB.cell (p := ⟨bb, ob + 1, none⟩) hbb).trans lb1
            clear hb9 la0 la1 lb0 lb1
            go_wp2_with fail
            go_quiet (fail)
            replace HB := HB.drewN_ nq
            have hR : ∀ (w' : World), Below w.heap.size w w' → Below w.heap.size w (w'.alloc (.cells #[] 26)) := fun w' h => h.alloc h.size _
            generalize World.drewN w2 nq = w3 at *
            have z3 := HB.size
            have ra' := (ha.below HB).below ((Below.refl _ _).alloc HB.size (.cells #[] 26))
            have rb' := (hb.below HB).below ((Below.refl _ _).alloc HB.size (.cells #[] 26))
            have HBa := HB.alloc HB.size (.cells #[] 26)
            go_wp2_with (at_builtin; first | (with_reducible refine wp_append El_rec' rfl (s := .tmp 67) (x := .tmp 68) rfl rfl (own_empty _ _ _) rfl ra' (rcells_one _) (by unfold maxLen; omega) (by omega) (by simp) ?_; intro A5 c5 w5 o5 hg5 hat5; simp only [Nat.zero_add, List.nil_append] at o5; have hb5 := below_grown HBa hg5 (own_empty w3 26 3) z3; have hbR := rb'.grown hg5 (by simp; omega) (by intro k hk; simp [blkOf] at hk; omega)) | (with_reducible refine wp_append El_rec' rfl (s := .tmp 69) (x := .tmp 70) rfl rfl o5 rfl hbR (rcells_one _) (by unfold maxLen; omega) (by omega) (by have := hg5.size; simp only [World.size_alloc] at this; omega) ?_; intro A6 c6 w6 o6o hg6 hat6))
            rw [← rcells_append] at o6o
            have HB6 := below_grown hb5 hg6 o5 z3
            have o6 := o6o.rd
            replace HB := HB6
            clear HB6 o6o hg6 hat6 o5 hg5 hat5 hbR hb5 ra' rb' HBa z3 hR M0 M1 M2 M3
            have hn12 : n1 + n2 ≤ 1000000 := by omega
            generalize hja : joinV a = ja at *
            generalize hjb' : joinV b = jb at *
            generalize hjab : joinV (a ++ b) = jab at *
            obtain ⟨ja1, ja2⟩ := ja
            obtain ⟨jb1, jb2⟩ := jb
            obtain ⟨jc1, jc2⟩ := jab
            dsimp only at CJa CJb CJab hjo hjb hj3 hca hcb
            clear hja hjb' hjab
            generalize hra : rowN a = va at *
            generalize hrb : rowN b = vb at *
            generalize hrab : rowN (a ++ b) = vab at *
            have CRa' := CRa
            have CRb' := CRb
            by_cases h1 : va = 0
            · by_cases h2 : vb = 0
              · have hv : vab ≠ 0 := HOF.out
                have hvI : (vab == 0) = false := by rw [beq_eq_false_iff_ne]; exact hv
                have hc : jc2 ≠ 0 := by
                  intro e
                  have e1 := (hjo.out e).2.2.2.2
                  rcases hcc.out with ⟨_, e2, _⟩ | ⟨e2, _⟩
                  · exact hv e2
                  · exact e2 e
                have hcI : (jc2 == 0) = false := by rw [beq_eq_false_iff_ne]; exact hc
                subst h1
                subst h2
                clear hc hv
                go_wp2_with fail
                refine (CRa.out _ ((ha.below HB).more HB.size)).mono ?_
                rintro e wA ⟨rfl, hb9⟩
                replace HB := HB.trans (hb9.mono HB.size)
                replace o6 := (o6.below hb9).more hb9.size
                clear hb9
                go_wp2_with fail
                refine (CRb.out _ ((hb.below HB).more HB.size)).mono ?_
                rintro e wB ⟨rfl, hb9⟩
                replace HB := HB.trans (hb9.mono HB.size)
                replace o6 := (o6.below hb9).more hb9.size
                clear hb9
                go_wp2_with fail
                refine (CRab.out A6 (n1 + n2) c6 _ o6 (by omega)).mono ?_
                rintro e wC ⟨rfl, hb9⟩
                replace HB := HB.trans (hb9.mono HB.size)
                replace o6 := (o6.below hb9).more hb9.size
                clear hb9
                go_wp2_with fail
                refine (CJa.out _ ((ha.below HB).more HB.size)).mono ?_
                rintro e wF ⟨rfl, hb9⟩
                replace HB := HB.trans (hb9.mono HB.size)
                replace o6 := (o6.below hb9).more hb9.size
                clear hb9
                go_wp2_with fail
                refine (CJb.out _ ((hb.below HB).more HB.size)).mono ?_
                rintro e wG ⟨rfl, hb9⟩
                replace HB := HB.trans (hb9.mono HB.size)
                replace o6 := (o6.below hb9).more hb9.size
                clear hb9
                go_wp2_with fail
                refine (CJab.out A6 (n1 + n2) c6 _ o6 hn12).mono ?_
                rintro e wH ⟨rfl, hb9⟩
                replace HB := HB.trans (hb9.mono HB.size)
                replace o6 := (o6.below hb9).more hb9.size
                clear hb9
                go_wp2_with fail
                refine (awake_any _).mono ?_
                rintro e wE ⟨rfl, hb9⟩
                replace HB := HB.trans (hb9.mono HB.size)
                replace o6 := (o6.below hb9).more hb9.size
                clear hb9
                go_wp2_with fail
                go_ret
                exact ⟨rfl, HB⟩
              · have hc : jc2 ≠ 0 := fun e => h2 (hjo.out e).2.1
                have hI : (vb == 0) = false := by rw [beq_eq_false_iff_ne]; exact h2
                have hcI : (jc2 == 0) = false := by rw [beq_eq_false_iff_ne]; exact hc
                subst h1
                clear hc h2
                go_wp2_with fail
                refine (CRa.out _ ((ha.below HB).more HB.size)).mono ?_
                rintro e wA ⟨rfl, hb9⟩
                replace HB := HB.trans (hb9.mono HB.size)
                replace o6 := (o6.below hb9).more hb9.size
                clear hb9
                go_wp2_with fail
                refine (CRb.out _ ((hb.below HB).more HB.size)).mono ?_
                rintro e wB ⟨rfl, hb9⟩
                replace HB := HB.trans (hb9.mono HB.size)
                replace o6 := (o6.below hb9).more hb9.size
                clear hb9
                go_wp2_with fail
                refine (CJa.out _ ((ha.below HB).more HB.size)).mono ?_
                rintro e wF ⟨rfl, hb9⟩
                replace HB := HB.trans (hb9.mono HB.size)
                replace o6 := (o6.below hb9).more hb9.size
                clear hb9
                go_wp2_with fail
                refine (CJb.out _ ((hb.below HB).more HB.size)).mono ?_
                rintro e wG ⟨rfl, hb9⟩
                replace HB := HB.trans (hb9.mono HB.size)
                replace o6 := (o6.below hb9).more hb9.size
                clear hb9
                go_wp2_with fail
                refine (CJab.out A6 (n1 + n2) c6 _ o6 hn12).mono ?_
                rintro e wH ⟨rfl, hb9⟩
                replace HB := HB.trans (hb9.mono HB.size)
                replace o6 := (o6.below hb9).more hb9.size
                clear hb9
                go_wp2_with fail
                refine (awake_any _).mono ?_
                rintro e wE ⟨rfl, hb9⟩
                replace HB := HB.trans (hb9.mono HB.size)
                replace o6 := (o6.below hb9).more hb9.size
                clear hb9
                go_wp2_with fail
                go_ret
                exact ⟨rfl, HB⟩
            · have hc : jc2 ≠ 0 := fun e => h1 (hjo.out e).1
              have hI : (va == 0) = false := by rw [beq_eq_false_iff_ne]; exact h1
              have hcI : (jc2 == 0) = false := by rw [beq_eq_false_iff_ne]; exact hc
              clear hc h1
              go_wp2_with fail
              refine (CRa.out _ ((ha.below HB).more HB.size)).mono ?_
              rintro e wA ⟨rfl, hb9⟩
              replace HB := HB.trans (hb9.mono HB.size)
              replace o6 := (o6.below hb9).more hb9.size
              clear hb9
              go_wp2_with fail
              refine (CJa.out _ ((ha.below HB).more HB.size)).mono ?_
              rintro e wF ⟨rfl, hb9⟩
              replace HB := HB.trans (hb9.mono HB.size)
              replace o6 := (o6.below hb9).more hb9.size
              clear hb9
              go_wp2_with fail
              refine (CJb.out _ ((hb.below HB).more HB.size)).mono ?_
              rintro e wG ⟨rfl, hb9⟩
              replace HB := HB.trans (hb9.mono HB.size)
              replace o6 := (o6.below hb9).more hb9.size
              clear hb9
              go_wp2_with fail
              refine (CJab.out A6 (n1 + n2) c6 _ o6 hn12).mono ?_
              rintro e wH ⟨rfl, hb9⟩
              replace HB := HB.trans (hb9.mono HB.size)
              replace o6 := (o6.below hb9).more hb9.size
              clear hb9
              go_wp2_with fail
              refine (awake_any _).mono ?_
              rintro e wE ⟨rfl, hb9⟩
              replace HB := HB.trans (hb9.mono HB.size)
              replace o6 := (o6.below hb9).more hb9.size
              clear hb9
              go_wp2_with fail
              go_ret
              exact ⟨rfl, HB⟩
          · have hwb' := hwb h1
            have hd2 : (as_ == bs_ - 1) = false := by rw [beq_eq_false_iff_ne]; exact h2
            have hd1 : decide ((1 : Int) < bs_) = true := decide_eq_true h1
            clear h1 hwb
            go_enter Try.func3, Try.ntmps3
            go_wp2_with fail
            refine C1.mono ?_
            rintro e w1 ⟨rfl, HB⟩
            go_wp2_with fail
            refine (C2.out _ ((hb.below HB).more HB.size)).mono ?_
            rintro e w2 ⟨rfl, hb9⟩
            replace HB := HB.trans (hb9.mono HB.size)
            have M0 : w2.cell? ⟨ba, oa + (n1 - 1) * 3, none⟩ = some (.int .i64 as_) := (HB.cell (p := ⟨ba, oa + (n1 - 1) * 3, none⟩) hba).trans la0
            have M1 : w2.cell? ⟨ba, oa + (n1 - 1) * 3 + 1, none⟩ = some (.int .i64 at_) := (HB.cell (p := ⟨ba, oa + (n1 - 1) * 3 + 1, none⟩) hba).trans la1
            have M2 : w2.cell? ⟨bb, ob, none⟩ = some (.int .i64 bs_) := (HB.cell (p := ⟨bb, ob, none⟩) hbb).trans lb0
            have M3 : w2.cell? ⟨bb, ob + 1, none⟩ = some (.int .i64 bt) := (HB.cell (p := ⟨bb, ob + 1, none⟩) hbb).trans lb1
            clear hb9 la0 la1 lb0 lb1
            go_wp2_with fail
            go_quiet (fail)
            replace HB := HB.drewN_ nq
            have hR : ∀ (w' : World), Below w.heap.size w w' → Below w.heap.size w (w'.alloc (.cells #[] 26)) := fun w' h => h.alloc h.size _
            generalize World.drewN w2 nq = w3 at *
            have z3 := HB.size
            have ra' := (ha.below HB).below ((Below.refl _ _).alloc HB.size (.cells #[] 26))
            have rb' := (hb.below HB).below ((Below.refl _ _).alloc HB.size (.cells #[] 26))
            have HBa := HB.alloc HB.size (.cells #[] 26)
            go_wp2_with (at_builtin; first | (with_reducible refine wp_append El_rec' rfl (s := .tmp 67) (x := .tmp 68) rfl rfl (own_empty _ _ _) rfl ra' (rcells_one _) (by unfold maxLen; omega) (by omega) (by simp) ?_; intro A5 c5 w5 o5 hg5 hat5; simp only [Nat.zero_add, List.nil_append] at o5; have hb5 := below_grown HBa hg5 (own_empty w3 26 3) z3; have hbR := rb'.grown hg5 (by simp; omega) (by intro k hk; simp [blkOf] at hk; omega)) | (with_reducible refine wp_append El_rec' rfl (s := .tmp 69) (x := .tmp 70) rfl rfl o5 rfl hbR (rcells_one _) (by unfold maxLen; omega) (by omega) (by have := hg5.size; simp only [World.size_alloc] at this; omega) ?_; intro A6 c6 w6 o6o hg6 hat6))
            rw [← rcells_append] at o6o
            have HB6 := below_grown hb5 hg6 o5 z3
            have o6 := o6o.rd
            replace HB := HB6
            clear HB6 o6o hg6 hat6 o5 hg5 hat5 hbR hb5 ra' rb' HBa z3 hR M0 M1 M2 M3
            have hn12 : n1 + n2 ≤ 1000000 := by omega
            generalize hja : joinV a = ja at *
            generalize hjb' : joinV b = jb at *
            generalize hjab : joinV (a ++ b) = jab at *
            obtain ⟨ja1, ja2⟩ := ja
            obtain ⟨jb1, jb2⟩ := jb
            obtain ⟨jc1, jc2⟩ := jab
            dsimp only at CJa CJb CJab hjo hjb hj3 hca hcb
            clear hja hjb' hjab
            generalize hra : rowN a = va at *
            generalize hrb : rowN b = vb at *
            generalize hrab : rowN (a ++ b) = vab at *
            have CRa' := CRa
            have CRb' := CRb
            by_cases h1 : va = 0
            · by_cases h2 : vb = 0
              · have hv : vab ≠ 0 := HOF.out
                have hvI : (vab == 0) = false := by rw [beq_eq_false_iff_ne]; exact hv
                have hc : jc2 ≠ 0 := by
                  intro e
                  have e1 := (hjo.out e).2.2.2.2
                  rcases hcc.out with ⟨_, e2, _⟩ | ⟨e2, _⟩
                  · exact hv e2
                  · exact e2 e
                have hcI : (jc2 == 0) = false := by rw [beq_eq_false_iff_ne]; exact hc
                subst h1
                subst h2
                clear hc hv
                go_wp2_with fail
                refine (CRa.out _ ((ha.below HB).more HB.size)).mono ?_
                rintro e wA ⟨rfl, hb9⟩
                replace HB := HB.trans (hb9.mono HB.size)
                replace o6 := (o6.below hb9).more hb9.size
                clear hb9
                go_wp2_with fail
                refine (CRb.out _ ((hb.below HB).more HB.size)).mono ?_
                rintro e wB ⟨rfl, hb9⟩
                replace HB := HB.trans (hb9.mono HB.size)
                replace o6 := (o6.below hb9).more hb9.size
                clear hb9
                go_wp2_with fail
                refine (CRab.out A6 (n1 + n2) c6 _ o6 (by omega)).mono ?_
                rintro e wC ⟨rfl, hb9⟩
                replace HB := HB.trans (hb9.mono HB.size)
                replace o6 := (o6.below hb9).more hb9.size
                clear hb9
                go_wp2_with fail
                refine (CJa.out _ ((ha.below HB).more HB.size)).mono ?_
                rintro e wF ⟨rfl, hb9⟩
                replace HB := HB.trans (hb9.mono HB.size)
                replace o6 := (o6.below hb9).more hb9.size
                clear hb9
                go_wp2_with fail
                refine (CJb.out _ ((hb.below HB).more HB.size)).mono ?_
                rintro e wG ⟨rfl, hb9⟩
                replace HB := HB.trans (hb9.mono HB.size)
                replace o6 := (o6.below hb9).more hb9.size
                clear hb9
                go_wp2_with fail
                refine (CJab.out A6 (n1 + n2) c6 _ o6 hn12).mono ?_
                rintro e wH ⟨rfl, hb9⟩
                replace HB := HB.trans (hb9.mono HB.size)
                replace o6 := (o6.below hb9).more hb9.size
                clear hb9
                go_wp2_with fail
                refine (awake_any _).mono ?_
                rintro e wE ⟨rfl, hb9⟩
                replace HB := HB.trans (hb9.mono HB.size)
                replace o6 := (o6.below hb9).more hb9.size
                clear hb9
                go_wp2_with fail
                go_ret
                exact ⟨rfl, HB⟩
              · have hc : jc2 ≠ 0 := fun e => h2 (hjo.out e).2.1
                have hI : (vb == 0) = false := by rw [beq_eq_false_iff_ne]; exact h2
                have hcI : (jc2 == 0) = false := by rw [beq_eq_false_iff_ne]; exact hc
                subst h1
                clear hc h2
                go_wp2_with fail
                refine (CRa.out _ ((ha.below HB).more HB.size)).mono ?_
                rintro e wA ⟨rfl, hb9⟩
                replace HB := HB.trans (hb9.mono HB.size)
                replace o6 := (o6.below hb9).more hb9.size
                clear hb9
                go_wp2_with fail
                refine (CRb.out _ ((hb.below HB).more HB.size)).mono ?_
                rintro e wB ⟨rfl, hb9⟩
                replace HB := HB.trans (hb9.mono HB.size)
                replace o6 := (o6.below hb9).more hb9.size
                clear hb9
                go_wp2_with fail
                refine (CJa.out _ ((ha.below HB).more HB.size)).mono ?_
                rintro e wF ⟨rfl, hb9⟩
                replace HB := HB.trans (hb9.mono HB.size)
                replace o6 := (o6.below hb9).more hb9.size
                clear hb9
                go_wp2_with fail
                refine (CJb.out _ ((hb.below HB).more HB.size)).mono ?_
                rintro e wG ⟨rfl, hb9⟩
                replace HB := HB.trans (hb9.mono HB.size)
                replace o6 := (o6.below hb9).more hb9.size
                clear hb9
                go_wp2_with fail
                refine (CJab.out A6 (n1 + n2) c6 _ o6 hn12).mono ?_
                rintro e wH ⟨rfl, hb9⟩
                replace HB := HB.trans (hb9.mono HB.size)
                replace o6 := (o6.below hb9).more hb9.size
                clear hb9
                go_wp2_with fail
                refine (awake_any _).mono ?_
                rintro e wE ⟨rfl, hb9⟩
                replace HB := HB.trans (hb9.mono HB.size)
                replace o6 := (o6.below hb9).more hb9.size
                clear hb9
                go_wp2_with fail
                go_ret
                exact ⟨rfl, HB⟩
            · have hc : jc2 ≠ 0 := fun e => h1 (hjo.out e).1
              have hI : (va == 0) = false := by rw [beq_eq_false_iff_ne]; exact h1
              have hcI : (jc2 == 0) = false := by rw [beq_eq_false_iff_ne]; exact hc
              clear hc h1
              go_wp2_with fail
              refine (CRa.out _ ((ha.below HB).more HB.size)).mono ?_
              rintro e wA ⟨rfl, hb9⟩
              replace HB := HB.trans (hb9.mono HB.size)
              replace o6 := (o6.below hb9).more hb9.size
              clear hb9
              go_wp2_with fail
              refine (CJa.out _ ((ha.below HB).more HB.size)).mono ?_
              rintro e wF ⟨rfl, hb9⟩
              replace HB := HB.trans (hb9.mono HB.size)
              replace o6 := (o6.below hb9).more hb9.size
              clear hb9
              go_wp2_with fail
              refine (CJb.out _ ((hb.below HB).more HB.size)).mono ?_
              rintro e wG ⟨rfl, hb9⟩
              replace HB := HB.trans (hb9.mono HB.size)
              replace o6 := (o6.below hb9).more hb9.size
              clear hb9
              go_wp2_with fail
              refine (CJab.out A6 (n1 + n2) c6 _ o6 hn12).mono ?_
              rintro e wH ⟨rfl, hb9⟩
              replace HB := HB.trans (hb9.mono HB.size)
              replace o6 := (o6.below hb9).more hb9.size
              clear hb9
              go_wp2_with fail
              refine (awake_any _).mono ?_
              rintro e wE ⟨rfl, hb9⟩
              replace HB := HB.trans (hb9.mono HB.size)
              replace o6 := (o6.below hb9).more hb9.size
              clear hb9
              go_wp2_with fail
              go_ret
              exact ⟨rfl, HB⟩
          · have hwb' := hwb h1
            have hd2 : (as_ == bs_ - 1) = true := by rw [beq_iff_eq]; exact h2
            have hd1 : decide ((1 : Int) < bs_) = true := decide_eq_true h1
            have hd3 : decide (at_ ≤ bt) = false := decide_eq_false h3
            clear h1 hwb
            go_enter Try.func3, Try.ntmps3
            go_wp2_with fail
            refine C1.mono ?_
            rintro e w1 ⟨rfl, HB⟩
            go_wp2_with fail
            refine (C2.out _ ((hb.below HB).more HB.size)).mono ?_
            rintro e w2 ⟨rfl, hb9⟩
            replace HB := HB.trans (hb9.mono HB.size)
            have M0 : w2.cell? ⟨ba, oa + (n1 - 1) * 3, none⟩ = some (.int .i64 as_) := (HB.cell (p := ⟨ba, oa + (n1 - 1) * 3, none⟩) hba).trans la0
            have M1 : w2.cell? ⟨ba, oa + (n1 - 1) * 3 + 1, none⟩ = some (.int .i64 at_) := (HB.cell (p := ⟨ba, oa + (n1 - 1) * 3 + 1, none⟩) hba).trans la1
            have M2 : w2.cell? ⟨bb, ob, none⟩ = some (.int .i64 bs_) := (HB.cell (p := ⟨bb, ob, none⟩) hbb).trans lb0
            have M3 : w2.cell? ⟨bb, ob + 1, none⟩ = some (.int .i64 bt) := (HB.cell (p := ⟨bb, ob + 1, none⟩) hbb).trans lb1
            clear hb9 la0 la1 lb0 lb1
            go_wp2_with fail
            go_quiet (fail)
            replace HB := HB.drewN_ nq
            have hR : ∀ (w' : World), Below w.heap.size w w' → Below w.heap.size w (w'.alloc (.cells #[] 26)) := fun w' h => h.alloc h.size _
            generalize World.drewN w2 nq = w3 at *
            have z3 := HB.size
            have ra' := (ha.below HB).below ((Below.refl _ _).alloc HB.size (.cells #[] 26))
            have rb' := (hb.below HB).below ((Below.refl _ _).alloc HB.size (.cells #[] 26))
            have HBa := HB.alloc HB.size (.cells #[] 26)
            go_wp2_with (at_builtin; first | (with_reducible refine wp_append El_rec' rfl (s := .tmp 67) (x := .tmp 68) rfl rfl (own_empty _ _ _) rfl ra' (rcells_one _) (by unfold maxLen; omega) (by omega) (by simp) ?_; intro A5 c5 w5 o5 hg5 hat5; simp only [Nat.zero_add, List.nil_append] at o5; have hb5 := below_grown HBa hg5 (own_empty w3 26 3) z3; have hbR := rb'.grown hg5 (by simp; omega) (by intro k hk; simp [blkOf] at hk; omega)) | (with_reducible refine wp_append El_rec' rfl (s := .tmp 69) (x := .tmp 70) rfl rfl o5 rfl hbR (rcells_one _) (by unfold maxLen; omega) (by omega) (by have := hg5.size; simp only [World.size_alloc] at this; omega) ?_; intro A6 c6 w6 o6o hg6 hat6))
            rw [← rcells_append] at o6o
            have HB6 := below_grown hb5 hg6 o5 z3
            have o6 := o6o.rd
            replace HB := HB6
            clear HB6 o6o hg6 hat6 o5 hg5 hat5 hbR hb5 ra' rb' HBa z3 hR M0 M1 M2 M3
            have hn12 : n1 + n2 ≤ 1000000 := by omega
            generalize hja : joinV a = ja at *
            generalize hjb' : joinV b = jb at *
            generalize hjab : joinV (a ++ b) = jab at *
            obtain ⟨ja1, ja2⟩ := ja
            obtain ⟨jb1, jb2⟩ := jb
            obtain ⟨jc1, jc2⟩ := jab
            dsimp only at CJa CJb CJab hjo hjb hj3 hca hcb
            clear hja hjb' hjab
            generalize hra : rowN a = va at *
            generalize hrb : rowN b = vb at *
            generalize hrab : rowN (a ++ b) = vab at *
            have CRa' := CRa
            have CRb' := CRb
            by_cases h1 : va = 0
            · by_cases h2 : vb = 0
              · have hv : vab ≠ 0 := HOF.out
                have hvI : (vab == 0) = false := by rw [beq_eq_false_iff_ne]; exact hv
                have hc : jc2 ≠ 0 := by
                  intro e
                  have e1 := (hjo.out e).2.2.2.2
                  rcases hcc.out with ⟨_, e2, _⟩ | ⟨e2, _⟩
                  · exact hv e2
                  · exact e2 e
                have hcI : (jc2 == 0) = false := by rw [beq_eq_false_iff_ne]; exact hc
                subst h1
                subst h2
                clear hc hv
                go_wp2_with fail
                refine (CRa.out _ ((ha.below HB).more HB.size)).mono ?_
                rintro e wA ⟨rfl, hb9⟩
                replace HB := HB.trans (hb9.mono HB.size)
                replace o6 := (o6.below hb9).more hb9.size
                clear hb9
                go_wp2_with fail
                refine (CRb.out _ ((hb.below HB).more HB.size)).mono ?_
                rintro e wB ⟨rfl, hb9⟩
                replace HB := HB.trans (hb9.mono HB.size)
                replace o6 := (o6.below hb9).more hb9.size
                clear hb9
                go_wp2_with fail
                refine (CRab.out A6 (n1 + n2) c6 _ o6 (by omega)).mono ?_
                rintro e wC ⟨rfl, hb9⟩
                replace HB := HB.trans (hb9.mono HB.size)
                replace o6 := (o6.below hb9).more hb9.size
                clear hb9
                go_wp2_with fail
                refine (CJa.out _ ((ha.below HB).more HB.size)).mono ?_
                rintro e wF ⟨rfl, hb9⟩
                replace HB := HB.trans (hb9.mono HB.size)
                replace o6 := (o6.below hb9).more hb9.size
                clear hb9
                go_wp2_with fail
                refine (CJb.out _ ((hb.below HB).more HB.size)).mono ?_
                rintro e wG ⟨rfl, hb9⟩
                replace HB := HB.trans (hb9.mono HB.size)
                replace o6 := (o6.below hb9).more hb9.size
                clear hb9
                go_wp2_with fail
                refine (CJab.out A6 (n1 + n2) c6 _ o6 hn12).mono ?_
                rintro e wH ⟨rfl, hb9⟩
                replace HB := HB.trans (hb9.mono HB.size)
                replace o6 := (o6.below hb9).more hb9.size
                clear hb9
                go_wp2_with fail
                refine (awake_any _).mono ?_
                rintro e wE ⟨rfl, hb9⟩
                replace HB := HB.trans (hb9.mono HB.size)
                replace o6 := (o6.below hb9).more hb9.size
                clear hb9
                go_wp2_with fail
                go_ret
                exact ⟨rfl, HB⟩
              · have hc : jc2 ≠ 0 := fun e => h2 (hjo.out e).2.1
                have hI : (vb == 0) = false := by rw [beq_eq_false_iff_ne]; exact h2
                have hcI : (jc2 == 0) = false := by rw [beq_eq_false_iff_ne]; exact hc
                subst h1
                clear hc h2
                go_wp2_with fail
                refine (CRa.out _ ((ha.below HB).more HB.size)).mono ?_
                rintro e wA ⟨rfl, hb9⟩
                replace HB := HB.trans (hb9.mono HB.size)
                replace o6 := (o6.below hb9).more hb9.size
                clear hb9
                go_wp2_with fail
                refine (CRb.out _ ((hb.below HB).more HB.size)).mono ?_
                rintro e wB ⟨rfl, hb9⟩
                replace HB := HB.trans (hb9.mono HB.size)
                replace o6 := (o6.below hb9).more hb9.size
                clear hb9
                go_wp2_with fail
                refine (CJa.out _ ((ha.below HB).more HB.size)).mono ?_
                rintro e wF ⟨rfl, hb9⟩
                replace HB := HB.trans (hb9.mono HB.size)
                replace o6 := (o6.below hb9).more hb9.size
                clear hb9
                go_wp2_with fail
                refine (CJb.out _ ((hb.below HB).more HB.size)).mono ?_
                rintro e wG ⟨rfl, hb9⟩
                replace HB := HB.trans (hb9.mono HB.size)
                replace o6 := (o6.below hb9).more hb9.size
                clear hb9
                go_wp2_with fail
                refine (CJab.out A6 (n1 + n2) c6 _ o6 hn12).mono ?_
                rintro e wH ⟨rfl, hb9⟩
                replace HB := HB.trans (hb9.mono HB.size)
                replace o6 := (o6.below hb9).more hb9.size
                clear hb9
                go_wp2_with fail
                refine (awake_any _).mono ?_
                rintro e wE ⟨rfl, hb9⟩
                replace HB := HB.trans (hb9.mono HB.size)
                replace o6 := (o6.below hb9).more hb9.size
                clear hb9
                go_wp2_with fail
                go_ret
                exact ⟨rfl, HB⟩
            · have hc : jc2 ≠ 0 := fun e => h1 (hjo.out e).1
              have hI : (va == 0) = false := by rw [beq_eq_false_iff_ne]; exact h1
              have hcI : (jc2 == 0) = false := by rw [beq_eq_false_iff_ne]; exact hc
              clear hc h1
              go_wp2_with fail
              refine (CRa.out _ ((ha.below HB).more HB.size)).mono ?_
              rintro e wA ⟨rfl, hb9⟩
              replace HB := HB.trans (hb9.mono HB.size)
              replace o6 := (o6.below hb9).more hb9.size
              clear hb9
              go_wp2_with fail
              refine (CJa.out _ ((ha.below HB).more HB.size)).mono ?_
              rintro e wF ⟨rfl, hb9⟩
              replace HB := HB.trans (hb9.mono HB.size)
              replace o6 := (o6.below hb9).more hb9.size
              clear hb9
              go_wp2_with fail
              refine (CJb.out _ ((hb.below HB).more HB.size)).mono ?_
              rintro e wG ⟨rfl, hb9⟩
              replace HB := HB.trans (hb9.mono HB.size)
              replace o6 := (o6.below hb9).more hb9.size
              clear hb9
              go_wp2_with fail
              refine (CJab.out A6 (n1 + n2) c6 _ o6 hn12).mono ?_
              rintro e wH ⟨rfl, hb9⟩
              replace HB := HB.trans (hb9.mono HB.size)
              replace o6 := (o6.below hb9).more hb9.size
              clear hb9
              go_wp2_with fail
              refine (awake_any _).mono ?_
              rintro e wE ⟨rfl, hb9⟩
              replace HB := HB.trans (hb9.mono HB.size)
              replace o6 := (o6.below hb9).more hb9.size
              clear hb9
              go_wp2_with fail
              go_ret
              exact ⟨rfl, HB⟩
    · have C2 := Lib.hid (fun w HH => HF2.out false (by simpa using hf2) w HH)
      clear HF1 HF2 hf1 hf2
      go_enter Try.func3, Try.ntmps3
      go_wp2_with fail
      refine C1.mono ?_
      rintro e w1 ⟨rfl, HB⟩
      go_wp2_with fail
      refine (C2.out _ ((hb.below HB).more HB.size)).mono ?_
      rintro e w2 ⟨rfl, hb9⟩
      replace HB := HB.trans (hb9.mono HB.size)
      go_wp2_with fail
      refine (awake_any _).mono ?_
      rintro e w3 ⟨rfl, hb9⟩
      go_wp2_with fail
      go_ret
      exact ⟨rfl, HB.trans (hb9.mono HB.size)⟩
  · have C1 := HF1.out false (by simpa using hf1)
    clear HF1 HF2 hf1
    go_enter Try.func3, Try.ntmps3
    go_wp2_with fail
    refine C1.mono ?_
    rintro e w1 ⟨rfl, HB⟩
    go_wp2_with fail
    refine (awake_any _).mono ?_
    rintro e w3 ⟨rfl, hb9⟩
    go_wp2_with fail
    go_ret
    exact ⟨rfl, HB.trans (hb9.mono HB.size)⟩
end RecW
end Go.Proofs.Ytnghmcadhjneeaa
