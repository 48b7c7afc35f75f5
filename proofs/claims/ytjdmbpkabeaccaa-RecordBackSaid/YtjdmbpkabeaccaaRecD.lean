/- The law of package record on the way back: its walk. -/
import Derived.Test.YtjdmbpkabeaccaaRecC
import Derived.Test.YtjdmbpkabeaccaaRecQ
namespace Go.Proofs.Ytjdmbpkabeaccaa
set_option linter.unusedVariables false
set_option linter.unusedSimpArgs false
set_option linter.unnecessarySimpa false
open Go.RowKit Go.ChangeShapes Go.WideShapes Go.Deep
namespace RecW

theorem few_one' (r : Rc) (b : Bool) (h : decide (r.2.2.length ≤ 3000) = b) : fewB [r] = b := by
  subst h
  simp [fewB]
theorem before_cat (p m : List UInt8) : ((⟨#[98, 101, 102, 111, 114, 101]⟩ : ByteArray) ++ ⟨p.toArray⟩ ++ ⟨m.toArray⟩) = ⟨([98, 101, 102, 111, 114, 101] ++ (p ++ m)).toArray⟩ := by
  rw [ba_cat, ba_cat]
  simp

set_option maxRecDepth 100000 in
set_option maxHeartbeats 8000000 in
theorem back_law (a b : Int) (d : ByteArray) (A : Option Addr) (n c : Nat) (l : List Rc) (s : ByteArray) (w : World) (hd : d.size ≤ maxLen) (h : Rd w w.heap.size 3 A n (rcells l)) (hok : ∀ x ∈ l, RcOk x) (hn : n ≤ maxLen) (hs : s.size ≤ maxLen) :
    Calls Try.prog 14 #[.agg #[.int .i64 a, .int .i64 b, .string d], .slice A n c, .string s] w fun e w' => e = .returned (.bool true) ∧ Below w.heap.size w w' := by
  obtain ⟨d, rfl, hdl⟩ := str_of d
  obtain ⟨m, rfl, hml⟩ := str_of s
  rw [← hdl] at hd
  rw [← hml] at hs
  clear hdl hml
  unfold maxLen at hd hs hn
  have b1 := Blk.new w 72 #[.int .i64 a, .int .i64 b, str d]
  have HB : Below w.heap.size w (w.alloc (.cells #[.int .i64 a, .int .i64 b, str d] 72)) := (by first | exact Below.refl _ _ | (repeat (first | exact Below.refl _ _ | assumption | refine Below.drew ?_ | refine Below.drewN_ ?_ _ | refine Below.alloc ?_ (by first | exact Nat.le_refl _ | (simp; done) | (simp; omega) | omega) _ | refine Below.setCell ?_ (by first | exact Nat.le_refl _ | (simp; done) | (simp; omega) | omega) _ | (refine Below.trans ?_ (Below.mono (by assumption) (by first | exact Nat.le_refl _ | (simp; done) | (simp; omega) | omega))))))
  have rr := (rd_new (W0 := w.alloc (.cells #[.int .i64 a, .int .i64 b, str d] 72)) (t := 72) (cs := rcells [(a, b, d)]) (size := 3) (m := 1) rfl rfl)
  have CF := fun v hv => few_any (some ⟨w.heap.size + 1, 0, none⟩) 1 1 [(a, b, d)] v hv ((w.alloc (.cells #[.int .i64 a, .int .i64 b, str d] 72)).alloc (.cells #[.int .i64 a, .int .i64 b, str d] 72)) (by rw [World.size_alloc] at rr; exact rr.more (by simp)) (by omega) (by intro r hr; simp at hr; subst hr; exact hd)
  have b1a := b1.alloc (.cells #[.int .i64 a, .int .i64 b, str d] 72)
  have HBa := HB.alloc HB.size (.cells #[.int .i64 a, .int .i64 b, str d] 72)
  have CG := fun v hv w HH => few_any A n c l v hv w HH (by omega) (fun r hr => by have := (hok r hr).2.2; unfold maxLen at this; omega)
  have HF := Lib.hid CF
  have HG := Lib.hid CG
  have hl := rd_rlen h
  clear CF rr b1 HB CG hok
  by_cases hf : d.length ≤ 3000
  · have C1 := HF.out true (few_one' _ _ (decide_eq_true hf))
    by_cases hfl : fewB l = true
    · have hlen := few_len hfl
      have C2 := fun w HH => HG.out true hfl w HH
      have H2 := Lib.hid C2
      by_cases hm : 5000 < m.length
      · have hmI : (5000 : Int) < (m.length : Int) := by omega
        clear HF HG C2 hfl
        go_enter Try.func14, Try.ntmps14
        go_wp2_with fail
        refine C1.mono ?_
        rintro e w1 ⟨rfl, hb1⟩
        replace HBa := HBa.trans (hb1.mono HBa.size)
        go_wp2_with fail
        refine (H2.out _ ((h.below HBa).more HBa.size)).mono ?_
        rintro e w2 ⟨rfl, hb2⟩
        replace HBa := HBa.trans (hb2.mono HBa.size)
        go_wp2_with fail
        refine (awake_any _).mono ?_
        rintro e w3 ⟨rfl, hb3⟩
        go_wp2_with fail
        go_ret
        exact ⟨rfl, HBa.trans (hb3.mono HBa.size)⟩
      · have hmI : ¬ (5000 : Int) < (m.length : Int) := by omega
        have hln : n ≤ 200 := by omega
        have CP := fun w => putR_any (a, b, d) w
        have CS := fun w => size_any (a, b, d) w
        rw [sizeN_put] at CS
        have CJ := fun w HH => join_any A n c l w HH (by omega) _ rfl
        have CT := fun w => split_any m w (by omega) _ rfl
        have hsl := splitV_len m
        have HPP : Hid (chkR (a, b, d) = 0 ∧ (∀ t, getR ([98, 101, 102, 111, 114, 101] ++ (putRN (a, b, d) ++ t)) 6 = ((a, b, d), (6 : Int) + (putRN (a, b, d)).length, 0)) ∨ chkR (a, b, d) ≠ 0) := by
          by_cases hok : okR (a, b, d) = true
          · left
            refine ⟨chkR_yes hok, fun t => ?_⟩
            have e : putRN (a, b, d) = putR (a, b, d) := by unfold putRN; rw [if_pos hok]
            rw [e]
            have := getR_put [98, 101, 102, 111, 114, 101] t (a, b, d) hok
            rw [show ((([98, 101, 102, 111, 114, 101] : List UInt8).length : Nat) : Int) = 6 from rfl] at this
            rw [this]
            refine Prod.ext rfl (Prod.ext ?_ rfl)
            show ((6 + (putR (a, b, d)).length : Nat) : Int) = (6 : Int) + ((putR (a, b, d)).length : Int)
            omega
          · right
            rw [chkR_no (by simpa using hok)]
            omega
        have hpl : (putRN (a, b, d)).length ≤ 2027 := by rw [← sizeN_put]; exact sizeN_le _
        have HJJ := Lib.hid (joinV_cases l)
        have HSJ : Hid ((joinV l).2 = 0 → splitV (joinV l).1 = (l, 0)) := Lib.hid split_join
        have HJS : Hid ((splitV m).2 = 0 → joinV (splitV m).1 = (m, 0)) := Lib.hid join_split
        have HSB : Hid ((splitV m).2 ≠ 0 → (splitV m).1 = []) := Lib.hid split_bad
        have hjl : (joinV l).1.length ≤ 20000 := by
          rcases HJJ.out with ⟨h1, _, h2⟩ | ⟨_, h1⟩
          · rw [h1]; exact h2
          · rw [h1]; simp
        have HPT := Lib.hid hpl
        generalize putRN (a, b, d) = pn at *
        generalize chkR (a, b, d) = ck at *
        generalize joinV l = jv at *
        generalize hsv : splitV m = sv at *
        obtain ⟨jb, je⟩ := jv
        obtain ⟨sr, se⟩ := sv
        dsimp only at hsl hjl HSJ HJS HSB CJ CT
        have H3 := Lib.hid CP
        have H4 := Lib.hid CS
        have H5 := Lib.hid CJ
        have H6 := Lib.hid CT
        clear CP CS CJ CT HF HG C2 hfl HJJ hsv hpl
        have hw6 : IntKind.i64.wrap ((6 : Int) + (pn.length : Int)) = (6 : Int) + (pn.length : Int) := IntWalk.i64_in _ (by have := HPT.out; omega)
        have HW6 := Lib.hid hw6
        clear hw6
        go_enter Try.func14, Try.ntmps14
        go_wp2_with fail
        refine C1.mono ?_
        rintro e w1 ⟨rfl, hb1⟩
        have g1 := b1a.below hb1 b1a.lt
        have HB := HBa.trans (hb1.mono HBa.size)
        clear hb1 b1a HBa C1
        go_wp2_with fail
        refine (H2.out _ ((h.below HB).more HB.size)).mono ?_
        rintro e w2 ⟨rfl, hb2⟩
        replace g1 := g1.below hb2 g1.lt
        replace HB := HB.trans (hb2.mono HB.size)
        clear hb2
        have g1' := g1
        obtain ⟨k0, k1, k2, _, _, _, _⟩ := blk3 g1'
        clear g1'
        go_wp2_with fail
        rcases HPP.out with hck | hck
        · have HGP := Lib.hid hck.2
          replace hck := hck.1
          subst hck
          refine (H3.out _).mono ?_
          rintro e w3 ⟨rfl, hb3⟩
          replace g1 := g1.below hb3 g1.lt
          replace HB := HB.trans (hb3.mono HB.size)
          clear hb3 k0 k1 k2
          have hpt := HPT.out
          go_wp2_with fail
          clear hpt
          rw [before_cat]
          refine (getR_any ([98, 101, 102, 111, 114, 101] ++ (pn ++ m)) 6 _ (by have := HPT.out; simp only [List.length_append, List.length_cons, List.length_nil]; omega) _ (HGP.out m)).mono ?_
          rintro e w4 ⟨rfl, hb4⟩
          replace g1 := g1.below hb4 g1.lt
          replace HB := HB.trans (hb4.mono HB.size)
          clear hb4
          replace g1 := g1.alloc (.cells #[.int .i64 a, .int .i64 b, str d] 72)
          replace HB := HB.alloc HB.size (.cells #[.int .i64 a, .int .i64 b, str d] 72)
          have g1' := g1
          obtain ⟨k0, k1, k2, _, _, _, _⟩ := blk3 g1'
          clear g1'
          have hw6 := HW6.out
          have hpt := HPT.out
          go_wp2_with fail
          refine (H4.out _).mono ?_
          rintro e wA ⟨rfl, hb9⟩
          replace HB := HB.trans (hb9.mono HB.size)
          clear hb9
          clear hw6 hpt k0 k1 k2 g1
          go_wp2_with fail
          by_cases hje : je = 0
          · subst hje
            have hsj := HSJ.out rfl
            refine (H5.out _ ((h.below HB).more HB.size)).mono ?_
            rintro e wJ ⟨rfl, hb9⟩
            replace HB := HB.trans (hb9.mono HB.size)
            clear hb9
            clear HSJ
            go_wp2_with fail
            refine (split_any jb _ (by omega) _ hsj).mono ?_
            rintro e wS ⟨AS, nS, cS, rfl, hcS, rS, hb9⟩
            replace HB := HB.trans (hb9.mono HB.size)
            clear hb9
            have lS : l.length = nS := rd_rlen rS
            have lS' : nS ≤ 200 := by omega
            clear lS
            go_wp2_with fail
            have C9 := sameR_any AS A nS cS n c l l _ rS ((h.below HB).more HB.size) (by omega) (by omega)
            rw [decide_eq_true (rfl : l = l)] at C9
            refine (C9).mono ?_
            rintro e wB ⟨rfl, hb9⟩
            replace HB := HB.trans (hb9.mono HB.size)
            clear hb9
            clear C9 rS hsj
            go_wp2_with fail
            by_cases hse : se = 0
            · subst hse
              have hjs := HJS.out rfl
              refine (H6.out _).mono ?_
              rintro e wC ⟨AC, nC, cC, rfl, hcC, rC, hb9⟩
              replace HB := HB.trans (hb9.mono HB.size)
              clear hb9
              have lC := rd_rlen rC
              have lC' : nC ≤ 5000 := by omega
              clear lC HJS HSB
              go_wp2_with fail
              refine (join_any AC nC cC sr _ rC (by omega) _ hjs).mono ?_
              rintro e wD ⟨rfl, hb9⟩
              replace HB := HB.trans (hb9.mono HB.size)
              clear hb9 hjs
              go_wp2_with fail
              refine (awake_any _).mono ?_
              rintro e wE ⟨rfl, hb9⟩
              replace HB := HB.trans (hb9.mono HB.size)
              clear hb9
              go_wp2_with fail
              go_ret
              exact ⟨rfl, HB⟩
            · have hsb := HSB.out hse
              subst hsb
              have hseI : (se != 0) = true := by simp [hse]
              clear hse
              refine (H6.out _).mono ?_
              rintro e wC ⟨AC, nC, cC, rfl, hcC, rC, hb9⟩
              replace HB := HB.trans (hb9.mono HB.size)
              clear hb9
              have lC := rd_rlen rC
              obtain rfl : 0 = nC := lC
              clear HJS HSB
              go_wp2_with fail
              refine (awake_any _).mono ?_
              rintro e wE ⟨rfl, hb9⟩
              replace HB := HB.trans (hb9.mono HB.size)
              clear hb9
              go_wp2_with fail
              go_ret
              exact ⟨rfl, HB⟩
          · have hjeI : (je == 0) = false := by simpa using hje
            clear hje
            refine (H5.out _ ((h.below HB).more HB.size)).mono ?_
            rintro e wB ⟨rfl, hb9⟩
            replace HB := HB.trans (hb9.mono HB.size)
            clear hb9
            go_wp2_with fail
            by_cases hse : se = 0
            · subst hse
              have hjs := HJS.out rfl
              refine (H6.out _).mono ?_
              rintro e wC ⟨AC, nC, cC, rfl, hcC, rC, hb9⟩
              replace HB := HB.trans (hb9.mono HB.size)
              clear hb9
              have lC := rd_rlen rC
              have lC' : nC ≤ 5000 := by omega
              clear lC HJS HSB
              go_wp2_with fail
              refine (join_any AC nC cC sr _ rC (by omega) _ hjs).mono ?_
              rintro e wD ⟨rfl, hb9⟩
              replace HB := HB.trans (hb9.mono HB.size)
              clear hb9 hjs
              go_wp2_with fail
              refine (awake_any _).mono ?_
              rintro e wE ⟨rfl, hb9⟩
              replace HB := HB.trans (hb9.mono HB.size)
              clear hb9
              go_wp2_with fail
              go_ret
              exact ⟨rfl, HB⟩
            · have hsb := HSB.out hse
              subst hsb
              have hseI : (se != 0) = true := by simp [hse]
              clear hse
              refine (H6.out _).mono ?_
              rintro e wC ⟨AC, nC, cC, rfl, hcC, rC, hb9⟩
              replace HB := HB.trans (hb9.mono HB.size)
              clear hb9
              have lC := rd_rlen rC
              obtain rfl : 0 = nC := lC
              clear HJS HSB
              go_wp2_with fail
              refine (awake_any _).mono ?_
              rintro e wE ⟨rfl, hb9⟩
              replace HB := HB.trans (hb9.mono HB.size)
              clear hb9
              go_wp2_with fail
              go_ret
              exact ⟨rfl, HB⟩
        · have hckI : (ck == 0) = false := by simpa using hck
          clear hck
          refine (H3.out _).mono ?_
          rintro e wA ⟨rfl, hb9⟩
          replace HB := HB.trans (hb9.mono HB.size)
          clear hb9
          clear k0 k1 k2 g1
          go_wp2_with fail
          by_cases hje : je = 0
          · subst hje
            have hsj := HSJ.out rfl
            refine (H5.out _ ((h.below HB).more HB.size)).mono ?_
            rintro e wJ ⟨rfl, hb9⟩
            replace HB := HB.trans (hb9.mono HB.size)
            clear hb9
            clear HSJ
            go_wp2_with fail
            refine (split_any jb _ (by omega) _ hsj).mono ?_
            rintro e wS ⟨AS, nS, cS, rfl, hcS, rS, hb9⟩
            replace HB := HB.trans (hb9.mono HB.size)
            clear hb9
            have lS : l.length = nS := rd_rlen rS
            have lS' : nS ≤ 200 := by omega
            clear lS
            go_wp2_with fail
            have C9 := sameR_any AS A nS cS n c l l _ rS ((h.below HB).more HB.size) (by omega) (by omega)
            rw [decide_eq_true (rfl : l = l)] at C9
            refine (C9).mono ?_
            rintro e wB ⟨rfl, hb9⟩
            replace HB := HB.trans (hb9.mono HB.size)
            clear hb9
            clear C9 rS hsj
            go_wp2_with fail
            by_cases hse : se = 0
            · subst hse
              have hjs := HJS.out rfl
              refine (H6.out _).mono ?_
              rintro e wC ⟨AC, nC, cC, rfl, hcC, rC, hb9⟩
              replace HB := HB.trans (hb9.mono HB.size)
              clear hb9
              have lC := rd_rlen rC
              have lC' : nC ≤ 5000 := by omega
              clear lC HJS HSB
              go_wp2_with fail
              refine (join_any AC nC cC sr _ rC (by omega) _ hjs).mono ?_
              rintro e wD ⟨rfl, hb9⟩
              replace HB := HB.trans (hb9.mono HB.size)
              clear hb9 hjs
              go_wp2_with fail
              refine (awake_any _).mono ?_
              rintro e wE ⟨rfl, hb9⟩
              replace HB := HB.trans (hb9.mono HB.size)
              clear hb9
              go_wp2_with fail
              go_ret
              exact ⟨rfl, HB⟩
            · have hsb := HSB.out hse
              subst hsb
              have hseI : (se != 0) = true := by simp [hse]
              clear hse
              refine (H6.out _).mono ?_
              rintro e wC ⟨AC, nC, cC, rfl, hcC, rC, hb9⟩
              replace HB := HB.trans (hb9.mono HB.size)
              clear hb9
              have lC := rd_rlen rC
              obtain rfl : 0 = nC := lC
              clear HJS HSB
              go_wp2_with fail
              refine (awake_any _).mono ?_
              rintro e wE ⟨rfl, hb9⟩
              replace HB := HB.trans (hb9.mono HB.size)
              clear hb9
              go_wp2_with fail
              go_ret
              exact ⟨rfl, HB⟩
          · have hjeI : (je == 0) = false := by simpa using hje
            clear hje
            refine (H5.out _ ((h.below HB).more HB.size)).mono ?_
            rintro e wB ⟨rfl, hb9⟩
            replace HB := HB.trans (hb9.mono HB.size)
            clear hb9
            go_wp2_with fail
            by_cases hse : se = 0
            · subst hse
              have hjs := HJS.out rfl
              refine (H6.out _).mono ?_
              rintro e wC ⟨AC, nC, cC, rfl, hcC, rC, hb9⟩
              replace HB := HB.trans (hb9.mono HB.size)
              clear hb9
              have lC := rd_rlen rC
              have lC' : nC ≤ 5000 := by omega
              clear lC HJS HSB
              go_wp2_with fail
              refine (join_any AC nC cC sr _ rC (by omega) _ hjs).mono ?_
              rintro e wD ⟨rfl, hb9⟩
              replace HB := HB.trans (hb9.mono HB.size)
              clear hb9 hjs
              go_wp2_with fail
              refine (awake_any _).mono ?_
              rintro e wE ⟨rfl, hb9⟩
              replace HB := HB.trans (hb9.mono HB.size)
              clear hb9
              go_wp2_with fail
              go_ret
              exact ⟨rfl, HB⟩
            · have hsb := HSB.out hse
              subst hsb
              have hseI : (se != 0) = true := by simp [hse]
              clear hse
              refine (H6.out _).mono ?_
              rintro e wC ⟨AC, nC, cC, rfl, hcC, rC, hb9⟩
              replace HB := HB.trans (hb9.mono HB.size)
              clear hb9
              have lC := rd_rlen rC
              obtain rfl : 0 = nC := lC
              clear HJS HSB
              go_wp2_with fail
              refine (awake_any _).mono ?_
              rintro e wE ⟨rfl, hb9⟩
              replace HB := HB.trans (hb9.mono HB.size)
              clear hb9
              go_wp2_with fail
              go_ret
              exact ⟨rfl, HB⟩
    · have C2 := fun w HH => HG.out false (by simpa using hfl) w HH
      have H2 := Lib.hid C2
      clear C2 HG HF hfl
      go_enter Try.func14, Try.ntmps14
      go_wp2_with fail
      refine C1.mono ?_
      rintro e w1 ⟨rfl, hb1⟩
      replace HBa := HBa.trans (hb1.mono HBa.size)
      go_wp2_with fail
      refine (H2.out _ ((h.below HBa).more HBa.size)).mono ?_
      rintro e w2 ⟨rfl, hb2⟩
      replace HBa := HBa.trans (hb2.mono HBa.size)
      go_wp2_with fail
      refine (awake_any _).mono ?_
      rintro e w3 ⟨rfl, hb3⟩
      go_wp2_with fail
      go_ret
      exact ⟨rfl, HBa.trans (hb3.mono HBa.size)⟩
  · have C1 := HF.out false (few_one' _ _ (decide_eq_false hf))
    clear HF HG
    go_enter Try.func14, Try.ntmps14
    go_wp2_with fail
    refine C1.mono ?_
    rintro e w1 ⟨rfl, hb1⟩
    replace HBa := HBa.trans (hb1.mono HBa.size)
    go_wp2_with fail
    refine (awake_any _).mono ?_
    rintro e w2 ⟨rfl, hb2⟩
    go_wp2_with fail
    go_ret
    exact ⟨rfl, HBa.trans (hb2.mono HBa.size)⟩
end RecW
end Go.Proofs.Ytjdmbpkabeaccaa
