/- The walks of package canon: Pack. -/
import Derived.Test.YtedoeplhjmkllaaCanY
namespace Go.Proofs.Ytedoeplhjmkllaa
set_option linter.unusedVariables false
set_option linter.unusedSimpArgs false
set_option linter.unnecessarySimpa false
open Go.RowKit
namespace LenW
open BitW (Wr Wfr Fresh Puts text_any)

theorem CodeAt.below {w w' : World} {B g : Nat} {l : List Int} (h : CodeAt w B g l) (hb : Below w.heap.size w w') : CodeAt w' B g l := by
  obtain ⟨gW, gS, h1, h2, h3, b1, b2, b3⟩ := h
  exact ⟨gW, gS, h1, h2, h3, b1.below hb b1.lt, b2.below hb b2.lt, b3.below hb b3.lt⟩
set_option maxRecDepth 100000 in
set_option maxHeartbeats 4000000 in
theorem pack_yes (A A2 : Option Addr) (n c n2 c2 : Nat) (l r : List Int) (w : World) (h : Rd w w.heap.size 1 A n (ints l)) (h2 : Rd w w.heap.size 1 A2 n2 (ints r)) (hn : n ≤ 1000000) (hn2 : n2 ≤ 30000) (hr64 : ∀ x ∈ r, I64 x) (hk : chkL l = 0) (x : List UInt8 × Int) (hx : packC l r = x) :
    Calls Try.prog 15 #[.slice A n c, .slice A2 n2 c2] w fun e w' => e = .returned (.tuple #[str x.1, .int .i64 x.2]) ∧ Below w.heap.size w w' := by
  have hmf : ∀ (fn : Fn) (first cap : Array Value) (w : World), (Instr.makeFunc fn first cap).run Try.prog w = .ok (.func fn first cap) w := fun _ _ _ _ => rfl
  have hl : r.length = n2 := rd_len h2
  have C := new_any A n c l w h hn hk
  have HX := Lib.hid hx
  have HK := Lib.hid hk
  have H64 := Lib.hid hr64
  clear hx hk hr64 h
  go_enter Try.func15, Try.ntmps15
  go_wp2_with fail
  refine C.mono ?_
  rintro e w1 ⟨g, rfl, hC, HB⟩
  clear C
  go_wp2_with fail
  have hWr := Wr.fresh w1
  have HB1 : Below w1.heap.size w1 (w1.alloc (.cells #[.slice none 0 0, .int .u64 0, .int .i64 0] 59)) := (by first | exact Below.refl _ _ | (repeat (first | exact Below.refl _ _ | assumption | refine Below.drew ?_ | refine Below.drewN_ ?_ _ | refine Below.alloc ?_ (by first | exact Nat.le_refl _ | (simp; done) | (simp; omega) | omega) _ | refine Below.setCell ?_ (by first | exact Nat.le_refl _ | (simp; done) | (simp; omega) | omega) _ | (refine Below.trans ?_ (Below.mono (by assumption) (by first | exact Nat.le_refl _ | (simp; done) | (simp; omega) | omega))))))
  have hz1 : w1.heap.size + 1 ≤ (w1.alloc (.cells #[.slice none 0 0, .int .u64 0, .int .i64 0] 59)).heap.size := by simp
  go_loopw [27] (fun i wr => ∃ (k : Nat) (ab : Option Nat), i = .int .i64 k ∧ k ≤ n2 ∧ symsOk l (r.take k) = true ∧ Wr wr (w1.heap.size + 1) w1.heap.size ab (symsB l (r.take k)) ∧ w1.heap.size + 1 ≤ wr.heap.size ∧ Below w1.heap.size w1 wr) (fun i _ => n2 - (intOf i).toNat)
  case atStart => exact ⟨0, none, rfl, by omega, by simp [symsOk], hWr, hz1, HB1⟩
  case round =>
    obtain ⟨k, ab, rfl, hk, hall, hW, hz, hbw⟩ := hrel
    have HA := Lib.hid hall
    have hsz := hbw.size
    have hszw := HB.size
    clear hWr HB1 hz1 hall
    have hbw0 : Below w.heap.size w wr := HB.trans (hbw.mono hszw)
    have hCr := hC.below hbw
    by_cases hlt : k < n2
    · have hkl : k < r.length := by omega
      obtain ⟨b, o, rfl, hb, hc⟩ := rd_ints (h2.below hbw0) (by omega)
      have d0 : wr.cell? ⟨b, o + k, none⟩ = some (.int .i64 r[k]) := hc k hkl
      have h6 := H64.out r[k] (List.getElem_mem hkl)
      have HS := Lib.hid (symsB_snoc l r k hkl)
      have HT := Lib.hid (symsOk_take l r k hkl)
      have HN := Lib.hid (symsOk_no l r k hkl)
      have hfl := symsB_len l HK.out (r.take k) HA.out
      rw [List.length_take] at hfl
      generalize hr : r[k] = y at *
      clear hc hr
      by_cases hv : (wordV l y).2 = 0
      · have C := cput_yes l HK.out w.heap.size g y (w1.heap.size + 1) w1.heap.size ab _ wr hCr h6 hv hW (by omega) hz
        have HV := Lib.hid hv
        clear hv h6
        go_wp2_with fail
        refine C.mono ?_
        clear C
        rintro e w2 ⟨rfl, ab2, hP⟩
        obtain ⟨p1, p2, p3⟩ := hP
        have hba : ∀ k, ab = some k → w1.heap.size + 1 ≤ k := by
          intro k hk
          obtain ⟨⟨A, nb, c, bs, r, k', bG, o, hab, _⟩, _⟩ := hW
          rw [← hab] at hk
          exact (o.blk k hk).1
        have hbw2 : Below w1.heap.size w1 w2 := hbw.trans (p3.below hsz (Nat.le_refl _) (fun k hk => by have := hba k hk; omega))
        have hz2 := p3.size
        go_wp2_with fail
        go_roundw
        case rel =>
          refine ⟨k + 1, ab2, by go_num, by omega, ?_, ?_, by omega, hbw2⟩
          · rw [HT.out, HA.out]; simp [HV.out]
          · rw [HS.out]; exact p1
        case measure => simp [intOf]; omega
      · have C := cput_no l w.heap.size g y (.pointer (some ⟨w1.heap.size, 0, none⟩)) wr hCr h6 hv
        have hx := HN.out hv
        have hx2 : x = ([], 70) := by rw [← HX.out]; unfold packC; rw [if_pos HK.out, if_neg (by simp [hx])]
        subst hx2
        clear hv h6 hx
        go_wp2_with fail
        refine C.mono ?_
        clear C
        rintro e w2 ⟨rfl, hb2⟩
        go_wp2_with fail
        go_ret2
        exact ⟨rfl, hbw0.trans (hb2.mono (Nat.le_trans hszw hsz))⟩
    · have hz' := Lib.hid (show r.take k = r from List.take_of_length_le (by omega))
      have hall := HA.out
      rw [hz'.out] at hall hW
      have hx2 : x = (textB (symsB l r), 0) := by rw [← HX.out]; unfold packC; rw [if_pos HK.out, if_pos hall]
      subst hx2
      have hfl := symsB_len l HK.out r hall
      have C := text_any _ _ _ _ _ hW (by omega)
      clear hall
      go_wp2_with fail
      refine C.mono ?_
      clear C
      rintro e w2 ⟨rfl, hb2⟩
      go_wp2_with fail
      go_ret2
      exact ⟨rfl, hbw0.trans (hb2.mono (Nat.le_trans hszw hsz))⟩
set_option maxRecDepth 100000 in
set_option maxHeartbeats 4000000 in
theorem pack_no (A A2 : Option Addr) (n c n2 c2 : Nat) (l : List Int) (w : World) (h : Rd w w.heap.size 1 A n (ints l)) (hn : n ≤ 1000000) (v : Int) (hk : chkL l = v) (hv : ¬ v = 0) :
    Calls Try.prog 15 #[.slice A n c, .slice A2 n2 c2] w fun e w' => e = .returned (.tuple #[str [], .int .i64 v]) ∧ w' = w := by
  have C := new_no A n c l w h hn v hk hv
  have hvI : (v != 0) = true := by simp [hv]
  go_enter Try.func15, Try.ntmps15
  go_wp2_with fail
  refine C.mono ?_
  rintro e w1 ⟨rfl, rfl⟩
  go_wp2_with fail
  go_ret2
  exact ⟨rfl, rfl⟩
end LenW
end Go.Proofs.Ytedoeplhjmkllaa
