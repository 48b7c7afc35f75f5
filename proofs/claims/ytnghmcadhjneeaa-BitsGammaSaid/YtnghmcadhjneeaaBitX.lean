/- Walks over package bits: Pack. -/
import Derived.Test.YtnghmcadhjneeaaBitU
namespace Go.Proofs.Ytnghmcadhjneeaa
set_option linter.unusedVariables false
set_option linter.unusedSimpArgs false
set_option linter.unnecessarySimpa false
open Go.RowKit
namespace BitW

set_option maxRecDepth 100000 in
set_option maxHeartbeats 2000000 in
theorem pack_any (A : Option Addr) (n c : Nat) (l : List (Int × Int)) (w : World) (h : Rd w w.heap.size 2 A n (fcells l)) (h64 : ∀ f ∈ l, I64 f.1 ∧ I64 f.2) (hn : n ≤ 1000) (x : List UInt8 × Int) (hx : packV l = x) :
    Calls Try.prog 17 #[.slice A n c] w fun e w' => e = .returned (.tuple #[str x.1, .int .i64 x.2]) ∧ Below w.heap.size w w' := by
  have hmf : ∀ (fn : Fn) (first cap : Array Value) (w : World), (Instr.makeFunc fn first cap).run Try.prog w = .ok (.func fn first cap) w := fun _ _ _ _ => rfl
  have hl := rd_flen h
  have hl1 : l.length ≤ n := by omega
  have hl2 : n ≤ l.length := by omega
  have HX := Lib.hid hx
  have H64 := Lib.hid h64
  clear hl hx h64
  go_enter Try.func17, Try.ntmps17
  go_wp2_with fail
  have hWr := Wr.fresh w
  have HB : Below w.heap.size w (w.alloc (.cells #[.slice none 0 0, .int .u64 0, .int .i64 0] 47)) := (by first | exact Below.refl _ _ | (repeat (first | exact Below.refl _ _ | assumption | refine Below.drew ?_ | refine Below.drewN_ ?_ _ | refine Below.alloc ?_ (by first | exact Nat.le_refl _ | (simp; done) | (simp; omega) | omega) _ | refine Below.setCell ?_ (by first | exact Nat.le_refl _ | (simp; done) | (simp; omega) | omega) _ | (refine Below.trans ?_ (Below.mono (by assumption) (by first | exact Nat.le_refl _ | (simp; done) | (simp; omega) | omega))))))
  have hz1 : w.heap.size + 1 ≤ (w.alloc (.cells #[.slice none 0 0, .int .u64 0, .int .i64 0] 47)).heap.size := by simp
  go_loopw [15] (fun i wr => ∃ (k : Nat) (ab : Option Nat), i = .int .i64 k ∧ k ≤ n ∧ (∀ f ∈ l.take k, fitsB f.1 f.2 = true) ∧ Wr wr (w.heap.size + 1) w.heap.size ab (fieldsB (l.take k)) ∧ w.heap.size + 1 ≤ wr.heap.size ∧ Below w.heap.size w wr) (fun i _ => n - (intOf i).toNat)
  case atStart => exact ⟨0, none, rfl, by omega, by simp, hWr, hz1, HB⟩
  case round =>
    obtain ⟨k, ab, rfl, hk, hall, hW, hz, hbw⟩ := hrel
    have HA := Lib.hid hall
    have hsz := hbw.size
    clear hWr HB hz1 hall
    by_cases hlt : k < n
    · have hkl : k < l.length := by omega
      obtain ⟨b, o, rfl, hb, hc⟩ := rd_fcells (h.below hbw) (by omega)
      obtain ⟨d0, d1⟩ := hc k hkl
      have h6 := H64.out l[k] (List.getElem_mem hkl)
      have HS := Lib.hid (fieldsB_snoc l k hkl)
      have HN := Lib.hid (fun h => packV_no hkl h)
      have hT := Lib.hid (show l.take (k + 1) = l.take k ++ [l[k]] from List.take_succ_eq_append_getElem hkl)
      have hfl := fieldsB_len HA.out
      rw [List.length_take] at hfl
      generalize hr : l[k] = r at *
      obtain ⟨x0, x1⟩ := r
      dsimp only at d0 d1 h6 HN
      clear hc hr
      have hW1 : Wr (wr.alloc (.cells #[.int .i64 x0, .int .i64 x1] 49)) (w.heap.size + 1) w.heap.size ab (fieldsB (l.take k)) := by
        obtain ⟨⟨A, nb, c, bs, r, k, bG, o, hab, hk, hr, e⟩, hgb⟩ := hW
        exact ⟨⟨A, nb, c, bs, r, k, bG.alloc _, o.alloc _, hab, hk, hr, e⟩, hgb⟩
      have hbw1 := hbw.alloc hsz (.cells #[.int .i64 x0, .int .i64 x1] 49)
      by_cases hf : fitsB x0 x1 = true
      · have HF := Lib.hid hf
        have C := Put_yes (w.heap.size + 1) w.heap.size ab _ x0 x1 _ hf h6.1 hW1 (by omega) (by simp; omega)
        clear hf h6 hW hbw
        go_wp2_with fail
        refine C.mono ?_
        clear C
        rintro e w2 ⟨rfl, ab2, hP⟩
        have hba : ∀ k, ab = some k → w.heap.size + 1 ≤ k := by
          intro k hk
          obtain ⟨⟨A, nb, c, bs, r, k', bG, o, hab, _⟩, _⟩ := hW1
          rw [← hab] at hk
          exact (o.blk k hk).1
        have hbw2 : Below w.heap.size w w2 := hbw1.trans (hP.frame.below hbw1.size (Nat.le_refl _) (fun k hk => by have := hba k hk; omega))
        have hz2 := hP.frame.size
        rw [World.size_alloc] at hz2
        go_wp2_with fail
        go_roundw
        case rel =>
          refine ⟨k + 1, ab2, by go_num, by omega, ?_, ?_, by omega, hbw2⟩
          · intro f hf'
            rw [hT.out, List.mem_append] at hf'
            rcases hf' with hf' | hf'
            · exact HA.out f hf'
            · simp only [List.mem_singleton] at hf'; subst hf'; exact HF.out
          · rw [HS.out]; exact hP.wr
        case measure => simp [intOf]; omega
      · have hf' : fitsB x0 x1 = false := by simpa using hf
        have hx := HX.out.symm.trans (HN.out hf')
        subst hx
        have C := Put_no (w.heap.size + 1) w.heap.size x0 x1 (wr.alloc (.cells #[.int .i64 x0, .int .i64 x1] 49)) hf' h6.1
        clear hf hf' h6 hW hbw
        go_wp2_with fail
        refine C.mono ?_
        clear C
        rintro e w2 ⟨rfl, rfl⟩
        go_wp2_with fail
        go_ret2
        exact ⟨rfl, hbw1⟩
    · have hz' := Lib.hid (show l.take k = l from List.take_of_length_le (by omega))
      have hall := HA.out
      rw [hz'.out] at hall hW
      have hx := HX.out.symm.trans (packV_yes hall)
      subst hx
      have hfl := fieldsB_len hall
      have C := text_any _ _ _ _ _ hW (by omega)
      clear hall
      go_wp2_with fail
      refine C.mono ?_
      clear C
      rintro e w2 ⟨rfl, hb2⟩
      go_wp2_with fail
      go_ret2
      exact ⟨rfl, hbw.trans (hb2.mono hsz)⟩
end BitW
end Go.Proofs.Ytnghmcadhjneeaa
