/- Walks over package bits: Unpack, whole. -/
import Derived.Test.YtnghmcadhjneeaaBitT
import Derived.Laws.EntriesVeiled
namespace Go.Proofs.Ytnghmcadhjneeaa
set_option linter.unusedVariables false
set_option linter.unusedSimpArgs false
set_option linter.unnecessarySimpa false
open Go.RowKit
namespace BitW

theorem getB_ok {s : List UInt8} {p : Nat} {x : Int} (hp : p ≤ 8 * s.length) (h : (getB (bitsB s) p x).2 = 0) : 0 ≤ x ∧ p + x.toNat ≤ 8 * s.length := by
  have hl := bitsB_len s
  unfold getB at h
  split at h
  · cases h
  · split at h
    · cases h
    · omega
set_option maxRecDepth 100000 in
set_option maxHeartbeats 4000000 in
theorem unpack_any (s : List UInt8) (A : Option Addr) (n c : Nat) (ws : List Int) (w : World) (h : Rd w w.heap.size 1 A n (ints ws)) (hs : s.length ≤ 1000000) (hn : n ≤ 1000000) (x : List Int × Int × Int) (hx : unpackF (bitsB s) ws 0 = x) :
    Calls Try.prog 19 #[str s, .slice A n c] w fun e w' => ∃ A2 n2 c2, e = .returned (.tuple #[.slice A2 n2 c2, .int .i64 x.2.1, .int .i64 x.2.2]) ∧ n2 ≤ c2 ∧ Rd w' w'.heap.size 1 A2 n2 (ints x.1) ∧ Below w.heap.size w w' := by
  have hmf : ∀ (fn : Fn) (first cap : Array Value) (w : World), (Instr.makeFunc fn first cap).run Try.prog w = .ok (.func fn first cap) w := fun _ _ _ _ => rfl
  have hl := rd_len h
  have hl1 : ws.length ≤ n := by omega
  have hl2 : n ≤ ws.length := by omega
  have HX := Lib.hid (show x = ([] ++ (unpackF (bitsB s) (ws.drop 0) ((0 : Nat) : Int)).1, (unpackF (bitsB s) (ws.drop 0) ((0 : Nat) : Int)).2) by rw [← hx]; rfl)
  clear hx hl
  go_enter Try.func19, Try.ntmps19
  go_wp2_with fail
  refine (new_any s _).mono ?_
  rintro e w1 ⟨rfl, hw1⟩
  have b0 : Blk w1 w.heap.size 33 #[.slice none 0 0] := by rw [hw1]; exact ((Blk.new _ _ _).alloc _).alloc _
  have b1 : Blk w1 (w.heap.size + 1) 27 #[.int .i64 0] := by
    rw [hw1]; have := Blk.new (w.alloc (.cells #[.slice none 0 0] 33)) 27 #[.int .i64 0]; rw [World.size_alloc] at this; exact this.alloc _
  have b2 : Blk w1 (w.heap.size + 1 + 1) 105 (rdr s 0) := by
    rw [hw1]; have := Blk.new ((w.alloc (.cells #[.slice none 0 0] 33)).alloc (.cells #[.int .i64 0] 27)) 105 (rdr s 0); rw [World.size_alloc, World.size_alloc] at this; exact this
  have hb : Below w.heap.size w w1 := by rw [hw1]; exact (by first | exact Below.refl _ _ | (repeat (first | exact Below.refl _ _ | assumption | refine Below.drew ?_ | refine Below.drewN_ ?_ _ | refine Below.alloc ?_ (by first | exact Nat.le_refl _ | (simp; done) | (simp; omega) | omega) _ | refine Below.setCell ?_ (by first | exact Nat.le_refl _ | (simp; done) | (simp; omega) | omega) _ | (refine Below.trans ?_ (Below.mono (by assumption) (by first | exact Nat.le_refl _ | (simp; done) | (simp; omega) | omega))))))
  have hz : w1.heap.size = w.heap.size + 3 := by rw [hw1]; simp
  clear hw1
  go_wp2_with fail
  have b3 := Blk.new w1 102 #[getF (w.heap.size + 1 + 1)]
  have hbB : Below w.heap.size w (w1.alloc (.cells #[getF (w.heap.size + 1 + 1)] 102)) := hb.alloc hb.size _
  rw [hz] at b3
  have hU0 : Un (w1.alloc (.cells #[getF (w.heap.size + 1 + 1)] 102)) w.heap.size (w.heap.size + 3) w.heap.size (w.heap.size + 1) (w.heap.size + 1 + 1) (w.heap.size + 4) s 0 none 0 0 [] 0 :=
    ⟨b3, b0.alloc _, b1.alloc _, b2.alloc _, Own.nil _ _ _ _, by omega, by omega, by omega, by omega, by omega, by simp [hz], ⟨by omega, by omega, by omega, by omega, by omega, by omega⟩, by omega, by omega, by omega, by omega⟩
  have hz2 : (w1.alloc (.cells #[getF (w.heap.size + 1 + 1)] 102)).heap.size = w.heap.size + 4 := by simp [hz]
  clear b0 b1 b2 b3 hb
  go_loopw [19] (fun i wr => ∃ (j q : Nat) (acc : List Int) (A2 : Option Addr) (c2 : Nat), i = .int .i64 j ∧ j ≤ n ∧ x = (acc ++ (unpackF (bitsB s) (ws.drop j) (q : Nat)).1, (unpackF (bitsB s) (ws.drop j) (q : Nat)).2) ∧
    Un wr w.heap.size (w.heap.size + 3) w.heap.size (w.heap.size + 1) (w.heap.size + 1 + 1) (w.heap.size + 4) s q A2 j c2 acc 0 ∧ Below w.heap.size w wr) (fun i _ => n - (intOf i).toNat)
  case atStart => exact ⟨0, 0, [], none, 0, rfl, by omega, HX.out, hU0, hbB⟩
  case round =>
    obtain ⟨j, q, acc, A2, c2, rfl, hj, hr, hU, hbw⟩ := hrel
    have HR := Lib.hid hr
    clear hr hU0 hbB hz2
    have hsz := hbw.size
    by_cases hlt : j < n
    · have hjl : j < ws.length := by omega
      obtain ⟨b, o, rfl, hb, hc⟩ := rd_ints (h.below hbw) (by omega)
      have d0 := hc j hjl
      have HY := Lib.hid (fun h => unpackF_yes (l := bitsB s) (p := (q : Nat)) hjl h)
      have HN := Lib.hid (fun h => unpackF_no (l := bitsB s) (p := (q : Nat)) hjl h)
      obtain ⟨xw, hxw⟩ : ∃ y, ws[j] = y := ⟨_, rfl⟩
      rw [hxw] at d0 HY HN
      obtain ⟨v, hv⟩ : ∃ v, getB (bitsB s) (q : Nat) xw = v := ⟨_, rfl⟩
      rw [hv] at HY HN
      have hok := getB_ok (x := xw) hU.hp
      rw [hv] at hok
      have HOK := Lib.hid hok
      clear hc hxw hok
      by_cases he : v.2 = 0
      · have C := one_yes w.heap.size (w.heap.size + 3) w.heap.size (w.heap.size + 1) (w.heap.size + 1 + 1) (w.heap.size + 4) s q A2 j c2 acc 0 xw wr hU hs (by omega) v hv he (HOK.out he).2
        have hq2 : ((q + xw.toNat : Nat) : Int) = (q : Int) + xw := by have := (HOK.out he).1; omega
        have HXX := Lib.hid (show x = (acc ++ [v.1] ++ (unpackF (bitsB s) (ws.drop (j + 1)) ((q + xw.toNat : Nat) : Int)).1, (unpackF (bitsB s) (ws.drop (j + 1)) ((q + xw.toNat : Nat) : Int)).2) by rw [HR.out, HY.out he, hq2]; simp)
        clear hv he hU hq2
        go_wp2_with fail
        refine C.mono ?_
        clear C
        rintro e w3 ⟨rfl, A3, c3, hU3, hb3⟩
        go_wp2_with fail
        go_roundw
        case rel => exact ⟨j + 1, q + xw.toNat, acc ++ [v.1], A3, c3, by go_num, by omega, HXX.out, hU3, hbw.trans hb3⟩
        case measure => simp [intOf]; omega
      · have C := one_no w.heap.size (w.heap.size + 3) w.heap.size (w.heap.size + 1) (w.heap.size + 1 + 1) (w.heap.size + 4) s q A2 j c2 acc 0 xw wr hU hs v hv he
        have hx : x = (acc, (q : Int), v.2) := by rw [HR.out, HN.out he, List.append_nil]
        subst hx
        clear hv he hU
        go_wp2_with fail
        refine C.mono ?_
        clear C
        rintro e wE ⟨rfl, hU, hb3⟩
        have hbE := hbw.trans hb3
        obtain ⟨bF, bL, bE, bR, oU, hpU, _, _, _, _, h5, ⟨d1, d2, d3, d4, d5, d6⟩, _⟩ := hU
        have bL' := bL
        have bE' := bE
        obtain ⟨lc, lf, lz⟩ := blk1 bL'
        obtain ⟨ec, ef, ez⟩ := blk1 bE'
        obtain ⟨_, rc, _, _, rz⟩ := blk2 bR
        clear bL' bE'
        have d4' : w.heap.size + 1 ≠ w.heap.size := by omega
        go_wp2_with fail
        go_region
        all_goals
          go_wp2_with fail
          first
          | (have hc1 : ((wE.setCell ⟨w.heap.size, 0, none⟩ (.slice A2 j c2)).setCell ⟨w.heap.size + 1, 0, none⟩ (.int .i64 v.2)).drew.cell? ⟨w.heap.size, 0, none⟩ = some (.slice A2 j c2) := (((bL.set 0 (.slice A2 j c2)).far (p := ⟨w.heap.size + 1, 0, none⟩) (by show w.heap.size ≠ w.heap.size + 1; omega) (.int .i64 v.2)).drew).cell_ 0 rfl
             have hc2 : ((wE.setCell ⟨w.heap.size, 0, none⟩ (.slice A2 j c2)).setCell ⟨w.heap.size + 1, 0, none⟩ (.int .i64 v.2)).drew.cell? ⟨w.heap.size + 1, 0, none⟩ = some (.int .i64 v.2) := (((bE.far (p := ⟨w.heap.size, 0, none⟩) (by show w.heap.size + 1 ≠ w.heap.size; omega) (.slice A2 j c2)).set 0 (.int .i64 v.2)).drew).cell_ 0 rfl
             have ho : Own ((wE.setCell ⟨w.heap.size, 0, none⟩ (.slice A2 j c2)).setCell ⟨w.heap.size + 1, 0, none⟩ (.int .i64 v.2)).drew (w.heap.size + 4) 3 1 A2 j c2 (ints acc) := ((oU.far (fun e => by have := (oU.blk _ e).1; dsimp only at this; omega) _).far (fun e => by have := (oU.blk _ e).1; dsimp only at this; omega) _).drew
             have hbF : Below w.heap.size w ((wE.setCell ⟨w.heap.size, 0, none⟩ (.slice A2 j c2)).setCell ⟨w.heap.size + 1, 0, none⟩ (.int .i64 v.2)).drew := ((hbE.setCell (p := ⟨w.heap.size, 0, none⟩) (Nat.le_refl _) _).setCell (p := ⟨w.heap.size + 1, 0, none⟩) (by show w.heap.size ≤ w.heap.size + 1; omega) _).drew
             generalize ((wE.setCell ⟨w.heap.size, 0, none⟩ (.slice A2 j c2)).setCell ⟨w.heap.size + 1, 0, none⟩ (.int .i64 v.2)).drew = wz at *
             refine bodyPost_ret (v := .tuple #[.slice A2 j c2, .int .i64 q, .int .i64 v.2]) (by simp [results, Try.results19, go_sem, hc1, hc2]) rfl ⟨A2, j, c2, rfl, ho.cap, ho.rd, hbF⟩)
    · have hx : x = (acc, (q : Int), 0) := by rw [HR.out, List.drop_of_length_le (by omega), unpackF, List.append_nil]
      subst hx
      have hbE := hbw
      obtain ⟨bF, bL, bE, bR, oU, hpU, _, _, _, _, h5, ⟨d1, d2, d3, d4, d5, d6⟩, _⟩ := hU
      have bL' := bL
      have bE' := bE
      obtain ⟨lc, lf, lz⟩ := blk1 bL'
      obtain ⟨ec, ef, ez⟩ := blk1 bE'
      obtain ⟨_, rc, _, _, rz⟩ := blk2 bR
      clear bL' bE'
      have d4' : w.heap.size + 1 ≠ w.heap.size := by omega
      go_wp2_with fail
      go_region
      all_goals
        go_wp2_with fail
        first
        | (have hc1 : ((wr.setCell ⟨w.heap.size, 0, none⟩ (.slice A2 j c2)).setCell ⟨w.heap.size + 1, 0, none⟩ (.int .i64 0)).drew.cell? ⟨w.heap.size, 0, none⟩ = some (.slice A2 j c2) := (((bL.set 0 (.slice A2 j c2)).far (p := ⟨w.heap.size + 1, 0, none⟩) (by show w.heap.size ≠ w.heap.size + 1; omega) (.int .i64 0)).drew).cell_ 0 rfl
           have hc2 : ((wr.setCell ⟨w.heap.size, 0, none⟩ (.slice A2 j c2)).setCell ⟨w.heap.size + 1, 0, none⟩ (.int .i64 0)).drew.cell? ⟨w.heap.size + 1, 0, none⟩ = some (.int .i64 0) := (((bE.far (p := ⟨w.heap.size, 0, none⟩) (by show w.heap.size + 1 ≠ w.heap.size; omega) (.slice A2 j c2)).set 0 (.int .i64 0)).drew).cell_ 0 rfl
           have ho : Own ((wr.setCell ⟨w.heap.size, 0, none⟩ (.slice A2 j c2)).setCell ⟨w.heap.size + 1, 0, none⟩ (.int .i64 0)).drew (w.heap.size + 4) 3 1 A2 j c2 (ints acc) := ((oU.far (fun e => by have := (oU.blk _ e).1; dsimp only at this; omega) _).far (fun e => by have := (oU.blk _ e).1; dsimp only at this; omega) _).drew
           have hbF : Below w.heap.size w ((wr.setCell ⟨w.heap.size, 0, none⟩ (.slice A2 j c2)).setCell ⟨w.heap.size + 1, 0, none⟩ (.int .i64 0)).drew := ((hbE.setCell (p := ⟨w.heap.size, 0, none⟩) (Nat.le_refl _) _).setCell (p := ⟨w.heap.size + 1, 0, none⟩) (by show w.heap.size ≤ w.heap.size + 1; omega) _).drew
           generalize ((wr.setCell ⟨w.heap.size, 0, none⟩ (.slice A2 j c2)).setCell ⟨w.heap.size + 1, 0, none⟩ (.int .i64 0)).drew = wz at *
           refine bodyPost_ret (v := .tuple #[.slice A2 j c2, .int .i64 q, .int .i64 0]) (by simp [results, Try.results19, go_sem, hc1, hc2]) rfl ⟨A2, j, c2, rfl, ho.cap, ho.rd, hbF⟩)
end BitW
end Go.Proofs.Ytnghmcadhjneeaa
