/- Walks over package take: Run, whole. -/
import Derived.Test.YtjdmbpkabeaccaaTakR
namespace Go.Proofs.Ytjdmbpkabeaccaa
set_option linter.unusedVariables false
set_option linter.unusedSimpArgs false
set_option linter.unnecessarySimpa false
open Go.RowKit
namespace TakW

theorem own_same {w w' : World} {base e size n c : Nat} {A : Option Addr} {xs : List Value} (h : Own w base e size A n c xs) (hk : ∀ k, blkOf A = some k → w'.heap[k]? = w.heap[k]?) : Own w' base e size A n c xs := by
  refine ⟨h.1, ?_⟩
  rcases h.2 with h2 | ⟨g, cap, cur, hv, hg, hb, r⟩
  · exact .inl h2
  · refine .inr ⟨g, cap, cur, hv, hg, ?_, r⟩
    simp only [Value.slice.injEq] at hv
    obtain ⟨rfl, _, rfl⟩ := hv
    rw [hk g rfl]
    exact hb
/-- What Caught leaves of the loop's run. -/
theorem caught_run (bw bl bt g B : Nat) (s : List UInt8) (A : Option Addr) (n c : Nat) (l : List (Int × Int)) (w : World) (x : List (Int × List UInt8) × Int × Int)
    (hbw : Blk w bw 50 #[.slice A n c]) (hbl : Blk w bl 52 #[.slice none 0 0]) (hbt : Blk w bt 59 #[.pointer (some ⟨g, 0, none⟩)]) (hg : Blk w g 102 (tk s 0))
    (h : Rd w B 2 A n (wcells l)) (hB : B ≤ w.heap.size) (hB1 : B ≤ bl) (hB2 : B ≤ g) (h1 : bw ≠ bl) (h2 : bw ≠ g) (h3 : bt ≠ bl) (h4 : bt ≠ g) (h5 : bl ≠ g)
    (hs : s.length ≤ 1000000) (hn : n ≤ 1000000) (hx : runV s l 0 = x) :
    Calls Try.prog 64 #[.func (.func 65) #[] #[.pointer (some ⟨bw, 0, none⟩), .pointer (some ⟨bl, 0, none⟩), .pointer (some ⟨bt, 0, none⟩)]] w fun e w' =>
      (∃ at_, e = .returned (.tuple #[.int .i64 x.2.2, .int .i64 at_])) ∧ Ran w w' bl g s x.1 x.2.1 := by
  have hbl' := hbl.lt
  have hg' := hg.lt
  have hbe : ∀ {w' : World} {er at_ : Int} {w1 : World}, Ran ((w.alloc (.cells #[.int .i64 0] 22)).alloc (.cells #[.int .i64 0] 3)) w1 bl g s x.1 x.2.1 → Fell w1 w' w.heap.size (w.heap.size + 1) er at_ → Ran w w' bl g s x.1 x.2.1 := by
    intro w' er at_ w1 hr hF
    obtain ⟨⟨A2, n2, c2, bL, o⟩, bG, hK⟩ := hr
    have hz := hK.size
    simp only [World.size_alloc] at hz o
    refine ⟨⟨A2, n2, c2, (hF.block bl bL.lt (by omega) (by omega)).trans bL, own_same (o.base_le (by omega)) fun k hk => ?_⟩, (hF.block g bG.lt (by omega) (by omega)).trans bG, hF.os.trans hK.os, hF.tape.trans hK.tape, hF.output.trans hK.output, by have := hF.size; omega, fun k hk a b => ?_⟩
    · have := o.blk k hk
      exact hF.block k (by omega) (by omega) (by omega)
    · rw [hF.block k (by omega) (by omega) (by omega), hK.block k (by simp only [World.size_alloc]; omega) a b, Below.heap_alloc _ _ k (by simp only [World.size_alloc]; omega), Below.heap_alloc _ _ k hk]
  have L := loop_ok bw bl bt g B s A n c l _ x ((hbw.alloc (.cells #[.int .i64 0] 22)).alloc (.cells #[.int .i64 0] 3)) ((hbl.alloc _).alloc _) ((hbt.alloc _).alloc _) ((hg.alloc _).alloc _)
    ((h.below ((Below.refl _ _).alloc hB _)).below ((Below.refl _ _).alloc (by simp; omega) _)) (by simp; omega) hB1 hB2 h1 h2 h3 h4 h5 hs hn hx
  have hR : ∀ w1, Ran ((w.alloc (.cells #[.int .i64 0] 22)).alloc (.cells #[.int .i64 0] 3)) w1 bl g s x.1 x.2.1 → Blk w1 w.heap.size 22 #[.int .i64 0] ∧ Blk w1 (w.heap.size + 1) 3 #[.int .i64 0] := by
    intro w1 hr
    have e1 : Blk ((w.alloc (.cells #[.int .i64 0] 22)).alloc (.cells #[.int .i64 0] 3)) w.heap.size 22 #[.int .i64 0] := (Blk.new _ _ _).alloc _
    have e2 : Blk ((w.alloc (.cells #[.int .i64 0] 22)).alloc (.cells #[.int .i64 0] 3)) (w.heap.size + 1) 3 #[.int .i64 0] := by
      have := Blk.new (w.alloc (.cells #[.int .i64 0] 22)) 3 #[.int .i64 0]
      simpa using this
    exact ⟨hr.kept.blk e1 (by omega) (by omega), hr.kept.blk e2 (by omega) (by omega)⟩
  by_cases he : x.2.2 = 0
  · refine (caught_ok _ w _ hR (L.mono ?_)).mono ?_
    · rintro e w1 ⟨hE, hr⟩
      rcases hE with ⟨_, rfl⟩ | ⟨h0, _⟩
      · exact ⟨rfl, hr⟩
      · exact absurd he h0
    · rintro e w' ⟨rfl, w1, hr, hF⟩
      exact ⟨⟨0, by rw [he]⟩, hbe hr hF⟩
  · refine (caught_no _ x.2.2 x.2.1 w _ hR (L.mono ?_)).mono ?_
    · rintro e w1 ⟨hE, hr⟩
      rcases hE with ⟨h0, _⟩ | ⟨_, rfl⟩
      · exact absurd h0 he
      · exact ⟨rfl, hr⟩
    · rintro e w' ⟨rfl, w1, hr, hF⟩
      exact ⟨⟨_, rfl⟩, hbe hr hF⟩

set_option maxRecDepth 100000 in
set_option maxHeartbeats 2000000 in
theorem run_any (s : List UInt8) (A : Option Addr) (n c : Nat) (l : List (Int × Int)) (w : World) (h : Rd w w.heap.size 2 A n (wcells l)) (hs : s.length ≤ 1000000) (hn : n ≤ 1000000) (x : List (Int × List UInt8) × Int × Int) (hx : runV s l 0 = x) :
    Calls Try.prog 33 #[str s, .slice A n c] w fun e w' => ∃ A2 n2 c2, e = .returned (.tuple #[.slice A2 n2 c2, .int .i64 x.2.1, .int .i64 x.2.2]) ∧ n2 ≤ c2 ∧ Rd w' w'.heap.size 2 A2 n2 (gcells x.1) ∧ Below w.heap.size w w' := by
  have hmf : ∀ (fn : Fn) (first cap : Array Value) (w : World), (Instr.makeFunc fn first cap).run Try.prog w = .ok (.func fn first cap) w := fun _ _ _ _ => rfl
  go_enter Try.func33, Try.ntmps33
  go_wp2_with fail
  refine (new_any s _).mono ?_
  rintro e w1 ⟨rfl, hw1⟩
  have b0 : Blk w1 w.heap.size 50 #[.slice A n c] := by rw [hw1]; exact ((Blk.new _ _ _).alloc _).alloc _
  have b1 : Blk w1 (w.heap.size + 1) 52 #[.slice none 0 0] := by
    rw [hw1]; have := Blk.new (w.alloc (.cells #[.slice A n c] 50)) 52 #[.slice none 0 0]; rw [World.size_alloc] at this; exact this.alloc _
  have b2 : Blk w1 (w.heap.size + 1 + 1) 102 (tk s 0) := by
    rw [hw1]; have := Blk.new ((w.alloc (.cells #[.slice A n c] 50)).alloc (.cells #[.slice none 0 0] 52)) 102 (tk s 0); rw [World.size_alloc, World.size_alloc] at this; exact this
  have hb : Below w.heap.size w w1 := by rw [hw1]; exact (by first | exact Below.refl _ _ | (repeat (first | exact Below.refl _ _ | assumption | refine Below.drew ?_ | refine Below.drewN_ ?_ _ | refine Below.alloc ?_ (by first | exact Nat.le_refl _ | (simp; done) | (simp; omega) | omega) _ | refine Below.setCell ?_ (by first | exact Nat.le_refl _ | (simp; done) | (simp; omega) | omega) _ | (refine Below.trans ?_ (Below.mono (by assumption) (by first | exact Nat.le_refl _ | (simp; done) | (simp; omega) | omega))))))
  have hz : w1.heap.size = w.heap.size + 3 := by rw [hw1]; simp
  clear hw1
  go_wp2_with fail
  have b3 := Blk.new w1 59 #[.pointer (some ⟨w.heap.size + 1 + 1, 0, none⟩)]
  have hbB : Below w.heap.size w (w1.alloc (.cells #[.pointer (some ⟨w.heap.size + 1 + 1, 0, none⟩)] 59)) := hb.alloc hb.size _
  rw [hz] at b3
  replace b0 := b0.alloc (.cells #[.pointer (some ⟨w.heap.size + 1 + 1, 0, none⟩)] 59)
  replace b1 := b1.alloc (.cells #[.pointer (some ⟨w.heap.size + 1 + 1, 0, none⟩)] 59)
  replace b2 := b2.alloc (.cells #[.pointer (some ⟨w.heap.size + 1 + 1, 0, none⟩)] 59)
  have hz2 : (w1.alloc (.cells #[.pointer (some ⟨w.heap.size + 1 + 1, 0, none⟩)] 59)).heap.size = w.heap.size + 4 := by simp [hz]
  generalize w1.alloc (.cells #[.pointer (some ⟨w.heap.size + 1 + 1, 0, none⟩)] 59) = w2 at *
  refine (caught_run w.heap.size (w.heap.size + 1) (w.heap.size + 3) (w.heap.size + 1 + 1) w.heap.size s A n c l w2 x b0 b1 b3 b2 (h.below hbB) (by omega) (by omega) (by omega) (by omega) (by omega) (by omega) (by omega) (by omega) hs hn hx).mono ?_
  rintro e w3 ⟨⟨at_, rfl⟩, ⟨⟨A3, n3, c3, bL, o3⟩, bG, hK⟩⟩
  have b4 := hK.blk b3 (by omega) (by omega)
  have hbC : Below w.heap.size w w3 := hbB.trans (hK.below (by omega) (by omega) (by omega))
  clear b0 b1 b2 b3 hb hbB hz hK
  obtain ⟨lc, lf, lz⟩ := blk1 bL
  obtain ⟨tc, _, tz⟩ := blk1 b4
  obtain ⟨_, gc, _, _, gz⟩ := blk2 bG
  obtain ⟨xs, at2, er⟩ := x
  go_wp2_with fail
  go_region
  all_goals
    go_wp2_with fail
    have o4 : Own (w3.setCell ⟨w.heap.size + 1, 0, none⟩ (.slice A3 n3 c3)).drew w2.heap.size 68 2 A3 n3 c3 (gcells xs) := (o3.far (fun e => by have := (o3.blk (w.heap.size + 1) e).1; omega) _).drew
    have hbE : Below w.heap.size w (w3.setCell ⟨w.heap.size + 1, 0, none⟩ (.slice A3 n3 c3)).drew := (hbC.setCell (by show w.heap.size ≤ w.heap.size + 1; omega) _).drew
    have c4 : (w3.setCell ⟨w.heap.size + 1, 0, none⟩ (.slice A3 n3 c3)).drew.cell? ⟨w.heap.size + 1, 0, none⟩ = some (.slice A3 n3 c3) := ((bL.set 0 (.slice A3 n3 c3)).drew).cell_ 0 rfl
    generalize (w3.setCell ⟨w.heap.size + 1, 0, none⟩ (.slice A3 n3 c3)).drew = w5 at *
    refine bodyPost_ret (v := .tuple #[.slice A3 n3 c3, .int .i64 at2, .int .i64 er]) (by simp [results, Try.results33, go_sem, c4]) rfl ⟨A3, n3, c3, rfl, o4.cap, o4.rd, hbE⟩
end TakW
end Go.Proofs.Ytjdmbpkabeaccaa
