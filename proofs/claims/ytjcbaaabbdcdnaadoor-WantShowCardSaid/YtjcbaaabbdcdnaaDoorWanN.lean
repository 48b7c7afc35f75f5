/- The walks of package want: a word of a query. -/
import Derived.Test.YtjcbaaabbdcdnaaDoorWanM
namespace Go.Proofs.YtjcbaaabbdcdnaaDoor
set_option linter.unusedVariables false
set_option linter.unusedSimpArgs false
set_option linter.unnecessarySimpa false
open Go.RowKit
namespace WanW
open SkpW (Qy qv qc chkQ)

theorem grown_set {a b : World} {g : Nat} (h : a.grownBy b (some g)) (i : Nat) (v : Value) : a.grownBy (b.setCell ⟨g, i, none⟩ v) (some g) :=
  ⟨h.os, h.tape, h.output, by simpa [World.setCell] using h.size, fun k hk hne => (Below.heap_setCell b ⟨g, i, none⟩ v k (fun e => hne (by rw [e]))).trans (h.block k hk hne)⟩
theorem grown_some {a b : World} (h : Below a.heap.size a b) (g : Nat) : a.grownBy b (some g) := ⟨h.os, h.tape, h.output, h.size, fun k hk _ => h.block k hk⟩
theorem blk7f {w : World} {g : Nat} {t : TypeId} {a0 a1 a2 a3 a4 a5 a6 : Value} (h : Blk w g t #[a0, a1, a2, a3, a4, a5, a6]) :
    w.cell? ⟨g, 0, none⟩ = some a0 ∧ w.cell? ⟨g, 1, none⟩ = some a1 ∧ w.cell? ⟨g, 2, none⟩ = some a2 ∧ w.cell? ⟨g, 3, none⟩ = some a3 ∧ w.cell? ⟨g, 4, none⟩ = some a4 ∧ w.cell? ⟨g, 5, none⟩ = some a5 ∧ w.cell? ⟨g, 6, none⟩ = some a6 ∧
    w.frozen? ⟨g, 0, none⟩ = false ∧ w.frozen? ⟨g, 1, none⟩ = false ∧ w.frozen? ⟨g, 2, none⟩ = false ∧ w.frozen? ⟨g, 3, none⟩ = false ∧ w.frozen? ⟨g, 4, none⟩ = false ∧ w.frozen? ⟨g, 5, none⟩ = false ∧ w.frozen? ⟨g, 6, none⟩ = false :=
  ⟨h.cell_ 0 rfl, h.cell_ 1 rfl, h.cell_ 2 rfl, h.cell_ 3 rfl, h.cell_ 4 rfl, h.cell_ 5 rfl, h.cell_ 6 rfl, h.frozen 0, h.frozen 1, h.frozen 2, h.frozen 3, h.frozen 4, h.frozen 5, h.frozen 6⟩
set_option maxRecDepth 100000 in
set_option maxHeartbeats 4000000 in
theorem word_1 (g : Nat) (q : Qy) (v : List UInt8) (w : World) (h : Wo w) (hg : Blk w g 26 (qc q)) (hs : v.length ≤ 10000) (b : Bool) (hb : ok2 v = b) :
    Calls Tryd.prog 20 #[.pointer (some ⟨g, 0, none⟩), .string ⟨#[115, 101, 113]⟩, str v] w fun e w' => e = .returned (.bool b) ∧ Blk w' g 26 (qc { q with s1 := lo2 v, s2 := hi2 v }) ∧ w.grownBy w' (some g) := by
  have C := numbers_any v w h hs b hb
  have hlt := hg.lt
  obtain ⟨x, hx⟩ : ∃ x, lo2 v = x := ⟨_, rfl⟩
  obtain ⟨y, hy⟩ : ∃ y, hi2 v = y := ⟨_, rfl⟩
  rw [hx, hy] at C ⊢
  clear hx hy
  go_enter Tryd.func20, Tryd.ntmps20
  go_wp2_with fail
  refine C.mono ?_
  rintro e w1 ⟨rfl, hb1⟩
  have hg1 := hg.below hb1 hlt
  have G := grown_some hb1 g
  obtain ⟨c0, c1, c2, c3, c4, c5, c6, f0, f1, f2, f3, f4, f5, f6⟩ := blk7f hg1
  go_wp2_with fail
  go_ret
  exact ⟨rfl, (hg1.set 0 (.int .i64 x)).set 1 (.int .i64 y), grown_set (grown_set G 0 _) 1 _⟩
set_option maxRecDepth 100000 in
set_option maxHeartbeats 4000000 in
theorem word_2 (g : Nat) (q : Qy) (v : List UInt8) (w : World) (h : Wo w) (hg : Blk w g 26 (qc q)) (hs : v.length ≤ 10000) (b : Bool) (hb : ok2 v = b) :
    Calls Tryd.prog 20 #[.pointer (some ⟨g, 0, none⟩), .string ⟨#[116, 105, 99, 107]⟩, str v] w fun e w' => e = .returned (.bool b) ∧ Blk w' g 26 (qc { q with t1 := lo2 v, t2 := hi2 v }) ∧ w.grownBy w' (some g) := by
  have C := numbers_any v w h hs b hb
  have hlt := hg.lt
  obtain ⟨x, hx⟩ : ∃ x, lo2 v = x := ⟨_, rfl⟩
  obtain ⟨y, hy⟩ : ∃ y, hi2 v = y := ⟨_, rfl⟩
  rw [hx, hy] at C ⊢
  clear hx hy
  go_enter Tryd.func20, Tryd.ntmps20
  go_wp2_with fail
  refine C.mono ?_
  rintro e w1 ⟨rfl, hb1⟩
  have hg1 := hg.below hb1 hlt
  have G := grown_some hb1 g
  obtain ⟨c0, c1, c2, c3, c4, c5, c6, f0, f1, f2, f3, f4, f5, f6⟩ := blk7f hg1
  go_wp2_with fail
  go_ret
  exact ⟨rfl, (hg1.set 2 (.int .i64 x)).set 3 (.int .i64 y), grown_set (grown_set G 2 _) 3 _⟩
set_option maxRecDepth 100000 in
set_option maxHeartbeats 4000000 in
theorem word_3 (g : Nat) (q : Qy) (v : List UInt8) (w : World) (hg : Blk w g 26 (qc q)) (hs : v.length ≤ 10000) (b : Bool) (hb : (unhexV v).2 = b) :
    Calls Tryd.prog 20 #[.pointer (some ⟨g, 0, none⟩), .string ⟨#[102, 105, 110, 100]⟩, str v] w fun e w' => e = .returned (.bool b) ∧ Blk w' g 26 (qc { q with find := (unhexV v).1 }) ∧ w.grownBy w' (some g) := by
  obtain ⟨x, hx⟩ : ∃ x, (unhexV v).1 = x := ⟨_, rfl⟩
  have C := unhex_any v w x b (Prod.ext hx hb) (by omega)
  have hlt := hg.lt
  rw [hx]
  clear hx hb
  go_enter Tryd.func20, Tryd.ntmps20
  go_wp2_with fail
  refine C.mono ?_
  rintro e w1 ⟨rfl, hb1⟩
  have hg1 := hg.below hb1 hlt
  have G := grown_some hb1 g
  obtain ⟨c0, c1, c2, c3, c4, c5, c6, f0, f1, f2, f3, f4, f5, f6⟩ := blk7f hg1
  go_wp2_with fail
  go_ret
  exact ⟨rfl, hg1.set 4 (str x), grown_set G 4 _⟩
set_option maxRecDepth 100000 in
set_option maxHeartbeats 4000000 in
theorem word_4 (g : Nat) (q : Qy) (v : List UInt8) (w : World) (hg : Blk w g 26 (qc q)) (hs : v.length ≤ 10000) (b : Bool) (hb : (numV v).2 = b) :
    Calls Tryd.prog 20 #[.pointer (some ⟨g, 0, none⟩), .string ⟨#[108, 105, 109, 105, 116]⟩, str v] w fun e w' => e = .returned (.bool b) ∧ Blk w' g 26 (qc { q with limit := (numV v).1 }) ∧ w.grownBy w' (some g) := by
  obtain ⟨x, hx⟩ : ∃ x, (numV v).1 = x := ⟨_, rfl⟩
  have C := number_any v w x b (Prod.ext hx hb) (by omega)
  have hlt := hg.lt
  rw [hx]
  clear hx hb
  go_enter Tryd.func20, Tryd.ntmps20
  go_wp2_with fail
  refine C.mono ?_
  rintro e w1 ⟨rfl, hb1⟩
  have hg1 := hg.below hb1 hlt
  have G := grown_some hb1 g
  obtain ⟨c0, c1, c2, c3, c4, c5, c6, f0, f1, f2, f3, f4, f5, f6⟩ := blk7f hg1
  go_wp2_with fail
  go_ret
  exact ⟨rfl, hg1.set 5 (.int .i64 x), grown_set G 5 _⟩
set_option maxRecDepth 100000 in
set_option maxHeartbeats 4000000 in
theorem word_5 (g : Nat) (q : Qy) (v : List UInt8) (w : World) (hg : Blk w g 26 (qc q)) (hs : v.length ≤ 10000) (b : Bool) (hb : (numV v).2 = b) :
    Calls Tryd.prog 20 #[.pointer (some ⟨g, 0, none⟩), .string ⟨#[102, 114, 111, 109]⟩, str v] w fun e w' => e = .returned (.bool b) ∧ Blk w' g 26 (qc { q with frm := (numV v).1 }) ∧ w.grownBy w' (some g) := by
  obtain ⟨x, hx⟩ : ∃ x, (numV v).1 = x := ⟨_, rfl⟩
  have C := number_any v w x b (Prod.ext hx hb) (by omega)
  have hlt := hg.lt
  rw [hx]
  clear hx hb
  go_enter Tryd.func20, Tryd.ntmps20
  go_wp2_with fail
  refine C.mono ?_
  rintro e w1 ⟨rfl, hb1⟩
  have hg1 := hg.below hb1 hlt
  have G := grown_some hb1 g
  obtain ⟨c0, c1, c2, c3, c4, c5, c6, f0, f1, f2, f3, f4, f5, f6⟩ := blk7f hg1
  go_wp2_with fail
  go_ret
  exact ⟨rfl, hg1.set 6 (.int .i64 x), grown_set G 6 _⟩
theorem key_ne (k l : List UInt8) (h : k ≠ l) : (k == l) = false := beq_eq_false_iff_ne.2 h
set_option maxRecDepth 100000 in
set_option maxHeartbeats 4000000 in
theorem word_0 (g : Nat) (q : Qy) (k v : List UInt8) (w : World) (hg : Blk w g 26 (qc q)) (h1 : k ≠ keyL 1) (h2 : k ≠ keyL 2) (h3 : k ≠ keyL 3) (h4 : k ≠ keyL 4) (h5 : k ≠ keyL 5) :
    Calls Tryd.prog 20 #[.pointer (some ⟨g, 0, none⟩), str k, str v] w fun e w' => e = .returned (.bool false) ∧ Blk w' g 26 (qc q) ∧ w.grownBy w' (some g) := by
  have e1 := key_ne k _ h1
  have e2 := key_ne k _ h2
  have e3 := key_ne k _ h3
  have e4 := key_ne k _ h4
  have e5 := key_ne k _ h5
  simp only [keyL] at e1 e2 e3 e4 e5
  clear h1 h2 h3 h4 h5
  go_enter Tryd.func20, Tryd.ntmps20
  go_wp2_with fail
  go_ret
  exact ⟨rfl, hg, World.grownBy.refl _ _⟩
theorem word_any (g : Nat) (q : Qy) (k v : List UInt8) (w : World) (h : Wo w) (hg : Blk w g 26 (qc q)) (hs : v.length ≤ 10000) :
    Calls Tryd.prog 20 #[.pointer (some ⟨g, 0, none⟩), str k, str v] w fun e w' => e = .returned (.bool (okW (keyN k) v)) ∧ Blk w' g 26 (qc (setW (keyN k) q v)) ∧ w.grownBy w' (some g) := by
  rcases keyN_cases k with ⟨e, hk⟩ | ⟨e, hk⟩ | ⟨e, hk⟩ | ⟨e, hk⟩ | ⟨e, hk⟩ | ⟨e, h1, h2, h3, h4, h5⟩
  · rw [e, hk]; exact word_1 g q v w h hg hs _ rfl
  · rw [e, hk]; exact word_2 g q v w h hg hs _ rfl
  · rw [e, hk]; exact word_3 g q v w hg hs _ rfl
  · rw [e, hk]; exact word_4 g q v w hg hs _ rfl
  · rw [e, hk]; exact word_5 g q v w hg hs _ rfl
  · rw [e]; exact word_0 g q k v w hg h1 h2 h3 h4 h5
end WanW
end Go.Proofs.YtjcbaaabbdcdnaaDoor
