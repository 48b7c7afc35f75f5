/- Walks over package take: the loop that Run's closure is. -/
import Derived.Test.YtjdmbpkabeaccaaTakC
import Derived.Test.YtjdmbpkabeaccaaTakQ
import Derived.Test.YtjdmbpkabeaccaaReg2
namespace Go.Proofs.Ytjdmbpkabeaccaa
set_option linter.unusedVariables false
set_option linter.unusedSimpArgs false
set_option linter.unnecessarySimpa false
open Go.RowKit
namespace TakW

/-- Nothing that was there at w has turned, but for blocks bl and g. -/
structure Kept (w w' : World) (bl g : Nat) : Prop where
  os : w'.os = w.os
  tape : w'.tape = w.tape
  output : w'.output = w.output
  size : w.heap.size ≤ w'.heap.size
  block : ∀ k, k < w.heap.size → k ≠ bl → k ≠ g → w'.heap[k]? = w.heap[k]?
theorem Kept.refl (w : World) (bl g : Nat) : Kept w w bl g := ⟨rfl, rfl, rfl, Nat.le_refl _, fun _ _ _ _ => rfl⟩
theorem Kept.grown {w w1 w2 : World} {bl g : Nat} {row : Option Nat} (h : Kept w w1 bl g) (hg : w1.grownBy w2 row) (hr : ∀ k, row = some k → k = bl ∨ k = g ∨ w.heap.size ≤ k) : Kept w w2 bl g :=
  ⟨hg.os.trans h.os, hg.tape.trans h.tape, hg.output.trans h.output, Nat.le_trans h.size hg.size, fun k hk h1 h2 =>
    (hg.block k (Nat.lt_of_lt_of_le hk h.size) (fun e => by rcases hr k e.symm with e | e | e <;> first | exact h1 e | exact h2 e | omega)).trans (h.block k hk h1 h2)⟩
theorem grown_set (w : World) (g i : Nat) (v : Value) : w.grownBy (w.setCell ⟨g, i, none⟩ v) (some g) :=
  ⟨rfl, rfl, rfl, by simp [World.setCell], fun k _ hne => Below.heap_setCell _ _ _ k (fun e => hne (by rw [e]))⟩
theorem grown_new (w : World) (o : Obj) : w.grownBy (w.alloc o) none := ⟨rfl, rfl, rfl, by simp, fun k hk _ => Below.heap_alloc w o k hk⟩
theorem grown_drew (w : World) : w.grownBy w.drew none := ⟨rfl, rfl, rfl, Nat.le_refl _, fun _ _ _ => rfl⟩
theorem Kept.below {w w' : World} {bl g B : Nat} (h : Kept w w' bl g) (hB : B ≤ w.heap.size) (h1 : B ≤ bl) (h2 : B ≤ g) : Below B w w' :=
  ⟨h.os, h.tape, h.output, h.size, fun k hk => h.block k (by omega) (by omega) (by omega)⟩
theorem Kept.blk {w w' : World} {bl g b : Nat} {t : TypeId} {cs : Array Value} (h : Kept w w' bl g) (hb : Blk w b t cs) (h1 : b ≠ bl) (h2 : b ≠ g) : Blk w' b t cs := (h.block b hb.lt h1 h2).trans hb

theorem El_got' : El Try.prog 52 68 2 24 := El.mk' Try.underlying52 (z := .agg #[.int .i64 0, .string ⟨#[]⟩]) (by kernel_rfl) rfl (by decide)

/-- What the loop leaves: the row of what was taken, the taker at its place. -/
structure Ran (w w' : World) (bl g : Nat) (s : List UInt8) (acc : List (Int × List UInt8)) (p : Int) : Prop where
  row : ∃ A n c, Blk w' bl 52 #[.slice A n c] ∧ Own w' w.heap.size 68 2 A n c (gcells acc)
  tak : Blk w' g 102 (tk s p)
  kept : Kept w w' bl g

/-- A round's facts, within the region that takes one piece. -/
structure Rnd (w wr : World) (bl bt g V j : Nat) (s : List UInt8) (A2 : Option Addr) (c2 : Nat) (acc : List (Int × List UInt8)) (q k n : Int) : Prop where
  bL : Blk wr bl 52 #[.slice A2 j c2]
  o : Own wr w.heap.size 68 2 A2 j c2 (gcells acc)
  bG : Blk wr g 102 (tk s q)
  bT : Blk wr bt 59 #[.pointer (some ⟨g, 0, none⟩)]
  bV : Blk wr V 62 #[.int .i64 k, .int .i64 n]
  kept : Kept w wr bl g
  hl : bl < w.heap.size
  ht : bt < w.heap.size
  hg : g < w.heap.size
  hV : w.heap.size ≤ V
  hA : blkOf A2 ≠ some V
  h3 : bt ≠ bl
  h4 : bt ≠ g
  h5 : bl ≠ g
section
variable {w wr w1 : World} {bl bt g V j : Nat} {s : List UInt8} {A2 : Option Addr} {c2 : Nat} {acc : List (Int × List UInt8)} {q q1 k n : Int}
theorem Rnd.grown (h : Rnd w wr bl bt g V j s A2 c2 acc q k n) {row : Option Nat} (hg : wr.grownBy w1 row) (h1 : row ≠ some bl) (h2 : row ≠ some bt) (h3 : row ≠ some V) (h4 : blkOf A2 = none ∨ blkOf A2 ≠ row)
    (hG : Blk w1 g 102 (tk s q1)) (hr : ∀ k, row = some k → k = bl ∨ k = g ∨ w.heap.size ≤ k) : Rnd w w1 bl bt g V j s A2 c2 acc q1 k n :=
  ⟨h.bL.grown hg (Ne.symm h1), h.o.grown hg h4, hG, h.bT.grown hg (Ne.symm h2), h.bV.grown hg (Ne.symm h3), h.kept.grown hg hr, h.hl, h.ht, h.hg, h.hV, h.hA, h.h3, h.h4, h.h5⟩
theorem Rnd.drew (h : Rnd w wr bl bt g V j s A2 c2 acc q k n) : Rnd w wr.drew bl bt g V j s A2 c2 acc q k n :=
  h.grown (grown_drew _) (by simp) (by simp) (by simp) (by cases blkOf A2 <;> simp) h.bG (by simp)
theorem Rnd.none (h : Rnd w wr bl bt g V j s A2 c2 acc q k n) (hg : wr.grownBy w1 none) : Rnd w w1 bl bt g V j s A2 c2 acc q k n :=
  h.grown hg (by simp) (by simp) (by simp) (by cases blkOf A2 <;> simp) (h.bG.grown hg (by simp)) (by simp)
theorem Rnd.left (h : Rnd w wr bl bt g V j s A2 c2 acc q k n) (hL : Left wr w1 g s q1) : Rnd w w1 bl bt g V j s A2 c2 acc q1 k n := by
  have e1 := h.h4
  have e2 := h.h5
  have e3 := h.hg
  have e4 := h.hV
  refine h.grown hL.2 (fun e => h.h5 (Option.some.inj e).symm) (fun e => h.h4 (Option.some.inj e).symm) (fun e => ?_) (.inr fun e => ?_) hL.1 (fun k e => .inr (.inl (Option.some.inj e).symm))
  · have := Option.some.inj e; omega
  · have := (h.o.blk g e).1; omega
theorem Rnd.S (h : Rnd w wr bl bt g V j s A2 c2 acc q k n) : wr.cell? ⟨bt, 0, Option.none⟩ = some (.pointer (some ⟨g, 0, Option.none⟩)) ∧ wr.cell? ⟨V, 0, Option.none⟩ = some (.int .i64 k) ∧ wr.cell? ⟨V, 1, Option.none⟩ = some (.int .i64 n) :=
  ⟨h.bT.cell_ 0 rfl, h.bV.cell_ 0 rfl, h.bV.cell_ 1 rfl⟩
theorem Rnd.end_ (h : Rnd w wr bl bt g V j s A2 c2 acc q k n) {A3 : Option Addr} {c3 m : Nat} {z : Int × List UInt8} (hgr : wr.grownBy w1 (blkOf A2)) (ho : Own w1 w.heap.size 68 2 A3 m c3 (gcells (acc ++ [z]))) :
    Blk (w1.setCell ⟨bl, 0, Option.none⟩ (.slice A3 m c3)) bl 52 #[.slice A3 m c3] ∧ Own (w1.setCell ⟨bl, 0, Option.none⟩ (.slice A3 m c3)) w.heap.size 68 2 A3 m c3 (gcells (acc ++ [z])) ∧
    Blk (w1.setCell ⟨bl, 0, Option.none⟩ (.slice A3 m c3)) g 102 (tk s q) ∧ Kept w (w1.setCell ⟨bl, 0, Option.none⟩ (.slice A3 m c3)) bl g := by
  have e1 := h.hl
  have e2 := h.hg
  have hne : ∀ b, b < w.heap.size → some b ≠ blkOf A2 := fun b hb e => by have := (h.o.blk b e.symm).1; omega
  refine ⟨(h.bL.grown hgr (hne _ e1)).set 0 _, ho.far (fun e => by have := (ho.blk bl e).1; omega) _, (h.bG.grown hgr (hne _ e2)).far (fun e => h.h5 e.symm) _, ?_⟩
  exact (h.kept.grown hgr (fun k e => .inr (.inr (h.o.blk k e).1))).grown (grown_set _ _ _ _) (fun k e => .inl (Option.some.inj e).symm)
theorem Rnd.S1 (h : Rnd w wr bl bt g V j s A2 c2 acc q k n) (hgr : wr.grownBy w1 (blkOf A2)) (hAV : blkOf A2 ≠ some V) (v : Value) : 
    (w1.cell? ⟨bt, 0, Option.none⟩ = some (.pointer (some ⟨g, 0, Option.none⟩)) ∧ w1.cell? ⟨V, 0, Option.none⟩ = some (.int .i64 k) ∧ w1.cell? ⟨V, 1, Option.none⟩ = some (.int .i64 n)) ∧
    ((w1.setCell ⟨bl, 0, Option.none⟩ v).cell? ⟨bt, 0, Option.none⟩ = some (.pointer (some ⟨g, 0, Option.none⟩)) ∧ (w1.setCell ⟨bl, 0, Option.none⟩ v).cell? ⟨V, 0, Option.none⟩ = some (.int .i64 k) ∧ (w1.setCell ⟨bl, 0, Option.none⟩ v).cell? ⟨V, 1, Option.none⟩ = some (.int .i64 n)) := by
  have e1 := h.hl
  have e2 := h.hV
  have e3 := h.ht
  have t1 : Blk w1 bt 59 #[.pointer (some ⟨g, 0, Option.none⟩)] := h.bT.grown hgr (fun e => by have := (h.o.blk _ e.symm).1; omega)
  have t2 : Blk w1 V 62 #[.int .i64 k, .int .i64 n] := h.bV.grown hgr (Ne.symm hAV)
  have t3 := t1.far (p := ⟨bl, 0, Option.none⟩) h.h3 v
  have t4 := t2.far (p := ⟨bl, 0, Option.none⟩) (by show V ≠ bl; omega) v
  exact ⟨⟨t1.cell_ 0 rfl, t2.cell_ 0 rfl, t2.cell_ 1 rfl⟩, ⟨t3.cell_ 0 rfl, t4.cell_ 0 rfl, t4.cell_ 1 rfl⟩⟩
end

/-- How the loop ends: at a fault it panics. -/
def Ends (x : List (Int × List UInt8) × Int × Int) (e : Ending) : Prop := x.2.2 = 0 ∧ e = .returned (.tuple #[]) ∨ x.2.2 ≠ 0 ∧ e = .panicked (flt x.2.2 x.2.1)
set_option maxRecDepth 100000 in
set_option maxHeartbeats 2000000 in
theorem loop_ok (bw bl bt g B : Nat) (s : List UInt8) (A : Option Addr) (n c : Nat) (l : List (Int × Int)) (w : World) (x : List (Int × List UInt8) × Int × Int)
    (hbw : Blk w bw 50 #[.slice A n c]) (hbl : Blk w bl 52 #[.slice none 0 0]) (hbt : Blk w bt 59 #[.pointer (some ⟨g, 0, none⟩)]) (hg : Blk w g 102 (tk s 0))
    (h : Rd w B 2 A n (wcells l)) (hB : B ≤ w.heap.size) (hB1 : B ≤ bl) (hB2 : B ≤ g) (h1 : bw ≠ bl) (h2 : bw ≠ g) (h3 : bt ≠ bl) (h4 : bt ≠ g) (h5 : bl ≠ g)
    (hs : s.length ≤ 1000000) (hn : n ≤ 1000000) (hx : runV s l 0 = x) :
    Calls Try.prog 65 #[.pointer (some ⟨bw, 0, none⟩), .pointer (some ⟨bl, 0, none⟩), .pointer (some ⟨bt, 0, none⟩)] w fun e w' =>
      Ends x e ∧ Ran w w' bl g s x.1 x.2.1 := by
  have hl := rd_wlen h
  have HOK := Lib.hid (fun p k n => @oneV_ok s p k n)
  have hX0 : x = ([] ++ (runV s (l.drop 0) 0).1, (runV s (l.drop 0) 0).2) := by rw [← hx]; rfl
  have HX := Lib.hid hX0
  clear hX0
  have hl1 : l.length ≤ n := by omega
  have hl2 : n ≤ l.length := by omega
  have HBW := hbw
  obtain ⟨wc, wf, _⟩ := blk1 HBW
  have hltl := hbl.lt
  have hltt := hbt.lt
  have hltg := hg.lt
  clear hx hl HBW
  go_enter Try.func65, Try.ntmps65
  go_wp2_with fail
  clear wc wf
  go_loopw [7] (fun i wr => ∃ (j : Nat) (q : Int) (acc : List (Int × List UInt8)) (A2 : Option Addr) (c2 : Nat), i = .int .i64 j ∧ j ≤ n ∧ 0 ≤ q ∧ q ≤ s.length ∧ x = (acc ++ (runV s (l.drop j) q).1, (runV s (l.drop j) q).2) ∧
    Blk wr bl 52 #[.slice A2 j c2] ∧ Own wr w.heap.size 68 2 A2 j c2 (gcells acc) ∧ Blk wr g 102 (tk s q) ∧ Kept w wr bl g) (fun i _ => n - (intOf i).toNat)
  case atStart => exact ⟨0, 0, [], none, 0, rfl, by omega, by omega, by omega, HX.out, hbl, Own.nil _ _ _ _, hg, Kept.refl _ _ _⟩
  case round =>
    obtain ⟨j, q, acc, A2, c2, rfl, hj, hq0, hqs, hr, bL, o2, bG, hK⟩ := hrel
    have HR := Lib.hid hr
    have hsz := hK.size
    clear hr
    have bT := hK.blk hbt h3 h4
    by_cases hlt : j < n
    · have hjl : j < l.length := by omega
      obtain ⟨b, o, rfl, hb, hc⟩ := rd_wcells (h.below (hK.below hB hB1 hB2)) (by omega)
      obtain ⟨c0, c1⟩ := hc j hjl
      have HY := Lib.hid (runV_yes (s := s) (p := q) hjl)
      have HN := Lib.hid (runV_no (s := s) (p := q) hjl)
      have HO := Lib.hid (HOK.out q l[j].1 l[j].2 hq0 hqs)
      obtain ⟨z, hz⟩ : ∃ z, oneV s q l[j].1 l[j].2 = z := ⟨_, rfl⟩
      rw [hz] at HY HN HO
      have HZ := Lib.hid hz
      clear hc hz
      go_wp2_with fail
      have bV := Blk.new wr 62 #[.int .i64 l[j].1, .int .i64 l[j].2]
      have hR : Rnd w (wr.alloc (.cells #[.int .i64 l[j].1, .int .i64 l[j].2] 62)) bl bt g wr.heap.size j s A2 c2 acc q l[j].1 l[j].2 :=
        ⟨bL.alloc _, o2.alloc _, bG.alloc _, bT.alloc _, bV, hK.grown (grown_new _ _) (by simp), hltl, hltt, hltg, hsz, fun e => by have := (o2.blk _ e).2; omega, h3, h4, h5⟩
      generalize hVV : wr.heap.size = V at *
      generalize wr.alloc (.cells #[.int .i64 l[j].1, .int .i64 l[j].2] 62) = w0 at *
      clear bV bL o2 bG hK bT c0 c1 hbw hbl hbt hg h
      replace hR := hR.drew
      refine wp_region_held_drew (S := fun w' => w'.cell? ⟨bt, 0, none⟩ = some (.pointer (some ⟨g, 0, none⟩)) ∧ w'.cell? ⟨V, 0, none⟩ = some (.int .i64 l[j].1) ∧ w'.cell? ⟨V, 1, none⟩ = some (.int .i64 l[j].2)) (by kernel_rfl) hR.S (fun hHeld => ?_)
      refine take_op (v := .pointer (some ⟨g, 0, none⟩)) 1 (Op.load 59 (Operand.tmp 2)) 59 rfl rfl rfl rfl rfl (by kernel_rfl) (by kernel_rfl) (by kernel_rfl) (fun _ _ _ h => h) (by intro w' hSw; (try dsimp only at hSw); go_simp; try (with_reducible rfl)) (by assumption) ?_
      simp only [List.setIfInBounds_toArray, List.set_cons_zero, List.set_cons_succ]
      refine take_op (v := wn l[j].1 l[j].2) 2 (Op.load 62 (Operand.tmp 4)) 62 rfl rfl rfl rfl rfl (by kernel_rfl) (by kernel_rfl) (by kernel_rfl) (fun _ _ _ h => h) (by intro w' hSw; (try dsimp only at hSw); go_simp; try (with_reducible rfl)) (by assumption) ?_
      simp only [List.setIfInBounds_toArray, List.set_cons_zero, List.set_cons_succ]
      by_cases he : z.2.2 = 0
      · have hx : x = (acc ++ [z.1] ++ (runV s (l.drop (j + 1)) z.2.1).1, (runV s (l.drop (j + 1)) z.2.1).2) := by rw [HR.out, HY.out he]; simp
        have HXX := Lib.hid hx
        replace he := Lib.hid he
        clear hx
        refine wpAnyH_ready (rs := [0, 3]) (by kernel_rfl) (by simp) (AllReadyH.cons rfl (fun K0 hK0 => ?_) (AllReadyH.cons rfl (fun K3 hK3 => ?_) AllReadyH.nil))
        · (refine take_any 0 (Op.load 52 (Operand.tmp 1)) 52 rfl rfl rfl (by kernel_rfl) (v := .slice A2 j c2) (by have cL := hR.bL.cell_ 0 rfl; go_simp; try (with_reducible rfl)) ?_; refine hK0.out _ _ hR.S (fun hHeld => ?_); try simp only [List.setIfInBounds_toArray, List.set_cons_zero, List.set_cons_succ])
          refine wpAnyH_ready (rs := [3]) (by kernel_rfl) (by simp) (AllReadyH.cons rfl (fun K3 hK3 => ?_) AllReadyH.nil)
          (refine take_calls 3 66 [Operand.tmp 12, Operand.tmp 13] #[59, 62] rfl rfl (by kernel_rfl) (fun args w => run_enter Try.func66 (by kernel_rfl) rfl args w) ?_; refine (want_ok g s q l[j].1 l[j].2 _ hR.bG hq0 hqs (by omega) z HZ.out he.out).mono ?_; rintro e w3 ⟨rfl, hL⟩; replace hR := hR.left hL; refine ⟨_, rfl, ?_⟩; refine hK3.out _ _ hR.S (fun hHeld => ?_); try simp only [List.setIfInBounds_toArray, List.set_cons_zero, List.set_cons_succ])
          refine wpAnyH_ready (rs := [4]) (by kernel_rfl) (by simp) (AllReadyH.cons rfl (fun K4 hK4 => ?_) AllReadyH.nil)
          (refine take_build (e := 68) (len := 1) (size := 2) w.heap.size (gcells [z.1]) 4 (Op.buildSlice 52 1 #[(0, Operand.tmp 14)]) 52 rfl rfl rfl (by kernel_rfl) (by go_simp; try (first | with_reducible rfl | rfl)) rfl (by decide) hR.kept.size ?_; intro gx w4 o4 gr4 l4 m4; replace hR := hR.none gr4; refine hK4.out _ _ hR.S (fun hHeld => ?_); try simp only [List.setIfInBounds_toArray, List.set_cons_zero, List.set_cons_succ])
          refine wpAnyH_ready (rs := [5]) (by kernel_rfl) (by simp) (AllReadyH.cons rfl (fun K5 hK5 => ?_) AllReadyH.nil)
          (refine take_app El_got' 5 (Operand.tmp 11) (Operand.tmp 15) 52 rfl rfl rfl (by kernel_rfl) hR.o rfl o4.rd rfl (gcells_one _) (by unfold maxLen; omega) (by omega) hR.kept.size ?_; intro A5 c5 w5 o5 gr5 at5; have hS := hR.S1 gr5 hR.hA (.slice A5 (j + 1) c5); rw [← gcells_append] at o5; have hE := hR.end_ gr5 o5; have bL5 : Blk w5 bl 52 #[.slice A2 j c2] := hR.bL.grown gr5 (fun e => by have := (hR.o.blk _ e.symm).1; omega); refine hK5.out _ _ hS.1 (fun hHeld => ?_); try simp only [List.setIfInBounds_toArray, List.set_cons_zero, List.set_cons_succ])
          refine wpAnyH_ready (rs := [6]) (by kernel_rfl) (by simp) (AllReadyH.cons rfl (fun K6 hK6 => ?_) AllReadyH.nil)
          (refine take_store 6 (Op.store 52 (Operand.tmp 1) (Operand.tmp 16)) 0 rfl rfl rfl (by kernel_rfl) (w' := w5.setCell ⟨bl, 0, none⟩ (.slice A5 (j + 1) c5)) (by obtain ⟨cL, fL, _⟩ := blk1 bL5; go_simp; try (with_reducible rfl)) ?_; refine hK6.out _ _ hS.2 (fun hHeld => ?_); refine wpAnyH_done (by kernel_rfl) ?_ _)
          (go_wp2_with fail; go_roundw; (case rel => exact ⟨j + 1, z.2.1, acc ++ [z.1], A5, c5, by go_num, by omega, by have := (HO.out he.out).1; omega, (HO.out he.out).2, HXX.out, hE.1, hE.2.1, hE.2.2.1, hE.2.2.2⟩); (case measure => simp [intOf]; omega))
        · (refine take_calls 3 66 [Operand.tmp 12, Operand.tmp 13] #[59, 62] rfl rfl (by kernel_rfl) (fun args w => run_enter Try.func66 (by kernel_rfl) rfl args w) ?_; refine (want_ok g s q l[j].1 l[j].2 _ hR.bG hq0 hqs (by omega) z HZ.out he.out).mono ?_; rintro e w3 ⟨rfl, hL⟩; replace hR := hR.left hL; refine ⟨_, rfl, ?_⟩; refine hK3.out _ _ hR.S (fun hHeld => ?_); try simp only [List.setIfInBounds_toArray, List.set_cons_zero, List.set_cons_succ])
          refine wpAnyH_ready (rs := [0, 4]) (by kernel_rfl) (by simp) (AllReadyH.cons rfl (fun K0 hK0 => ?_) (AllReadyH.cons rfl (fun K4 hK4 => ?_) AllReadyH.nil))
          · (refine take_any 0 (Op.load 52 (Operand.tmp 1)) 52 rfl rfl rfl (by kernel_rfl) (v := .slice A2 j c2) (by have cL := hR.bL.cell_ 0 rfl; go_simp; try (with_reducible rfl)) ?_; refine hK0.out _ _ hR.S (fun hHeld => ?_); try simp only [List.setIfInBounds_toArray, List.set_cons_zero, List.set_cons_succ])
            refine wpAnyH_ready (rs := [4]) (by kernel_rfl) (by simp) (AllReadyH.cons rfl (fun K4 hK4 => ?_) AllReadyH.nil)
            (refine take_build (e := 68) (len := 1) (size := 2) w.heap.size (gcells [z.1]) 4 (Op.buildSlice 52 1 #[(0, Operand.tmp 14)]) 52 rfl rfl rfl (by kernel_rfl) (by go_simp; try (first | with_reducible rfl | rfl)) rfl (by decide) hR.kept.size ?_; intro gx w4 o4 gr4 l4 m4; replace hR := hR.none gr4; refine hK4.out _ _ hR.S (fun hHeld => ?_); try simp only [List.setIfInBounds_toArray, List.set_cons_zero, List.set_cons_succ])
            refine wpAnyH_ready (rs := [5]) (by kernel_rfl) (by simp) (AllReadyH.cons rfl (fun K5 hK5 => ?_) AllReadyH.nil)
            (refine take_app El_got' 5 (Operand.tmp 11) (Operand.tmp 15) 52 rfl rfl rfl (by kernel_rfl) hR.o rfl o4.rd rfl (gcells_one _) (by unfold maxLen; omega) (by omega) hR.kept.size ?_; intro A5 c5 w5 o5 gr5 at5; have hS := hR.S1 gr5 hR.hA (.slice A5 (j + 1) c5); rw [← gcells_append] at o5; have hE := hR.end_ gr5 o5; have bL5 : Blk w5 bl 52 #[.slice A2 j c2] := hR.bL.grown gr5 (fun e => by have := (hR.o.blk _ e.symm).1; omega); refine hK5.out _ _ hS.1 (fun hHeld => ?_); try simp only [List.setIfInBounds_toArray, List.set_cons_zero, List.set_cons_succ])
            refine wpAnyH_ready (rs := [6]) (by kernel_rfl) (by simp) (AllReadyH.cons rfl (fun K6 hK6 => ?_) AllReadyH.nil)
            (refine take_store 6 (Op.store 52 (Operand.tmp 1) (Operand.tmp 16)) 0 rfl rfl rfl (by kernel_rfl) (w' := w5.setCell ⟨bl, 0, none⟩ (.slice A5 (j + 1) c5)) (by obtain ⟨cL, fL, _⟩ := blk1 bL5; go_simp; try (with_reducible rfl)) ?_; refine hK6.out _ _ hS.2 (fun hHeld => ?_); refine wpAnyH_done (by kernel_rfl) ?_ _)
            (go_wp2_with fail; go_roundw; (case rel => exact ⟨j + 1, z.2.1, acc ++ [z.1], A5, c5, by go_num, by omega, by have := (HO.out he.out).1; omega, (HO.out he.out).2, HXX.out, hE.1, hE.2.1, hE.2.2.1, hE.2.2.2⟩); (case measure => simp [intOf]; omega))
          · (refine take_build (e := 68) (len := 1) (size := 2) w.heap.size (gcells [z.1]) 4 (Op.buildSlice 52 1 #[(0, Operand.tmp 14)]) 52 rfl rfl rfl (by kernel_rfl) (by go_simp; try (first | with_reducible rfl | rfl)) rfl (by decide) hR.kept.size ?_; intro gx w4 o4 gr4 l4 m4; replace hR := hR.none gr4; refine hK4.out _ _ hR.S (fun hHeld => ?_); try simp only [List.setIfInBounds_toArray, List.set_cons_zero, List.set_cons_succ])
            refine wpAnyH_ready (rs := [0]) (by kernel_rfl) (by simp) (AllReadyH.cons rfl (fun K0 hK0 => ?_) AllReadyH.nil)
            (refine take_any 0 (Op.load 52 (Operand.tmp 1)) 52 rfl rfl rfl (by kernel_rfl) (v := .slice A2 j c2) (by have cL := hR.bL.cell_ 0 rfl; go_simp; try (with_reducible rfl)) ?_; refine hK0.out _ _ hR.S (fun hHeld => ?_); try simp only [List.setIfInBounds_toArray, List.set_cons_zero, List.set_cons_succ])
            refine wpAnyH_ready (rs := [5]) (by kernel_rfl) (by simp) (AllReadyH.cons rfl (fun K5 hK5 => ?_) AllReadyH.nil)
            (refine take_app El_got' 5 (Operand.tmp 11) (Operand.tmp 15) 52 rfl rfl rfl (by kernel_rfl) hR.o rfl o4.rd rfl (gcells_one _) (by unfold maxLen; omega) (by omega) hR.kept.size ?_; intro A5 c5 w5 o5 gr5 at5; have hS := hR.S1 gr5 hR.hA (.slice A5 (j + 1) c5); rw [← gcells_append] at o5; have hE := hR.end_ gr5 o5; have bL5 : Blk w5 bl 52 #[.slice A2 j c2] := hR.bL.grown gr5 (fun e => by have := (hR.o.blk _ e.symm).1; omega); refine hK5.out _ _ hS.1 (fun hHeld => ?_); try simp only [List.setIfInBounds_toArray, List.set_cons_zero, List.set_cons_succ])
            refine wpAnyH_ready (rs := [6]) (by kernel_rfl) (by simp) (AllReadyH.cons rfl (fun K6 hK6 => ?_) AllReadyH.nil)
            (refine take_store 6 (Op.store 52 (Operand.tmp 1) (Operand.tmp 16)) 0 rfl rfl rfl (by kernel_rfl) (w' := w5.setCell ⟨bl, 0, none⟩ (.slice A5 (j + 1) c5)) (by obtain ⟨cL, fL, _⟩ := blk1 bL5; go_simp; try (with_reducible rfl)) ?_; refine hK6.out _ _ hS.2 (fun hHeld => ?_); refine wpAnyH_done (by kernel_rfl) ?_ _)
            (go_wp2_with fail; go_roundw; (case rel => exact ⟨j + 1, z.2.1, acc ++ [z.1], A5, c5, by go_num, by omega, by have := (HO.out he.out).1; omega, (HO.out he.out).2, HXX.out, hE.1, hE.2.1, hE.2.2.1, hE.2.2.2⟩); (case measure => simp [intOf]; omega))
      · have hx : x = (acc, q, z.2.2) := by rw [HR.out, HN.out he, List.append_nil]
        subst hx
        replace he := Lib.hid he
        refine wpAnyH_ready (rs := [0, 3]) (by kernel_rfl) (by simp) (AllReadyH.cons rfl (fun K0 hK0 => ?_) (AllReadyH.cons rfl (fun K3 hK3 => ?_) AllReadyH.nil))
        · (refine take_any 0 (Op.load 52 (Operand.tmp 1)) 52 rfl rfl rfl (by kernel_rfl) (v := .slice A2 j c2) (by have cL := hR.bL.cell_ 0 rfl; go_simp; try (with_reducible rfl)) ?_; refine hK0.out _ _ hR.S (fun hHeld => ?_); try simp only [List.setIfInBounds_toArray, List.set_cons_zero, List.set_cons_succ])
          refine wpAnyH_ready (rs := [3]) (by kernel_rfl) (by simp) (AllReadyH.cons rfl (fun K3 hK3 => ?_) AllReadyH.nil)
          (refine take_callp 3 66 [Operand.tmp 12, Operand.tmp 13] #[59, 62] rfl (by kernel_rfl) (fun args w => run_enter Try.func66 (by kernel_rfl) rfl args w) ?_; refine (want_no g s q l[j].1 l[j].2 _ hR.bG hq0 hqs (by omega) z HZ.out he.out).mono ?_; rintro e w3 ⟨rfl, hL⟩; replace hR := hR.left hL; refine ⟨_, rfl, ?_⟩)
          exact ⟨rfl, .inr ⟨he.out, rfl⟩, ⟨_, _, _, hR.bL, hR.o⟩, hR.bG, hR.kept⟩
        · (refine take_callp 3 66 [Operand.tmp 12, Operand.tmp 13] #[59, 62] rfl (by kernel_rfl) (fun args w => run_enter Try.func66 (by kernel_rfl) rfl args w) ?_; refine (want_no g s q l[j].1 l[j].2 _ hR.bG hq0 hqs (by omega) z HZ.out he.out).mono ?_; rintro e w3 ⟨rfl, hL⟩; replace hR := hR.left hL; refine ⟨_, rfl, ?_⟩)
          exact ⟨rfl, .inr ⟨he.out, rfl⟩, ⟨_, _, _, hR.bL, hR.o⟩, hR.bG, hR.kept⟩
    · have hx : x = (acc, q, 0) := by rw [HR.out, List.drop_of_length_le (by omega), runV, List.append_nil]
      subst hx
      go_wp2_with fail
      go_end0
      exact ⟨.inl ⟨rfl, rfl⟩, ⟨_, _, _, bL, o2⟩, bG, hK⟩
end TakW
end Go.Proofs.Ytjdmbpkabeaccaa
