/- Walks over package front: ranks, bytes, the row. -/
import Derived.Test.YtehlgpfkpagaeaaFrontW
namespace Go.Proofs.Ytehlgpfkpagaeaa
set_option linter.unusedVariables false
set_option linter.unusedSimpArgs false
set_option linter.unnecessarySimpa false
open Go.RowKit
namespace FrontW

theorem El_int : El Try.prog 35 3 1 8 := El.mk' Try.underlying35 (z := .int .i64 0) (by kernel_rfl) rfl (by decide)
theorem El_u8 : El Try.prog 80 5 1 1 := El.mk' Try.underlying80 (z := .int .u8 0) (by kernel_rfl) rfl (by decide)

set_option maxHeartbeats 1000000 in
theorem rank_any (g : Nat) (b : UInt8) (r : List UInt8) (w : World) (hF : Full r) (hB : Blk w g 87 (rowC r)) :
    Calls Try.prog 64 #[.pointer (some ⟨g, 0, none⟩), byt b] w fun e w' => e = .returned (.int .i64 (r.idxOf b : Nat)) ∧ Blk w' g 87 (rowC (mtf r (r.idxOf b))) ∧ w.grownBy w' (some g) := by
  go_enter Try.func64, Try.ntmps64
  go_wp2_with fail
  refine (index_any _ 256 256 r b _ ?hr (by omega) (hF.mem b)).mono ?_
  case hr => exact (Rd.of_blk (m := 256) (by exact hB) (by rw [byts_len, hF.len])).more hB.lt
  rintro e w1 ⟨rfl, rfl⟩
  go_wp2_with fail
  refine (at_any g (r.idxOf b) r _ hF.len (hF.idx b) hB).mono ?_
  rintro e w1 ⟨rfl, hB1, hg1⟩
  go_wp2
  go_ret
  exact ⟨rfl, hB1, hg1⟩

/-- 'make([]T, 0, n)'. -/
theorem wp_make {P : Program} {w : World} {t e size bytes : Nat} (hE : El P t e size bytes) {ops : Array Oper} {rest : List Oper} {o : Oper} {a : Act} {Q : Exit → Act → World → Prop} (hgd : o.guard = none) {l c : Operand}
    (ho : o.op = .makeSlice t l c) (base : Nat) (n : Nat) {kl kc : IntKind} {C : Int} (hl : a.eval l = .int kl 0) (hc : a.eval c = .int kc C) (hC : C = (n : Int)) (hb : bytes * n ≤ 281474976710656) (hn : n ≤ maxLen) (hbase : base ≤ w.heap.size)
    (h : ∀ w', Own w' base e size (some ⟨w.heap.size, 0, none⟩) 0 n [] → w.grownBy w' none → wpList P ops Q rest (a.put o.dst (.slice (some ⟨w.heap.size, 0, none⟩) 0 n)) w') : wpList P ops Q (o :: rest) a w := by
  obtain ⟨i, z, hi, hz, hsize, hby, hzs⟩ := hE.inf
  exact wpList_make_own w hgd l c t ho base e i z size hE.und hi hz hsize kl kc C n hl hc hC (by rw [hby]; exact hb) hn hbase h

set_option maxHeartbeats 2000000 in
theorem ranks_any (s : List UInt8) (w : World) (hs : s.length ≤ 1000000) :
    Calls Try.prog 35 #[str s] w fun e w' => ∃ A c, e = .returned (.slice A s.length c) ∧ Own w' w.heap.size 3 1 A s.length c (ints (runR s).2) ∧ Below w.heap.size w w' := by
  have hmf : ∀ (fn : Fn) (first cap : Array Value) (w : World), (Instr.makeFunc fn first cap).run Try.prog w = .ok (.func fn first cap) w := fun _ _ _ _ => rfl
  go_enter Try.func35, Try.ntmps35
  go_wp2_with fail
  refine (begun_any _).mono ?_
  rintro e w1 ⟨rfl, hB1, hb1⟩
  have hz1 := hB1.lt
  go_wp2_with (at_make; refine wp_make El_int rfl rfl w1.heap.size s.length rfl rfl (by simp) (by omega) (by unfold maxLen; omega) (Nat.le_refl _) ?_; intro w2 hown2 hg2)
  have hB2 := hB1.grown hg2 (by simp)
  have hb2 : Below w.heap.size w w2 := hb1.grown hg2 hb1.size (by simp)
  go_loopw [4, 5] (fun v i wr => ∃ (k c : Nat) (A : Option Addr), k ≤ s.length ∧ i = .int .i64 k ∧ v = .slice A k c ∧ Own wr w1.heap.size 3 1 A k c (ints (runR (s.take k)).2) ∧ Blk wr w.heap.size 87 (rowC (runR (s.take k)).1) ∧ Below w.heap.size w wr ∧ w1.heap.size ≤ wr.heap.size)
    (fun _ i _ => s.length - (intOf i).toNat)
  case atStart => exact ⟨0, s.length, some ⟨w1.heap.size, 0, none⟩, by omega, rfl, rfl, hown2, hB2, hb2, hg2.size⟩
  case round =>
    obtain ⟨k, c, A, hk, rfl, rfl, hown, hB, hbw, hzr⟩ := hrel
    by_cases hlt : k < s.length
    · have HS := Lib.hid (runR_snoc s k hlt)
      have hF := runR_full (s.take k)
      have hlen := runR_len (s.take k)
      generalize hq : runR (s.take k) = q at *
      have HQ := Lib.hid hq
      clear hq hlen
      go_wp2_with fail
      refine (rank_any _ s[k] q.1 _ hF hB).mono ?_
      rintro e w3 ⟨rfl, hB3, hg3⟩
      have hown3 := hown.grown hg3 (by
        by_cases h : blkOf A = none
        · exact .inl h
        · refine .inr fun e => ?_
          have := (hown.blk _ e).1
          omega)
      have hbw3 : Below w.heap.size w w3 := hbw.grown hg3 hbw.size (by simp)
      have hz3 := hg3.size
      go_wp2_with (at_builtin; refine wp_append El_int rfl rfl rfl (hown3.alloc _) rfl (Rd.of_blk (m := 1) (cs := [.int .i64 (q.1.idxOf s[k] : Nat)]) (Blk.new w3 _ _) rfl) (by simp [Value.oneCell']) (by unfold maxLen; omega) (by omega) (by simp; omega) ?_; intro A4 c4 w4 hown4 hg4 hat4)
      go_roundw
      case rel =>
        refine ⟨k + 1, c4, A4, by omega, by go_num, rfl, ?_, ?_, ?_, by have := hg4.size; simp at this; omega⟩
        · rw [HS.out]
          simpa [stepR, ints] using hown4
        · rw [HS.out]
          exact (hB3.alloc _).grown hg4 (fun e => by have := hown3.blk _ e.symm; omega)
        · exact (hbw3.alloc hbw3.size _).grown hg4 (by simp; omega) (fun j hj => by have := hown3.blk j hj; omega)
      case measure => simp [intOf]; omega
    · have hfin : Hid (runR (s.take k) = runR s ∧ k = s.length) := ⟨by rw [List.take_of_length_le (by omega)], by omega⟩
      go_wp2
      go_ret
      obtain ⟨h1, h2⟩ := hfin.out
      rw [h1] at hown
      exact ⟨A, c, congrArg (fun x => Ending.returned (.slice A x c)) h2, by rw [← h2]; exact hown.base_le hb1.size, hbw⟩
end FrontW
end Go.Proofs.Ytehlgpfkpagaeaa
