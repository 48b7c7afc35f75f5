/- Walks over package front: ranks, bytes, the row. -/
import Derived.Test.YtnpncpoiiikafaaGreatFrontPQb
import Derived.Test.YtnpncpoiiikafaaGreatMemQb
import Derived.Test.YtnpncpoiiikafaaGreatZruPQb
import Derived.Test.YtnpncpoiiikafaaGreatAppQb
namespace Go.Proofs.YtnpncpoiiikafaaGreat
set_option linter.unusedVariables false
set_option linter.unusedSimpArgs false
set_option linter.unnecessarySimpa false
open Go.RowKit
namespace FrontW

theorem El_int : El Tryz.prog 84 3 1 8 := El.mk' Tryz.underlying84 (z := .int .i64 0) (by kernel_rfl) rfl (by decide)
theorem El_u8 : El Tryz.prog 99 5 1 1 := El.mk' Tryz.underlying99 (z := .int .u8 0) (by kernel_rfl) rfl (by decide)

set_option maxHeartbeats 1000000 in
theorem rank_any (g : Nat) (b : UInt8) (r : List UInt8) (w : World) (hF : Full r) (hB : Blk w g 250 (rowC r)) :
    Calls Tryz.prog 152 #[.pointer (some ⟨g, 0, none⟩), byt b] w fun e w' => e = .returned (.int .i64 (r.idxOf b : Nat)) ∧ Blk w' g 250 (rowC (mtf r (r.idxOf b))) ∧ w.grownBy w' (some g) := by
  go_enter Tryz.func152, Tryz.ntmps152
  go_wp2_with fail
  refine (index_any _ 256 256 r b _ ?hr (by omega) (hF.mem b)).mono ?_
  case hr => exact (Rd.of_blk (m := 256) (by exact hB) (by rw [byts_len, hF.len])).more hB.lt
  rintro e w1 ⟨rfl, rfl⟩
  go_wp2_with fail
  refine (at_any g (r.idxOf b) r _ hF.len (hF.idx b) hB).mono ?_
  rintro e w1 ⟨rfl, hB1, hg1⟩
  go_wp2
  go_ret
  exact ⟨rfl, hB1, hg1⟩

/-- 'make([]T, 0, n)'. -/
theorem wp_make {P : Program} {w : World} {t e size bytes : Nat} (hE : El P t e size bytes) {ops : Array Oper} {rest : List Oper} {o : Oper} {a : Act} {Q : Exit → Act → World → Prop} (hgd : o.guard = none) {l c : Operand}
    (ho : o.op = .makeSlice t l c) (base : Nat) (n : Nat) {kl kc : IntKind} {C : Int} (hl : a.eval l = .int kl 0) (hc : a.eval c = .int kc C) (hC : C = (n : Int)) (hb : bytes * n ≤ 281474976710656) (hn : n ≤ maxLen) (hbase : base ≤ w.heap.size)
    (h : ∀ w', Own w' base e size (some ⟨w.heap.size, 0, none⟩) 0 n [] → w.grownBy w' none → wpList P ops Q rest (a.put o.dst (.slice (some ⟨w.heap.size, 0, none⟩) 0 n)) w') : wpList P ops Q (o :: rest) a w := by
  obtain ⟨i, z, hi, hz, hsize, hby, hzs⟩ := hE.inf
  exact wpList_make_own w hgd l c t ho base e i z size hE.und hi hz hsize kl kc C n hl hc hC (by rw [hby]; exact hb) hn hbase h

set_option maxHeartbeats 2000000 in
theorem ranks_any (s : List UInt8) (w : World) (hs : s.length ≤ 1000000) :
    Calls Tryz.prog 98 #[str s] w fun e w' => ∃ A c, e = .returned (.slice A s.length c) ∧ Own w' w.heap.size 3 1 A s.length c (ints (runR s).2) ∧ Below w.heap.size w w' := by
  have hmf : ∀ (fn : Fn) (first cap : Array Value) (w : World), (Instr.makeFunc fn first cap).run Tryz.prog w = .ok (.func fn first cap) w := fun _ _ _ _ => rfl
  go_enter Tryz.func98, Tryz.ntmps98
  go_wp2_with fail
  refine (begun_any _).mono ?_
  rintro e w1 ⟨rfl, hB1, hb1⟩
  have hz1 := hB1.lt
  go_wp2_with (at_make; refine wp_make El_int rfl rfl w1.heap.size s.length rfl rfl (by simp) (by omega) (by unfold maxLen; omega) (Nat.le_refl _) ?_; intro w2 hown2 hg2)
  have hB2 := hB1.grown hg2 (by simp)
  have hb2 : Below w.heap.size w w2 := hb1.grown hg2 hb1.size (by simp)
  go_loopw [4, 5] (fun v i wr => ∃ (k c : Nat) (A : Option Addr), k ≤ s.length ∧ i = .int .i64 k ∧ v = .slice A k c ∧ Own wr w1.heap.size 3 1 A k c (ints (runR (s.take k)).2) ∧ Blk wr w.heap.size 250 (rowC (runR (s.take k)).1) ∧ Below w.heap.size w wr ∧ w1.heap.size ≤ wr.heap.size)
    (fun _ i _ => s.length - (intOf i).toNat)
  case atStart => exact ⟨0, s.length, some ⟨w1.heap.size, 0, none⟩, by omega, rfl, rfl, hown2, hB2, hb2, hg2.size⟩
  case round =>
    obtain ⟨k, c, A, hk, rfl, rfl, hown, hB, hbw, hzr⟩ := hrel
    by_cases hlt : k < s.length
    · have HS := Lib.hid (runR_snoc s k hlt)
      have hF := runR_full (s.take k)
      have hlen := runR_len (s.take k)
      generalize hq : runR (s.take k) = q at *
      have HQ := Lib.hid hq
      clear hq hlen
      go_wp2_with fail
      refine (rank_any _ s[k] q.1 _ hF hB).mono ?_
      rintro e w3 ⟨rfl, hB3, hg3⟩
      have hown3 := hown.grown hg3 (by
        by_cases h : blkOf A = none
        · exact .inl h
        · refine .inr fun e => ?_
          have := (hown.blk _ e).1
          omega)
      have hbw3 : Below w.heap.size w w3 := hbw.grown hg3 hbw.size (by simp)
      have hz3 := hg3.size
      go_wp2_with (at_builtin; refine wp_append El_int rfl rfl rfl (hown3.alloc _) rfl (Rd.of_blk (m := 1) (cs := [.int .i64 (q.1.idxOf s[k] : Nat)]) (Blk.new w3 _ _) rfl) (by simp [Value.oneCell']) (by unfold maxLen; omega) (by omega) (by simp; omega) ?_; intro A4 c4 w4 hown4 hg4 hat4)
      go_roundw
      case rel =>
        refine ⟨k + 1, c4, A4, by omega, by go_num, rfl, ?_, ?_, ?_, by have := hg4.size; simp at this; omega⟩
        · rw [HS.out]
          simpa [stepR, ints] using hown4
        · rw [HS.out]
          exact (hB3.alloc _).grown hg4 (fun e => by have := hown3.blk _ e.symm; omega)
        · exact (hbw3.alloc hbw3.size _).grown hg4 (by simp; omega) (fun j hj => by have := hown3.blk j hj; omega)
      case measure => simp [intOf]; omega
    · have hfin : Hid (runR (s.take k) = runR s ∧ k = s.length) := ⟨by rw [List.take_of_length_le (by omega)], by omega⟩
      go_wp2
      go_ret
      obtain ⟨h1, h2⟩ := hfin.out
      rw [h1] at hown
      exact ⟨A, c, congrArg (fun x => Ending.returned (.slice A x c)) h2, by rw [← h2]; exact hown.base_le hb1.size, hbw⟩
end FrontW
end Go.Proofs.YtnpncpoiiikafaaGreat

namespace Go.Proofs.YtnpncpoiiikafaaGreat
set_option linter.unusedVariables false
set_option linter.unusedSimpArgs false
set_option linter.unnecessarySimpa false
open Go.RowKit
namespace FrontW

def okB (l : List Int) : Bool := l.all fun n => decide (0 ≤ n) && decide (n ≤ 255)
def textS (l : List Int) : List UInt8 × Int := if okB l = true then ((runT l).2, 0) else ([], 60)
theorem okB_iff (l : List Int) : okB l = true ↔ okT l := by simp [okB, okT]
theorem okT_snoc (l : List Int) (k : Nat) (hk : k < l.length) (h : okT (l.take k)) (h0 : 0 ≤ l[k]) (h1 : l[k] ≤ 255) : okT (l.take (k + 1)) := by
  rw [List.take_succ_eq_append_getElem hk]
  intro n hn
  rcases List.mem_append.1 hn with hn | hn
  · exact h n hn
  · obtain rfl : n = l[k] := by simpa using hn
    exact ⟨h0, h1⟩
theorem textS_bad (l : List Int) (k : Nat) (hk : k < l.length) (h : l[k] < 0 ∨ 255 < l[k]) : textS l = ([], 60) := by
  unfold textS
  rw [if_neg]
  rw [okB_iff]
  intro ho
  have := ho l[k] (List.getElem_mem hk)
  omega
theorem textS_ok (l : List Int) (h : okT l) : textS l = ((runT l).2, 0) := by unfold textS; rw [if_pos ((okB_iff l).2 h)]

set_option maxHeartbeats 2000000 in
theorem text_any (A0 : Option Addr) (n c0 : Nat) (l : List Int) (w : World) (h : Rd w w.heap.size 1 A0 n (ints l)) (hn : n ≤ 1000000) :
    Calls Tryz.prog 94 #[.slice A0 n c0] w fun e w' => e = .returned (.tuple #[str (textS l).1, .int .i64 (textS l).2]) ∧ Below w.heap.size w w' := by
  have hmf : ∀ (fn : Fn) (first cap : Array Value) (w : World), (Instr.makeFunc fn first cap).run Tryz.prog w = .ok (.func fn first cap) w := fun _ _ _ _ => rfl
  have hl := rd_len h
  have hl1 : l.length ≤ n := by omega
  have hl2 : n ≤ l.length := by omega
  clear hl
  go_enter Tryz.func94, Tryz.ntmps94
  go_wp2_with fail
  refine (begun_any _).mono ?_
  rintro e w1 ⟨rfl, hB1, hb1⟩
  have hz1 := hB1.lt
  go_wp2_with (at_make; refine wp_make El_u8 rfl rfl w1.heap.size n rfl rfl (by simp) (by omega) (by unfold maxLen; omega) (Nat.le_refl _) ?_; intro w2 hown2 hg2)
  have hB2 := hB1.grown hg2 (by simp)
  have hb2 : Below w.heap.size w w2 := hb1.grown hg2 hb1.size (by simp)
  go_loopw [5, 15] (fun v i wr => ∃ (k c : Nat) (A : Option Addr), k ≤ n ∧ i = .int .i64 k ∧ v = .slice A k c ∧ okT (l.take k) ∧ Own wr w1.heap.size 5 1 A k c (byts (runT (l.take k)).2) ∧ Blk wr w.heap.size 250 (rowC (runT (l.take k)).1) ∧ Below w.heap.size w wr ∧ w1.heap.size ≤ wr.heap.size)
    (fun _ i _ => n - (intOf i).toNat)
  case atStart => exact ⟨0, n, some ⟨w1.heap.size, 0, none⟩, by omega, rfl, rfl, by intro m hm; simp at hm, hown2, hB2, hb2, hg2.size⟩
  case round =>
    obtain ⟨k, c, A, hk, rfl, rfl, hok, hown, hB, hbw, hzr⟩ := hrel
    have HOK := Lib.hid hok
    by_cases hlt : k < n
    · have hkl : k < l.length := by omega
      obtain ⟨bb, o, rfl, hbb, hc⟩ := rd_ints h (by omega)
      have HS := Lib.hid (runT_snoc l k hkl)
      have HBad := Lib.hid (textS_bad l k hkl)
      have HSn := Lib.hid (okT_snoc l k hkl hok)
      have hF := runT_full (l.take k) hok
      have d0 : wr.cell? ⟨bb, o + k, none⟩ = some (.int .i64 l[k]) := (hbw.cell (p := ⟨bb, _, none⟩) hbb).trans (hc k hkl)
      clear hc hok
      generalize hq : runT (l.take k) = q at *
      generalize hm : l[k] = m at *
      clear hq hm
      by_cases h0 : m < 0
      · have HT := Lib.hid (HBad.out (.inl h0))
        go_wp2
        go_ret2
        exact ⟨by rw [HT.out]; rfl, hbw⟩
      · by_cases h1 : 255 < m
        · have HT := Lib.hid (HBad.out (.inr h1))
          go_wp2
          go_ret2
          exact ⟨by rw [HT.out]; rfl, hbw⟩
        · obtain ⟨m, rfl⟩ := Int.eq_ofNat_of_zero_le (show 0 ≤ m by omega)
          go_wp2_with fail
          refine (at_any _ m q.1 _ hF.len (by omega) hB).mono ?_
          rintro e w3 ⟨rfl, hB3, hg3⟩
          have hown3 := hown.grown hg3 (by
            by_cases h : blkOf A = none
            · exact .inl h
            · refine .inr fun e => ?_
              have := (hown.blk _ e).1
              omega)
          have hbw3 : Below w.heap.size w w3 := hbw.grown hg3 hbw.size (by simp)
          have hz3 := hg3.size
          unfold byt
          go_wp2_with (at_builtin; refine wp_append El_u8 rfl rfl rfl (hown3.alloc _) rfl (Rd.of_blk (m := 1) (cs := [byt (q.1.getD m 0)]) (Blk.new w3 _ _) rfl) (by simp [byt, Value.oneCell']) (by unfold maxLen; omega) (by omega) (by simp; omega) ?_; intro A4 c4 w4 hown4 hg4 hat4)
          go_roundw
          case rel =>
            refine ⟨k + 1, c4, A4, by omega, by go_num, rfl, HSn.out (by omega) (by omega), ?_, ?_, ?_, by have := hg4.size; simp at this; omega⟩
            · rw [HS.out]
              simpa [stepT, byts] using hown4
            · rw [HS.out]
              exact (hB3.alloc _).grown hg4 (fun e => by have := hown3.blk _ e.symm; omega)
            · exact (hbw3.alloc hbw3.size _).grown hg4 (by simp; omega) (fun j hj => by have := hown3.blk j hj; omega)
          case measure => simp [intOf]; omega
    · have hfin : Hid (l.take k = l) := List.take_of_length_le (by omega)
      have hcv := run_bytes_str (P := Tryz.prog) wr (c := c) Tryz.underlying99 Tryz.underlying5 Tryz.underlying9 hown.rd
      go_wp2
      go_ret2
      rw [hfin.out] at hok ⊢
      exact ⟨by rw [textS_ok l hok]; rfl, hbw⟩

end FrontW
end Go.Proofs.YtnpncpoiiikafaaGreat

namespace Go.Proofs.YtnpncpoiiikafaaGreat
set_option linter.unusedVariables false
set_option linter.unusedSimpArgs false
set_option linter.unnecessarySimpa false
open Go.RowKit
namespace FrontW

theorem snoc_ind {α : Type} {p : List α → Prop} (h0 : p []) (h1 : ∀ l a, p l → p (l ++ [a])) (l : List α) : p l := by
  have h : ∀ m : List α, p m.reverse := by
    intro m
    induction m with
    | nil => exact h0
    | cons a m ih => rw [List.reverse_cons]; exact h1 _ _ ih
  have := h l.reverse
  rwa [List.reverse_reverse] at this
theorem runR_app (s : List UInt8) (b : UInt8) : runR (s ++ [b]) = stepR (runR s) b := by rw [runR, List.foldl_append]; rfl
theorem runR_ok (s : List UInt8) : okT (runR s).2 := by
  refine snoc_ind (p := fun s => okT (runR s).2) (fun n hn => absurd hn List.not_mem_nil) (fun s b ih => ?_) s
  rw [runR_app]
  intro n hn
  rcases List.mem_append.1 hn with hn | hn
  · exact ih n hn
  · obtain rfl := List.mem_singleton.1 hn
    have := (runR_full s).idx b
    omega
end FrontW
end Go.Proofs.YtnpncpoiiikafaaGreat

namespace Go.Proofs.YtnpncpoiiikafaaGreat
set_option linter.unusedVariables false
set_option linter.unusedSimpArgs false
set_option linter.unnecessarySimpa false
open Go.RowKit
namespace LenW

theorem w64 {x : Int} (h1 : -4611686018427387904 ≤ x) (h2 : x ≤ 4611686018427387904) : wrap64 x = x := by unfold wrap64; omega
theorem w64k {x : Int} (h1 : -4611686018427387904 ≤ x) (h2 : x ≤ 4611686018427387904) : IntKind.i64.wrap x = x := by rw [IntKind.wrap_i64]; omega
def usedL (l : List Int) : Nat := (l.filter fun n => decide (0 < n)).length
def partL (n : Int) : Nat := if 0 < n then 2 ^ (15 - n.toNat) else 0
def sumL (l : List Int) : Nat := (l.map partL).sum
def okL (l : List Int) : Bool := l.all fun n => decide (0 ≤ n) && decide (n ≤ 15)
/-- Is it what a code has: 0; too many: 3; none's: 80. -/
def chkL (l : List Int) : Int := if 257 < l.length then 3 else if okL l = false then 80 else if sumL l = 0 ∨ sumL l = 32768 ∨ (usedL l = 1 ∧ sumL l = 16384) then 0 else 80
theorem usedL_snoc (l : List Int) (k : Nat) (h : k < l.length) : usedL (l.take (k + 1)) = usedL (l.take k) + (if 0 < l[k] then 1 else 0) := by
  unfold usedL
  rw [List.take_succ_eq_append_getElem h, List.filter_append, List.length_append]
  by_cases hk : 0 < l[k] <;> simp [hk]
theorem usedL_le (l : List Int) : usedL l ≤ l.length := List.length_filter_le _ _
theorem partL_le (n : Int) : partL n ≤ 32768 := by
  unfold partL
  split
  · calc 2 ^ (15 - n.toNat) ≤ 2 ^ 15 := Nat.pow_le_pow_right (by omega) (by omega)
      _ = 32768 := by decide
  · omega
theorem sumL_snoc (l : List Int) (k : Nat) (h : k < l.length) : sumL (l.take (k + 1)) = sumL (l.take k) + partL l[k] := by
  unfold sumL
  rw [List.take_succ_eq_append_getElem h, List.map_append, List.sum_append]
  simp
theorem sumL_le (l : List Int) : sumL l ≤ 32768 * l.length := by
  unfold sumL
  induction l with
  | nil => simp
  | cons a l ih =>
    have := partL_le a
    simp only [List.map_cons, List.sum_cons, List.length_cons]
    omega
theorem okL_snoc (l : List Int) (k : Nat) (h : k < l.length) : okL (l.take (k + 1)) = (okL (l.take k) && (decide (0 ≤ l[k]) && decide (l[k] ≤ 15))) := by
  unfold okL
  rw [List.take_succ_eq_append_getElem h, List.all_append]
  simp
theorem okL_at (l : List Int) (k : Nat) (hk : k < l.length) (h : okL l = true) : 0 ≤ l[k] ∧ l[k] ≤ 15 := by
  unfold okL at h
  rw [List.all_eq_true] at h
  have := h _ (List.getElem_mem hk)
  simpa using this
theorem okL_no (l : List Int) (k : Nat) (hk : k < l.length) (h : ¬ (0 ≤ l[k] ∧ l[k] ≤ 15)) : okL l = false := by
  cases ho : okL l with
  | false => rfl
  | true => exact absurd (okL_at l k hk ho) h
end LenW
end Go.Proofs.YtnpncpoiiikafaaGreat

namespace Go.Proofs.YtnpncpoiiikafaaGreat
set_option linter.unusedVariables false
set_option linter.unusedSimpArgs false
set_option linter.unnecessarySimpa false
open Go.RowKit

def fcells (l : List (Int × Int)) : List Value := l.flatMap fun r => [.int .i64 r.1, .int .i64 r.2]
theorem fcells_cons (p : Int × Int) (l : List (Int × Int)) : fcells (p :: l) = .int .i64 p.1 :: .int .i64 p.2 :: fcells l := rfl
theorem fcells_len (l : List (Int × Int)) : (fcells l).length = l.length * 2 := by
  induction l with
  | nil => rfl
  | cons x l ih => rw [fcells_cons]; simp only [List.length_cons] at *; omega
theorem fcells_get (l : List (Int × Int)) (k : Nat) (h : k < l.length) : (fcells l)[k * 2]? = some (.int .i64 l[k].1) ∧ (fcells l)[k * 2 + 1]? = some (.int .i64 l[k].2) := by
  induction l generalizing k with
  | nil => simp at h
  | cons p l ih =>
    rw [fcells_cons]
    cases k with
    | zero => simp
    | succ k =>
      have := ih k (by simpa using h)
      simpa [Nat.add_mul] using this
theorem rd_fcells {w : World} {B : Nat} {A : Option Addr} {n : Nat} {l : List (Int × Int)} (h : Rd w B 2 A n (fcells l)) (hn : 0 < n) :
    ∃ b o, A = some ⟨b, o, none⟩ ∧ b < B ∧ ∀ k (hk : k < l.length), w.cell? ⟨b, o + k * 2, none⟩ = some (.int .i64 l[k].1) ∧ w.cell? ⟨b, o + k * 2 + 1, none⟩ = some (.int .i64 l[k].2) := by
  obtain ⟨b, o, rfl, hb, hc⟩ := h.at_ hn
  refine ⟨b, o, rfl, hb, fun k hk => ?_⟩
  have hlen := fcells_len l
  obtain ⟨e0, e1⟩ := fcells_get l k hk
  refine ⟨?_, ?_⟩
  · rw [hc (k * 2) (by omega)]; rw [List.getElem?_eq_getElem (by omega)] at e0; exact e0
  · rw [Nat.add_assoc, hc (k * 2 + 1) (by omega)]; rw [List.getElem?_eq_getElem (by omega)] at e1; exact e1
theorem rd_flen {w : World} {B : Nat} {A : Option Addr} {n : Nat} {l : List (Int × Int)} (h : Rd w B 2 A n (fcells l)) : l.length = n := by have := h.len; rw [fcells_len] at this; omega

def fitsB (n w : Int) : Bool := decide (0 ≤ w) && decide (w ≤ 32) && decide (0 ≤ n) && decide (n < 2 ^ w.toNat)
/-- The number of a width that stands at a bit. -/
def getB (l : List Nat) (at_ width : Int) : Int × Int :=
  if width < 0 ∨ 32 < width then (0, 2) else if (l.length : Int) < at_ + width then (0, 4) else ((num ((l.drop at_.toNat).take width.toNat) : Int), 0)
end Go.Proofs.YtnpncpoiiikafaaGreat
