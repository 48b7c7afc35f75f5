/- The walks of package canon: a symbol's word is put. The walks of package canon: Pack. The walks of package canon: Pack. -/
import Derived.Test.YtdfclgpkhfpkhaaCanX
import Derived.Test.YtdfclgpkhfpkhaaBitU
import Derived.Laws.EntriesVeiled
namespace Go.Proofs.Ytdfclgpkhfpkhaa
set_option linter.unusedVariables false
set_option linter.unusedSimpArgs false
set_option linter.unnecessarySimpa false
open Go.RowKit
namespace LenW
open BitW (Wr Wfr Fresh Puts Put_yes)

theorem word_fits (l : List Int) (hk : chkL l = 0) (s : Int) (h : (wordV l s).2 = 0) : fitsB (wordV l s).1.1 (wordV l s).1.2 = true ∧ I64 (wordV l s).1.1 := by
  obtain ⟨h257, hok, hsum⟩ := chk0 hk
  unfold wordV at h ⊢
  by_cases hc : 0 ≤ s ∧ s < l.length ∧ ¬ (wordF l s.toNat).2 = 0
  · rw [if_pos hc]
    obtain ⟨h0, h1, h2⟩ := hc
    have hkl : s.toNat < l.length := by omega
    by_cases hp : 0 < l[s.toNat]
    · rw [word_at l _ hkl hp]
      have h15 := okL_at l _ hkl hok
      generalize s.toNat = k at *
      obtain ⟨y, hy⟩ := Int.eq_ofNat_of_zero_le (show 0 ≤ l[k] by omega)
      have hr := room l y (by omega) hsum
      have hs := cntL_snoc l k y hkl
      rw [if_pos ⟨hp, hy⟩] at hs
      have ht := cntL_take l (k + 1) y
      rw [hy]
      simp only [Int.toNat_natCast]
      have hlt : fstL l y + cntL (l.take k) y < 2 ^ y := by omega
      have h2y : (2 : Nat) ^ y ≤ 2 ^ 15 := Nat.pow_le_pow_right (by omega) (by omega)
      constructor
      · unfold fitsB
        simp only [Int.toNat_natCast, Bool.and_eq_true, decide_eq_true_eq]
        refine ⟨⟨⟨by omega, by omega⟩, by omega⟩, ?_⟩
        have : ((fstL l y + cntL (l.take k) y : Nat) : Int) < ((2 ^ y : Nat) : Int) := by exact_mod_cast hlt
        simpa using this
      · unfold I64
        omega
    · exact absurd (by rw [word_no l _ hkl hp]) h2
  · rw [if_neg hc] at h
    simp at h
theorem wfr_pre {w w1 w2 : World} {g : Nat} {ab : Option Nat} (hb : Below w.heap.size w w1) (h : Wfr w1 w2 g ab) : Wfr w w2 g ab :=
  ⟨h.os.trans hb.os, h.tape.trans hb.tape, h.output.trans hb.output, Nat.le_trans hb.size h.size, fun k hk hg ha => (h.block k (Nat.lt_of_lt_of_le hk hb.size) hg ha).trans (hb.block k hk)⟩
theorem Wr.low {w w' : World} {base g : Nat} {ab : Option Nat} {l : List Nat} (h : Wr w base g ab l) (hb : Below w.heap.size w w') : Wr w' base g ab l := by
  obtain ⟨⟨A, nb, c, bs, r, k, bG, o, hab, hk, hr, e⟩, hgb⟩ := h
  exact ⟨⟨A, nb, c, bs, r, k, bG.below hb bG.lt, o.below hb, hab, hk, hr, e⟩, hgb⟩
set_option maxRecDepth 100000 in
set_option maxHeartbeats 4000000 in
theorem cput_no (l : List Int) (B g : Nat) (s : Int) (p : Value) (w : World) (hC : CodeAt w B g l) (hs : I64 s) (hv : ¬ (wordV l s).2 = 0) :
    Calls Try.prog 22 #[.pointer (some ⟨g, 0, none⟩), p, .int .i64 s] w fun e w' => e = .returned (.int .i64 70) ∧ Below w.heap.size w w' := by
  have C := word_any l B g s w hC hs _ rfl
  have h70 : (wordV l s) = ((0, 0), 70) := by
    unfold wordV at hv ⊢
    split at hv
    · simp at hv
    · rename_i hh; rw [if_neg hh]
  rw [h70] at C
  go_enter Try.func22, Try.ntmps22
  go_wp2_with fail
  refine C.mono ?_
  rintro e w1 ⟨rfl, hb1⟩
  go_wp2_with fail
  go_ret
  exact ⟨rfl, hb1.alloc hb1.size _⟩
set_option maxRecDepth 100000 in
set_option maxHeartbeats 4000000 in
theorem cput_yes (l : List Int) (hk : chkL l = 0) (B g : Nat) (s : Int) (base gw : Nat) (ab : Option Nat) (L : List Nat) (w : World) (hC : CodeAt w B g l) (hs : I64 s) (hv : (wordV l s).2 = 0) (hW : Wr w base gw ab L) (hl : L.length ≤ 1000000) (hbs : base ≤ w.heap.size) :
    Calls Try.prog 22 #[.pointer (some ⟨g, 0, none⟩), .pointer (some ⟨gw, 0, none⟩), .int .i64 s] w fun e w' => e = .returned (.int .i64 0) ∧ ∃ ab', Wr w' base gw ab' (L ++ dg (wordV l s).1.2.toNat (wordV l s).1.1.toNat) ∧ Fresh w ab ab' ∧ Wfr w w' gw ab := by
  have C := word_any l B g s w hC hs _ rfl
  obtain ⟨hfit, h64⟩ := word_fits l hk s hv
  obtain ⟨v, hvw⟩ : ∃ v, wordV l s = v := ⟨_, rfl⟩
  rw [hvw] at hv hfit h64 C ⊢
  obtain ⟨⟨x, y⟩, er⟩ := v
  dsimp only at hv hfit h64 ⊢
  subst hv
  dsimp only at C
  go_enter Try.func22, Try.ntmps22
  go_wp2_with fail
  refine C.mono ?_
  rintro e w1 ⟨rfl, hb1⟩
  have bf := Blk.new w1 85 #[.int .i64 x, .int .i64 y]
  have hb2 : Below w.heap.size w (w1.alloc (.cells #[.int .i64 x, .int .i64 y] 85)) := hb1.alloc hb1.size _
  obtain ⟨c0, c1, _, _, _⟩ := blk2 bf
  have C2 := Put_yes base gw ab L x y _ hfit h64 (Wr.low hW hb2) hl (by have := hb2.size; omega)
  clear hfit h64
  go_wp2_with fail
  refine C2.mono ?_
  rintro e w2 ⟨rfl, ab', ⟨p1, p2, p3⟩⟩
  go_wp2_with fail
  go_ret
  refine ⟨rfl, ab', p1, ?_, wfr_pre hb2 p3⟩
  rcases p2 with h | ⟨k, h, h2⟩
  · exact .inl h
  · exact .inr ⟨k, h, by have := hb2.size; omega⟩
end LenW
end Go.Proofs.Ytdfclgpkhfpkhaa

namespace Go.Proofs.Ytdfclgpkhfpkhaa
set_option linter.unusedVariables false
set_option linter.unusedSimpArgs false
set_option linter.unnecessarySimpa false
open Go.RowKit
namespace LenW
open BitW (Wr Wfr Fresh Puts)

/-- The bits of symbols, or none's. -/
def symsB (l : List Int) : List Int → List Nat
  | [] => []
  | s :: r => dg (wordV l s).1.2.toNat (wordV l s).1.1.toNat ++ symsB l r
def symsOk (l : List Int) (r : List Int) : Bool := r.all fun s => decide ((wordV l s).2 = 0)
def packC (l r : List Int) : List UInt8 × Int := if chkL l = 0 then (if symsOk l r = true then (textB (symsB l r), 0) else ([], 70)) else ([], chkL l)
theorem symsB_app (l a b : List Int) : symsB l (a ++ b) = symsB l a ++ symsB l b := by
  induction a with
  | nil => rfl
  | cons x a ih => simp [symsB, ih]
theorem symsB_snoc (l r : List Int) (k : Nat) (h : k < r.length) : symsB l (r.take (k + 1)) = symsB l (r.take k) ++ dg (wordV l r[k]).1.2.toNat (wordV l r[k]).1.1.toNat := by
  rw [List.take_succ_eq_append_getElem h, symsB_app]
  simp [symsB]
theorem wordV_width (l : List Int) (hk : chkL l = 0) (s : Int) (h : (wordV l s).2 = 0) : (wordV l s).1.2.toNat ≤ 32 := by
  have := (word_fits l hk s h).1
  unfold fitsB at this
  simp only [Bool.and_eq_true, decide_eq_true_eq] at this
  omega
theorem symsB_len (l : List Int) (hk : chkL l = 0) (r : List Int) (h : symsOk l r = true) : (symsB l r).length ≤ 32 * r.length := by
  induction r with
  | nil => simp [symsB]
  | cons s r ih =>
    unfold symsOk at h ih
    rw [List.all_cons, Bool.and_eq_true, decide_eq_true_eq] at h
    have := ih h.2
    have hw := wordV_width l hk s h.1
    simp only [symsB, List.length_append, List.length_cons, dg_len]
    omega
theorem symsOk_take (l r : List Int) (k : Nat) (h : k < r.length) : symsOk l (r.take (k + 1)) = (symsOk l (r.take k) && decide ((wordV l r[k]).2 = 0)) := by
  unfold symsOk
  rw [List.take_succ_eq_append_getElem h, List.all_append]
  simp
theorem symsOk_no (l r : List Int) (k : Nat) (h : k < r.length) (hn : ¬ (wordV l r[k]).2 = 0) : symsOk l r = false := by
  cases ho : symsOk l r with
  | false => rfl
  | true =>
    unfold symsOk at ho
    rw [List.all_eq_true] at ho
    have := ho _ (List.getElem_mem h)
    simp only [decide_eq_true_eq] at this
    exact absurd this hn
end LenW
end Go.Proofs.Ytdfclgpkhfpkhaa

namespace Go.Proofs.Ytdfclgpkhfpkhaa
set_option linter.unusedVariables false
set_option linter.unusedSimpArgs false
set_option linter.unnecessarySimpa false
open Go.RowKit
namespace LenW
open BitW (Wr Wfr Fresh Puts text_any)

theorem CodeAt.below {w w' : World} {B g : Nat} {l : List Int} (h : CodeAt w B g l) (hb : Below w.heap.size w w') : CodeAt w' B g l := by
  obtain ⟨gW, gS, h1, h2, h3, b1, b2, b3⟩ := h
  exact ⟨gW, gS, h1, h2, h3, b1.below hb b1.lt, b2.below hb b2.lt, b3.below hb b3.lt⟩
end LenW
end Go.Proofs.Ytdfclgpkhfpkhaa
