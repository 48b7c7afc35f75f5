/- The walks of package canon: a symbol's word is put. The walks of package canon: Pack. The walks of package canon: Pack. -/
import Derived.Test.YtnpncpoiiikafaaGreatCanXQb
import Derived.Test.YtnpncpoiiikafaaGreatBitUQb
import Derived.Laws.EntriesVeiled
import Derived.Deep.DeepCutAuto
import Derived.BigQuiet
import Derived.Test.YtnpncpoiiikafaaGreatFrontXQb
import Derived.Deep.OwnRows
import Derived.Test.YtnpncpoiiikafaaGreatLenWQb
import Derived.Test.YtnpncpoiiikafaaGreatCanWQb
import Derived.Test.YtnpncpoiiikafaaGreatLenKQb
import Derived.Test.YtnpncpoiiikafaaGreatBitWQb
import Derived.Test.YtnpncpoiiikafaaGreatLenBQb
namespace Go.Proofs.YtnpncpoiiikafaaGreat
set_option linter.unusedVariables false
set_option linter.unusedSimpArgs false
set_option linter.unnecessarySimpa false
open Go.RowKit
namespace LenW
open BitW (Wr Wfr Fresh Puts Put_yes)

theorem word_fits (l : List Int) (hk : chkL l = 0) (s : Int) (h : (wordV l s).2 = 0) : fitsB (wordV l s).1.1 (wordV l s).1.2 = true ∧ I64 (wordV l s).1.1 := by
  obtain ⟨h257, hok, hsum⟩ := chk0 hk
  unfold wordV at h ⊢
  by_cases hc : 0 ≤ s ∧ s < l.length ∧ ¬ (wordF l s.toNat).2 = 0
  · rw [if_pos hc]
    obtain ⟨h0, h1, h2⟩ := hc
    have hkl : s.toNat < l.length := by omega
    by_cases hp : 0 < l[s.toNat]
    · rw [word_at l _ hkl hp]
      have h15 := okL_at l _ hkl hok
      generalize s.toNat = k at *
      obtain ⟨y, hy⟩ := Int.eq_ofNat_of_zero_le (show 0 ≤ l[k] by omega)
      have hr := room l y (by omega) hsum
      have hs := cntL_snoc l k y hkl
      rw [if_pos ⟨hp, hy⟩] at hs
      have ht := cntL_take l (k + 1) y
      rw [hy]
      simp only [Int.toNat_natCast]
      have hlt : fstL l y + cntL (l.take k) y < 2 ^ y := by omega
      have h2y : (2 : Nat) ^ y ≤ 2 ^ 15 := Nat.pow_le_pow_right (by omega) (by omega)
      constructor
      · unfold fitsB
        simp only [Int.toNat_natCast, Bool.and_eq_true, decide_eq_true_eq]
        refine ⟨⟨⟨by omega, by omega⟩, by omega⟩, ?_⟩
        have : ((fstL l y + cntL (l.take k) y : Nat) : Int) < ((2 ^ y : Nat) : Int) := by exact_mod_cast hlt
        simpa using this
      · unfold I64
        omega
    · exact absurd (by rw [word_no l _ hkl hp]) h2
  · rw [if_neg hc] at h
    simp at h
theorem wfr_pre {w w1 w2 : World} {g : Nat} {ab : Option Nat} (hb : Below w.heap.size w w1) (h : Wfr w1 w2 g ab) : Wfr w w2 g ab :=
  ⟨h.os.trans hb.os, h.tape.trans hb.tape, h.output.trans hb.output, Nat.le_trans hb.size h.size, fun k hk hg ha => (h.block k (Nat.lt_of_lt_of_le hk hb.size) hg ha).trans (hb.block k hk)⟩
theorem Wr.low {w w' : World} {base g : Nat} {ab : Option Nat} {l : List Nat} (h : Wr w base g ab l) (hb : Below w.heap.size w w') : Wr w' base g ab l := by
  obtain ⟨⟨A, nb, c, bs, r, k, bG, o, hab, hk, hr, e⟩, hgb⟩ := h
  exact ⟨⟨A, nb, c, bs, r, k, bG.below hb bG.lt, o.below hb, hab, hk, hr, e⟩, hgb⟩
set_option maxRecDepth 100000 in
set_option maxHeartbeats 4000000 in
theorem cput_yes (l : List Int) (hk : chkL l = 0) (B g : Nat) (s : Int) (base gw : Nat) (ab : Option Nat) (L : List Nat) (w : World) (hC : CodeAt w B g l) (hs : I64 s) (hv : (wordV l s).2 = 0) (hW : Wr w base gw ab L) (hl : L.length ≤ 1000000) (hbs : base ≤ w.heap.size) :
    Calls Tryz.prog 102 #[.pointer (some ⟨g, 0, none⟩), .pointer (some ⟨gw, 0, none⟩), .int .i64 s] w fun e w' => e = .returned (.int .i64 0) ∧ ∃ ab', Wr w' base gw ab' (L ++ dg (wordV l s).1.2.toNat (wordV l s).1.1.toNat) ∧ Fresh w ab ab' ∧ Wfr w w' gw ab := by
  have C := word_any l B g s w hC hs _ rfl
  obtain ⟨hfit, h64⟩ := word_fits l hk s hv
  obtain ⟨v, hvw⟩ : ∃ v, wordV l s = v := ⟨_, rfl⟩
  rw [hvw] at hv hfit h64 C ⊢
  obtain ⟨⟨x, y⟩, er⟩ := v
  dsimp only at hv hfit h64 ⊢
  subst hv
  dsimp only at C
  go_enter Tryz.func102, Tryz.ntmps102
  go_wp2_with fail
  refine C.mono ?_
  rintro e w1 ⟨rfl, hb1⟩
  have bf := Blk.new w1 228 #[.int .i64 x, .int .i64 y]
  have hb2 : Below w.heap.size w (w1.alloc (.cells #[.int .i64 x, .int .i64 y] 228)) := hb1.alloc hb1.size _
  obtain ⟨c0, c1, _, _, _⟩ := blk2 bf
  have C2 := Put_yes base gw ab L x y _ hfit h64 (Wr.low hW hb2) hl (by have := hb2.size; omega)
  clear hfit h64
  go_wp2_with fail
  refine C2.mono ?_
  rintro e w2 ⟨rfl, ab', ⟨p1, p2, p3⟩⟩
  go_wp2_with fail
  go_ret
  refine ⟨rfl, ab', p1, ?_, wfr_pre hb2 p3⟩
  rcases p2 with h | ⟨k, h, h2⟩
  · exact .inl h
  · exact .inr ⟨k, h, by have := hb2.size; omega⟩
end LenW
end Go.Proofs.YtnpncpoiiikafaaGreat

namespace Go.Proofs.YtnpncpoiiikafaaGreat
set_option linter.unusedVariables false
set_option linter.unusedSimpArgs false
set_option linter.unnecessarySimpa false
open Go.RowKit
namespace LenW
open BitW (Wr Wfr Fresh Puts)

/-- The bits of symbols, or none's. -/
def symsB (l : List Int) : List Int → List Nat
  | [] => []
  | s :: r => dg (wordV l s).1.2.toNat (wordV l s).1.1.toNat ++ symsB l r
def symsOk (l : List Int) (r : List Int) : Bool := r.all fun s => decide ((wordV l s).2 = 0)
theorem symsB_app (l a b : List Int) : symsB l (a ++ b) = symsB l a ++ symsB l b := by
  induction a with
  | nil => rfl
  | cons x a ih => simp [symsB, ih]
theorem symsB_snoc (l r : List Int) (k : Nat) (h : k < r.length) : symsB l (r.take (k + 1)) = symsB l (r.take k) ++ dg (wordV l r[k]).1.2.toNat (wordV l r[k]).1.1.toNat := by
  rw [List.take_succ_eq_append_getElem h, symsB_app]
  simp [symsB]
theorem wordV_width (l : List Int) (hk : chkL l = 0) (s : Int) (h : (wordV l s).2 = 0) : (wordV l s).1.2.toNat ≤ 32 := by
  have := (word_fits l hk s h).1
  unfold fitsB at this
  simp only [Bool.and_eq_true, decide_eq_true_eq] at this
  omega
theorem symsB_len (l : List Int) (hk : chkL l = 0) (r : List Int) (h : symsOk l r = true) : (symsB l r).length ≤ 32 * r.length := by
  induction r with
  | nil => simp [symsB]
  | cons s r ih =>
    unfold symsOk at h ih
    rw [List.all_cons, Bool.and_eq_true, decide_eq_true_eq] at h
    have := ih h.2
    have hw := wordV_width l hk s h.1
    simp only [symsB, List.length_append, List.length_cons, dg_len]
    omega
end LenW
end Go.Proofs.YtnpncpoiiikafaaGreat

namespace Go.Proofs.YtnpncpoiiikafaaGreat
set_option linter.unusedVariables false
set_option linter.unusedSimpArgs false
set_option linter.unnecessarySimpa false
open Go.RowKit
namespace LenW
open BitW (Wr Wfr Fresh Puts text_any)

theorem CodeAt.below {w w' : World} {B g : Nat} {l : List Int} (h : CodeAt w B g l) (hb : Below w.heap.size w w') : CodeAt w' B g l := by
  obtain ⟨gW, gS, h1, h2, h3, b1, b2, b3⟩ := h
  exact ⟨gW, gS, h1, h2, h3, b1.below hb b1.lt, b2.below hb b2.lt, b3.below hb b3.lt⟩
end LenW
end Go.Proofs.YtnpncpoiiikafaaGreat

namespace Go.Proofs.YtnpncpoiiikafaaGreat
set_option linter.unusedVariables false
set_option linter.unusedSimpArgs false
set_option linter.unnecessarySimpa false
open Go.RowKit
namespace LenW

def findL (l : List Int) (n w : Nat) : Int × Bool := if fstL l w ≤ n ∧ n - fstL l w < cntL l w then ((sortF l)[plcL l w + (n - fstL l w)]?.getD 0, true) else (0, false)
theorem plc_lt (l : List Int) (w i : Nat) (h : i < cntL l w) : plcL l w + i < usedL l := by
  have h1 := plcL_succ l w
  have h2 := plcL_le l (w + 1)
  omega
set_option maxRecDepth 100000 in
set_option maxHeartbeats 4000000 in
theorem find_any (l : List Int) (hk : chkL l = 0) (B g : Nat) (n wd : Nat) (w : World) (hC : CodeAt w B g l) (hn : n ≤ 65536) (hwd : wd ≤ 15) (v : Int × Bool) (hv : findL l n wd = v) :
    Calls Tryz.prog 138 #[.pointer (some ⟨g, 0, none⟩), .int .i64 n, .int .i64 wd] w fun e w' => e = .returned (.tuple #[.int .i64 v.1, .bool v.2]) ∧ ∃ nq, w' = w.drewN nq := by
  obtain ⟨h257, hok, hsum⟩ := chk0 hk
  have hroom := room l wd hwd hsum
  have h2y : (2 : Nat) ^ wd ≤ 2 ^ 15 := Nat.pow_le_pow_right (by omega) (by omega)
  have hpl := plc_lt l wd
  have hus := usedL_le l
  obtain ⟨gW, gS, h1, h2, h3, b1, b2, b3⟩ := hC
  have k1 := b1.cell_ 1 (v := .slice (some ⟨gS, 0, none⟩) (usedL l) (usedL l)) rfl
  have kc := b1.cell_ _ (code_c (tab_len _) wd (by omega))
  have kf := b1.cell_ _ (code_f (tab_len _) (tab_len _) wd (by omega))
  have kp := b1.cell_ _ (code_p (tab_len _) (tab_len _) (tab_len _) wd (by omega))
  rw [tab_at _ wd (by omega)] at kc kf kp
  have hS : ∀ (k : Nat) (hk : k < (sortF l).length), w.cell? ⟨gS, k, none⟩ = some (.int .i64 (sortF l)[k]) := fun k hk => b3.cell_ k (by simp [ints, hk])
  have hsl : (sortF l).length = usedL l := sortK_len l _
  obtain ⟨us, hus'⟩ : ∃ x, usedL l = x := ⟨_, rfl⟩
  rw [hus'] at k1 hsl hpl hus
  clear b1 b2 b3 hok hsum hk hus'
  have HV := Lib.hid hv
  unfold findL at HV
  clear hv
  generalize sortF l = srt at *
  generalize fstL l wd = f at *
  generalize cntL l wd = c at *
  generalize plcL l wd = pl at *
  have hw0 : (0 : Int) ≤ (wd : Int) := by omega
  have hw1 : (wd : Int) < 16 := by omega
  have hs1 : IntKind.i64.wrap ((n : Int) - (f : Int)) = (n : Int) - (f : Int) := w64k (by omega) (by omega)
  have HS1 := Lib.hid hs1
  clear hs1
  by_cases hlo : f ≤ n
  · obtain ⟨i, rfl⟩ : ∃ i, n = f + i := ⟨n - f, by omega⟩
    have hn0 : ¬ ((f + i : Nat) : Int) - (f : Int) < 0 := by omega
    have hsub : ((f + i : Nat) : Int) - (f : Int) = (i : Int) := by omega
    by_cases hi : i < c
    · have hx : v = (srt[pl + i]'(by rw [hsl]; exact hpl i hi), true) := by rw [← HV.out, if_pos ⟨by omega, by omega⟩, show f + i - f = i from by omega, List.getElem?_eq_getElem (by rw [hsl]; exact hpl i hi)]; rfl
      subst hx
      have hpi := hpl i hi
      have kS := hS (pl + i) (by omega)
      obtain ⟨y, hy⟩ : ∃ y, srt[pl + i]'(by omega) = y := ⟨_, rfl⟩
      rw [hy] at kS ⊢
      have hge : ¬ (i : Int) ≥ (c : Int) := by omega
      have hi0 : ¬ (i : Int) < 0 := by omega
      clear hS HV hy hpl
      go_enter Tryz.func138, Tryz.ntmps138
      go_upto_region 2 with fail
      try rw [hsub]
      go_wp2_with fail
      go_quiet (fail)
      go_wp2
      go_ret2
      exact ⟨rfl, _, rfl⟩
    · have hx : v = (0, false) := by rw [← HV.out, if_neg (by omega)]
      subst hx
      have hge : (i : Int) ≥ (c : Int) := by omega
      have hi0 : ¬ (i : Int) < 0 := by omega
      clear hS HV hpl
      go_enter Tryz.func138, Tryz.ntmps138
      go_upto_region 2 with fail
      try rw [hsub]
      go_wp2_with fail
      go_ret2
      exact ⟨rfl, 0, rfl⟩
  · have hx : v = (0, false) := by rw [← HV.out, if_neg (by omega)]
    subst hx
    have hneg : (n : Int) - (f : Int) < 0 := by omega
    go_enter Tryz.func138, Tryz.ntmps138
    go_wp2_with fail
    go_ret2
    exact ⟨rfl, 0, rfl⟩
end LenW
end Go.Proofs.YtnpncpoiiikafaaGreat

namespace Go.Proofs.YtnpncpoiiikafaaGreat
set_option linter.unusedVariables false
set_option linter.unusedSimpArgs false
set_option linter.unnecessarySimpa false
open Go.RowKit
namespace LenW

end LenW
end Go.Proofs.YtnpncpoiiikafaaGreat

namespace Go.Proofs.YtnpncpoiiikafaaGreat
set_option linter.unusedVariables false
set_option linter.unusedSimpArgs false
set_option linter.unnecessarySimpa false
open Go.RowKit
namespace LenW
open BitW (rdr RLeft getB_short getB_yes)

theorem grown_below {w w' : World} {gl : Nat} (h : w.grownBy w' (some gl)) (hl : gl < w.heap.size) : Below gl w w' := ⟨h.os, h.tape, h.output, h.size, fun k hk => h.block k (by omega) (by simp; omega)⟩
end LenW
end Go.Proofs.YtnpncpoiiikafaaGreat

namespace Go.Proofs.YtnpncpoiiikafaaGreat
set_option linter.unusedVariables false
set_option linter.unusedSimpArgs false
set_option linter.unnecessarySimpa false
open Go.RowKit
namespace LenW
open BitW (rdr RLeft left_any)

end LenW
end Go.Proofs.YtnpncpoiiikafaaGreat

namespace Go.Proofs.YtnpncpoiiikafaaGreat
set_option linter.unusedVariables false
set_option linter.unusedSimpArgs false
set_option linter.unnecessarySimpa false
open Go.RowKit
namespace LenW

end LenW
end Go.Proofs.YtnpncpoiiikafaaGreat

namespace Go.Proofs.YtnpncpoiiikafaaGreat
set_option linter.unusedVariables false
set_option linter.unusedSimpArgs false
set_option linter.unnecessarySimpa false
open Go.RowKit
namespace LenW

theorem wordV_at (l : List Int) (k : Nat) (h : k < l.length) : wordV l k = if (wordF l k).2 = 0 then ((0, 0), 70) else (wordF l k, 0) := by
  unfold wordV
  rw [Int.toNat_natCast]
  by_cases h2 : (wordF l k).2 = 0
  · rw [if_pos h2, if_neg (by simp [h2])]
  · rw [if_neg h2, if_pos ⟨by omega, by omega, h2⟩]
theorem wordV_out (l : List Int) (s : Int) (h : s < 0 ∨ (l.length : Int) ≤ s) : wordV l s = ((0, 0), 70) := by
  unfold wordV
  rw [if_neg (by omega)]
end LenW
end Go.Proofs.YtnpncpoiiikafaaGreat

namespace Go.Proofs.YtnpncpoiiikafaaGreat
set_option linter.unusedVariables false
set_option linter.unusedSimpArgs false
set_option linter.unnecessarySimpa false
open Go.RowKit
namespace LenW

end LenW
end Go.Proofs.YtnpncpoiiikafaaGreat

namespace Go.Proofs.YtnpncpoiiikafaaGreat
set_option linter.unusedVariables false
set_option linter.unusedSimpArgs false
set_option linter.unnecessarySimpa false
open Go.RowKit
namespace LenW
open Classical

theorem wordV_V {l : List Int} {s : Nat} (h : Vs l s) : wordV l s = (((nm l s : Int), (wd l s : Int)), 0) := by
  obtain ⟨h1, h2⟩ := id h
  have := wd_pos h
  rw [wordV_at l s h1, wordF_V h, if_neg (by simp; omega)]
theorem wordV_N {l : List Int} {s : Nat} (h : ¬ Vs l s) : wordV l s = ((0, 0), 70) := by
  by_cases h1 : s < l.length
  · rw [wordV_at l s h1, wordF_N h, if_pos rfl]
  · exact wordV_out l s (.inr (by omega))
theorem Vs_iff {l : List Int} {s : Nat} : (wordV l s).2 = 0 ↔ Vs l s := by
  constructor
  · intro h
    exact Decidable.byContradiction fun e => by rw [wordV_N e] at h; exact absurd h (by decide)
  · intro h; rw [wordV_V h]
end LenW
end Go.Proofs.YtnpncpoiiikafaaGreat

namespace Go.Proofs.YtnpncpoiiikafaaGreat
set_option linter.unusedVariables false
set_option linter.unusedSimpArgs false
set_option linter.unnecessarySimpa false
open Go.RowKit
namespace LenW

end LenW
end Go.Proofs.YtnpncpoiiikafaaGreat

namespace Go.Proofs.YtnpncpoiiikafaaGreat
set_option linter.unusedVariables false
set_option linter.unusedSimpArgs false
set_option linter.unnecessarySimpa false
open Go.RowKit
namespace LenW
open Classical

end LenW
end Go.Proofs.YtnpncpoiiikafaaGreat

namespace Go.Proofs.YtnpncpoiiikafaaGreat
set_option linter.unusedVariables false
set_option linter.unusedSimpArgs false
set_option linter.unnecessarySimpa false
open Go.RowKit
namespace BitW

end BitW
end Go.Proofs.YtnpncpoiiikafaaGreat

namespace Go.Proofs.YtnpncpoiiikafaaGreat
set_option linter.unusedVariables false
set_option linter.unusedSimpArgs false
set_option linter.unnecessarySimpa false
open Go.RowKit
namespace BitW

end BitW
end Go.Proofs.YtnpncpoiiikafaaGreat

namespace Go.Proofs.YtnpncpoiiikafaaGreat
set_option linter.unusedVariables false
set_option linter.unusedSimpArgs false
set_option linter.unnecessarySimpa false
open Go.RowKit
namespace BitW

end BitW
end Go.Proofs.YtnpncpoiiikafaaGreat

namespace Go.Proofs.YtnpncpoiiikafaaGreat
set_option linter.unusedVariables false
set_option linter.unusedSimpArgs false
set_option linter.unnecessarySimpa false
open Go.RowKit
namespace BitW

theorem gam_len {x : Nat} (h0 : 0 < x) (h : x < 2 ^ 32) : (gam x).length + 1 = 2 * blen x ∧ 1 ≤ blen x ∧ blen x ≤ 32 := by
  obtain ⟨a1, a2, _, _⟩ := blen_facts h0 h
  refine ⟨?_, a1, a2⟩
  rw [gam, List.length_append, dg_len, dg_len]
  omega
end BitW
end Go.Proofs.YtnpncpoiiikafaaGreat

namespace Go.Proofs.YtnpncpoiiikafaaGreat
set_option linter.unusedVariables false
set_option linter.unusedSimpArgs false
set_option linter.unnecessarySimpa false
open Go.RowKit
namespace TabW
open LenW (okL okL_at chkL chk0)
open BitW (gam blen gam_len blen_facts cut cut_len cut_lt cut_app)

/-- A number behind runs. -/
def addR : List (Int × Int) → Int → List (Int × Int)
  | [], x => [(x, 1)]
  | [(y, k)], x => if y = x then [(y, k + 1)] else [(y, k), (x, 1)]
  | p :: q :: r, x => p :: addR (q :: r) x
/-- The runs of numbers. -/
def rle : List Int → List (Int × Int)
  | [] => []
  | x :: l => match rle l with
    | [] => [(x, 1)]
    | (y, k) :: r => if x = y then (y, k + 1) :: r else (x, 1) :: (y, k) :: r
def conR (x : Int) : List (Int × Int) → List (Int × Int)
  | [] => [(x, 1)]
  | (y, k) :: r => if x = y then (y, k + 1) :: r else (x, 1) :: (y, k) :: r
theorem con_cons (x y k : Int) (r : List (Int × Int)) : conR x ((y, k) :: r) = if x = y then (y, k + 1) :: r else (x, 1) :: (y, k) :: r := rfl
theorem rle_cons (x : Int) (l : List Int) : rle (x :: l) = conR x (rle l) := by
  rw [rle]
  cases rle l with
  | nil => rfl
  | cons p r => rfl
theorem con_add (a x : Int) (R : List (Int × Int)) : conR a (addR R x) = addR (conR a R) x := by
  match R with
  | [] =>
    by_cases h : a = x
    · simp [addR, conR, h]
    · simp [addR, conR, h]
  | [(y, k)] =>
    by_cases h : y = x
    · subst h
      by_cases h2 : a = y
      · subst h2; simp [addR, conR]
      · simp [addR, conR, h2]
    · by_cases h2 : a = y
      · subst h2; simp [addR, conR, h]
      · simp [addR, conR, h, h2]
  | (y, k) :: q :: r =>
    by_cases h2 : a = y
    · subst h2; simp [addR, conR]
    · simp [addR, conR, h2]
theorem rle_snoc (l : List Int) (x : Int) : rle (l ++ [x]) = addR (rle l) x := by
  induction l with
  | nil => rfl
  | cons a l ih => rw [List.cons_append, rle_cons, ih, con_add, ← rle_cons]
theorem addR_last {R : List (Int × Int)} {j : Nat} {x k : Int} (hj : R.length = j + 1) (h : R[j]'(by omega) = (x, k)) : addR R x = R.set j (x, k + 1) := by
  induction R generalizing j with
  | nil => simp at hj
  | cons p R ih =>
    cases R with
    | nil =>
      obtain rfl : j = 0 := by simpa using hj
      simp at h
      subst h
      simp [addR]
    | cons q r =>
      obtain ⟨i, rfl⟩ : ∃ i, j = i + 1 := ⟨j - 1, by simp only [List.length_cons] at hj; omega⟩
      rw [addR, ih (j := i) (by simpa using hj) (by simpa using h)]
      rfl
theorem addR_new {R : List (Int × Int)} {x : Int} (h : ∀ (j : Nat) (hj : R.length = j + 1), (R[j]'(by omega)).1 ≠ x) : addR R x = R ++ [(x, 1)] := by
  induction R with
  | nil => rfl
  | cons p R ih =>
    cases R with
    | nil =>
      obtain ⟨y, k⟩ := p
      have : y ≠ x := h 0 rfl
      simp [addR, this]
    | cons q r =>
      rw [addR, ih (fun j hj => by have := h (j + 1) (by simpa using hj); simpa using this)]
      rfl
/-- What runs are the runs of. -/
def expR (R : List (Int × Int)) : List Int := R.flatMap fun r => List.replicate r.2.toNat r.1
theorem expR_con (x : Int) (R : List (Int × Int)) (h : ∀ r ∈ R, 0 < r.2) : expR (conR x R) = x :: expR R := by
  cases R with
  | nil => rfl
  | cons p r =>
    obtain ⟨y, k⟩ := p
    have hk : 0 < k := h (y, k) (by simp)
    by_cases hx : x = y
    · subst hx
      simp only [conR, if_pos, expR, List.flatMap_cons]
      rw [show (k + 1).toNat = k.toNat + 1 by omega, List.replicate_succ]
      rfl
    · simp only [conR, if_neg hx, expR, List.flatMap_cons]
      rfl
theorem con_pos (x : Int) (R : List (Int × Int)) (h : ∀ r ∈ R, 0 < r.2) : ∀ r ∈ conR x R, 0 < r.2 := by
  cases R with
  | nil => intro r hr; simp [conR] at hr; subst hr; show (0 : Int) < 1; decide
  | cons p R =>
    obtain ⟨y, k⟩ := p
    have hk : 0 < k := h (y, k) (by simp)
    have hR : ∀ r ∈ R, 0 < r.2 := fun r hr => h r (by simp [hr])
    intro r hr
    rw [con_cons] at hr
    by_cases h2 : x = y
    · rw [if_pos h2] at hr
      rcases List.mem_cons.1 hr with rfl | hr
      · show 0 < k + 1; omega
      · exact hR r hr
    · rw [if_neg h2] at hr
      rcases List.mem_cons.1 hr with rfl | hr
      · show (0 : Int) < 1; decide
      · exact h r hr
theorem rle_pos (l : List Int) : ∀ r ∈ rle l, 0 < r.2 := by
  induction l with
  | nil => intro r hr; simp [rle] at hr
  | cons x l ih => rw [rle_cons]; exact con_pos x _ ih
theorem exp_rle (l : List Int) : expR (rle l) = l := by
  induction l with
  | nil => rfl
  | cons x l ih => rw [rle_cons, expR_con x _ (rle_pos l), ih]
theorem rle_mem (l : List Int) : ∀ r ∈ rle l, r.1 ∈ l ∧ r.2 ≤ l.length := by
  intro r hr
  have hp := rle_pos l r hr
  have h1 : ∀ y ∈ List.replicate r.2.toNat r.1, y ∈ expR (rle l) := fun y hy => List.mem_flatMap.2 ⟨r, hr, hy⟩
  rw [exp_rle] at h1
  refine ⟨h1 _ (by simp; omega), ?_⟩
  have h2 : (List.replicate r.2.toNat r.1).Sublist (expR (rle l)) := by
    obtain ⟨a, b, hab⟩ := List.append_of_mem hr
    rw [hab]
    unfold expR
    rw [List.flatMap_append, List.flatMap_cons]
    exact (List.sublist_append_left _ _).trans (List.sublist_append_right _ _)
  rw [exp_rle] at h2
  have := h2.length_le
  rw [List.length_replicate] at this
  omega
theorem con_len (x : Int) (R : List (Int × Int)) : (conR x R).length ≤ R.length + 1 := by
  cases R with
  | nil => exact Nat.le_refl _
  | cons p R =>
    obtain ⟨y, k⟩ := p
    rw [con_cons]
    by_cases h : x = y
    · rw [if_pos h]; simp
    · rw [if_neg h]; simp
theorem rle_len (l : List Int) : (rle l).length ≤ l.length := by
  induction l with
  | nil => exact Nat.le_refl _
  | cons x l ih =>
    rw [rle_cons, List.length_cons]
    have := con_len x (rle l)
    omega
/-- The bits of runs. -/
def runB (r : Int × Int) : List Nat := dg 4 r.1.toNat ++ gam r.2.toNat
def runsB (R : List (Int × Int)) : List Nat := R.flatMap runB
def tabB (l : List Int) : List Nat := runsB (rle l)
theorem runsB_app (a b : List (Int × Int)) : runsB (a ++ b) = runsB a ++ runsB b := by simp [runsB]
theorem runsB_snoc (R : List (Int × Int)) (k : Nat) (h : k < R.length) : runsB (R.take (k + 1)) = runsB (R.take k) ++ runB R[k] := by
  rw [List.take_succ_eq_append_getElem h, runsB_app]
  simp [runsB]
/-- A run that a code's lengths may have. -/
def goodR (r : Int × Int) : Prop := 0 ≤ r.1 ∧ r.1 ≤ 15 ∧ 1 ≤ r.2 ∧ r.2 ≤ 257
theorem rle_good {l : List Int} (hk : chkL l = 0) : ∀ r ∈ rle l, goodR r := by
  intro r hr
  obtain ⟨h257, hok, _⟩ := chk0 hk
  obtain ⟨h1, h2⟩ := rle_mem l r hr
  have h3 := rle_pos l r hr
  obtain ⟨i, hi, he⟩ := List.getElem_of_mem h1
  have := okL_at l i hi hok
  rw [he] at this
  exact ⟨this.1, this.2, by omega, by omega⟩
theorem runB_len {r : Int × Int} (h : goodR r) : (runB r).length ≤ 67 := by
  obtain ⟨h1, h2, h3, h4⟩ := h
  have := gam_len (x := r.2.toNat) (by omega) (by omega)
  unfold runB
  rw [List.length_append, dg_len]
  omega
theorem runsB_len (R : List (Int × Int)) (h : ∀ r ∈ R, goodR r) : (runsB R).length ≤ 67 * R.length := by
  induction R with
  | nil => simp [runsB]
  | cons r R ih =>
    have h1 := runB_len (h r (by simp))
    have h2 := ih (fun r hr => h r (by simp [hr]))
    have e : runsB (r :: R) = runB r ++ runsB R := by simp [runsB]
    rw [e, List.length_append, List.length_cons]
    omega
end TabW
end Go.Proofs.YtnpncpoiiikafaaGreat

namespace Go.Proofs.YtnpncpoiiikafaaGreat
set_option linter.unusedVariables false
set_option linter.unusedSimpArgs false
set_option linter.unnecessarySimpa false
open Go.RowKit
namespace TabW
open LenW (okL okL_at chkL chk0)
open BitW (gam blen gam_len blen_facts cut cut_len cut_lt cut_app getB_yes getB_short)

end TabW
end Go.Proofs.YtnpncpoiiikafaaGreat
