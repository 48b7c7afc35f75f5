/- The walks of package want and its reference: two numbers, parted by a -; what the package-level variables hold. -/
import Derived.Test.YtdeiehgghhiijaaDoorWanI
import Derived.Lib.AppendIntMem
import Derived.Lib.SmallJoins
namespace Go.Proofs.YtdeiehgghhiijaaDoor
set_option linter.unusedVariables false
set_option linter.unusedSimpArgs false
set_option linter.unnecessarySimpa false
open Go.RowKit
namespace WanW

/-- What the world holds that the library's searches and Itoa read. -/
structure Wo (w : World) : Prop where
  cut : ∃ m, w.cell? ⟨1, 0, none⟩ = some (.int .i64 m)
  tab : Lib.TabIs Tryd.prog w "internal/strconv.uint64pow10" .u64 Lib.pow10Tab
theorem gPow : Tryd.prog.globalNamed "internal/strconv.uint64pow10" = some 0 := by kernel_rfl
theorem Wo.below {w w' : World} (h : Wo w) (hb : Below w.heap.size w w') : Wo w' :=
  ⟨by
    obtain ⟨m, hm⟩ := h.cut
    exact ⟨m, (hb.cell (p := ⟨1, 0, none⟩) (World.block_lt_of_cell? w _ hm)).trans hm⟩, Joins.tab_stays gPow h.tab hb (Nat.le_refl _)⟩

/-- What stands ahead of the first c, and behind it. -/
def bef (c : UInt8) (s : List UInt8) : List UInt8 := s.takeWhile (· != c)
def aft (c : UInt8) (s : List UInt8) : List UInt8 := (s.dropWhile (· != c)).tail
theorem index_one (c : UInt8) (s : List UInt8) : Lib.index s [c] = if s.contains c then ((bef c s).length : Int) else -1 := by
  induction s with
  | nil => rfl
  | cons b s ih =>
    unfold Lib.index
    by_cases h : c = b
    · subst h; simp [bef, List.isPrefixOf]
    · have h2 : (b != c) = true := by simp; exact fun e => h e.symm
      have h3 : [c].isPrefixOf (b :: s) = false := by simp [List.isPrefixOf, h]
      rw [h3, ih]
      have h4 : (b :: s).contains c = s.contains c := by simp [List.contains_cons, h]
      have h5 : bef c (b :: s) = b :: bef c s := by simp [bef, List.takeWhile_cons, h2]
      rw [h4, h5]
      cases s.contains c <;> simp <;> try omega
theorem bef_aft (c : UInt8) (s : List UInt8) : (s.contains c = true → s = bef c s ++ c :: aft c s) ∧ (s.contains c = false → bef c s = s ∧ aft c s = []) := by
  induction s with
  | nil => simp [bef, aft]
  | cons b s ih =>
    by_cases h : b = c
    · subst h; simp [bef, aft]
    · have h2 : (b != c) = true := by simp; exact h
      have h4 : (b :: s).contains c = s.contains c := by simp [List.contains_cons]; intro e; exact absurd e.symm h
      have h5 : bef c (b :: s) = b :: bef c s := by simp [bef, List.takeWhile_cons, h2]
      have h6 : aft c (b :: s) = aft c s := by simp [aft, List.dropWhile_cons, h2]
      rw [h4, h5, h6]
      exact ⟨fun e => by rw [List.cons_append, ← ih.1 e], fun e => by rw [(ih.2 e).1, (ih.2 e).2]; exact ⟨rfl, rfl⟩⟩
theorem cut_one (c : UInt8) (s : List UInt8) : Lib.cut s [c] = (bef c s, aft c s, s.contains c) := by
  have hba := bef_aft c s
  unfold Lib.cut
  rw [index_one]
  cases h : s.contains c
  · rw [(hba.2 h).1, (hba.2 h).2]; rfl
  · have e := hba.1 h
    rw [if_pos rfl, if_pos (by omega)]
    simp only [Int.toNat_natCast, List.length_singleton]
    have e1 : s.take (bef c s).length = bef c s := by
      have h1 := congrArg (List.take (bef c s).length) e
      rw [h1]
      simp
    have e2 : s.drop ((bef c s).length + 1) = aft c s := by
      have h1 := congrArg (List.drop ((bef c s).length + 1)) e
      rw [h1, ← List.drop_drop]
      simp
    rw [e1, e2]
theorem bef_le (c : UInt8) (s : List UInt8) : (bef c s).length ≤ s.length := by unfold bef; exact (List.takeWhile_sublist _).length_le
theorem aft_le (c : UInt8) (s : List UInt8) : (aft c s).length ≤ s.length := by
  unfold aft
  rw [List.length_tail]
  have := (List.dropWhile_sublist (p := (· != c)) (l := s)).length_le
  omega
theorem cut_any (s : List UInt8) (c : UInt8) (w : World) (h : Wo w) (hs : s.length ≤ 100000) :
    Calls Tryd.prog 62 #[str s, .string ⟨#[c]⟩] w fun e w' => e = .returned (.tuple #[str (bef c s), str (aft c s), .bool (s.contains c)]) ∧ Below w.heap.size w w' := by
  obtain ⟨m, hm⟩ := h.cut
  refine (Tryd.strings_Cut ⟨s.toArray⟩ ⟨#[c]⟩ m w (by show s.toArray.size < _; simp; omega) hm).mono ?_
  rintro e w' ⟨rfl, n, rfl⟩
  refine ⟨?_, (Below.refl _ _).drewN_ n⟩
  show Ending.returned (Value.tuple #[.string ⟨(Lib.cut s [c]).1.toArray⟩, .string ⟨(Lib.cut s [c]).2.1.toArray⟩, .bool (Lib.cut s [c]).2.2]) = _
  rw [cut_one]
theorem decL_dec (n : Nat) : Lib.decDigits n = decL n := by
  induction n using Nat.strongRecOn with
  | ind n ih =>
    rw [Lib.decDigits, decL]
    by_cases h : n < 10
    · rw [dif_pos h, dif_pos h]
    · rw [dif_neg h, dif_neg h, ih (n / 10) (by omega)]
theorem itoa_any (n : Int) (h0 : 0 ≤ n) (h1 : n ≤ 1000000001) (w : World) (h : Wo w) :
    Calls Tryd.prog 33 #[.int .i64 n] w fun e w' => e = .returned (str (decL n.toNat)) ∧ Below w.heap.size w w' := by
  refine (Tryd.strconv_Itoa n (by omega) (by omega) w h.tab).mono ?_
  rintro e w' ⟨rfl, k, os, rfl⟩
  refine ⟨?_, Lib.below_grow _ w (Nat.le_refl _) k os⟩
  rw [Lib.itoa, if_neg (by omega), decL_dec]
/-- Two numbers, parted by a -. -/
def lo2 (s : List UInt8) : Int := (numV (bef 45 s)).1
def hi2 (s : List UInt8) : Int := (numV (aft 45 s)).1
def ok2 (s : List UInt8) : Bool := s.contains 45 && ((numV (bef 45 s)).2 && (numV (aft 45 s)).2)
/-- Results: a struct that lies in a block, and one value; and two. -/
theorem results_rowA {P : Program} {fn : Func} {p q : Tmp} {ty : TypeId} (h : fn.results = #[.cell p ty, .tmp q]) (tmps : Array Value) (w : World) (g : Nat) (cs : Array Value) (d : TypeDesc)
    (hp : tmps.getD p undef = .pointer (some ⟨g, 0, none⟩)) {t : TypeId} (hg : Blk w g t cs)
    (hu : P.underlying ty = some d) (hd : (match d with | .struct _ | .array _ _ => true | _ => false) = true) (hi : (P.info? ty).map (·.size) = some cs.size) :
    (results fn tmps).run P w = .ok (.tuple #[.agg cs, tmps.getD q undef]) w := by
  have hp' : tmps[p]?.getD undef = .pointer (some ⟨g, 0, none⟩) := by simpa using hp
  simp [results, h, hp', asAddr, run_loadVar_row w g t ty cs (0, 0) d hg hu hd hi]
theorem results_rowB {P : Program} {fn : Func} {p q r : Tmp} {ty : TypeId} (h : fn.results = #[.cell p ty, .tmp q, .tmp r]) (tmps : Array Value) (w : World) (g : Nat) (cs : Array Value) (d : TypeDesc)
    (hp : tmps.getD p undef = .pointer (some ⟨g, 0, none⟩)) {t : TypeId} (hg : Blk w g t cs)
    (hu : P.underlying ty = some d) (hd : (match d with | .struct _ | .array _ _ => true | _ => false) = true) (hi : (P.info? ty).map (·.size) = some cs.size) :
    (results fn tmps).run P w = .ok (.tuple #[.agg cs, tmps.getD q undef, tmps.getD r undef]) w := by
  have hp' : tmps[p]?.getD undef = .pointer (some ⟨g, 0, none⟩) := by simpa using hp
  simp [results, h, hp', asAddr, run_loadVar_row w g t ty cs (0, 0) d hg hu hd hi]
end WanW
end Go.Proofs.YtdeiehgghhiijaaDoor
