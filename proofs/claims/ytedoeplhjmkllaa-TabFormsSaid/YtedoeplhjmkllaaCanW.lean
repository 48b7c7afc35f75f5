/- A code's cells. -/
import Derived.Test.YtedoeplhjmkllaaLenR
import Derived.Test.YtedoeplhjmkllaaBitQ
import Derived.Test.YtedoeplhjmkllaaReg2
namespace Go.Proofs.Ytedoeplhjmkllaa
set_option linter.unusedVariables false
set_option linter.unusedSimpArgs false
set_option linter.unnecessarySimpa false
open Go.RowKit
namespace LenW

/-- A code's cells: its words, the symbols in their words' order, and of each length how many, the first one, its place. -/
def codeL (W S : Value) (cs fs ps : List Int) (m : Bool) : List Value := W :: S :: (ints cs ++ (ints fs ++ (ints ps ++ [.bool m])))
abbrev codeC (W S : Value) (cs fs ps : List Int) (m : Bool) : Array Value := (codeL W S cs fs ps m).toArray
section
variable {W S : Value} {cs fs ps : List Int} {m : Bool} (hc : cs.length = 16) (hf : fs.length = 16) (hp : ps.length = 16)
include hc in
theorem code_c (i : Nat) (h : i < 16) : (codeC W S cs fs ps m)[2 + i]? = some (.int .i64 (cs[i]'(by omega))) := by
  simp only [codeC, codeL, List.getElem?_toArray, show 2 + i = i + 1 + 1 from by omega, List.getElem?_cons_succ]
  rw [List.getElem?_append_left (by rw [ints_len]; omega)]
  simp [ints, hc, h]
include hc hf in
theorem code_f (i : Nat) (h : i < 16) : (codeC W S cs fs ps m)[18 + i]? = some (.int .i64 (fs[i]'(by omega))) := by
  simp only [codeC, codeL, List.getElem?_toArray, show 18 + i = (16 + i) + 1 + 1 from by omega, List.getElem?_cons_succ]
  rw [List.getElem?_append_right (by rw [ints_len]; omega), ints_len, List.getElem?_append_left (by rw [ints_len]; omega)]
  simp only [hc, show 16 + i - 16 = i from by omega]
  simp [ints, hf, h]
include hc hf hp in
theorem code_p (i : Nat) (h : i < 16) : (codeC W S cs fs ps m)[34 + i]? = some (.int .i64 (ps[i]'(by omega))) := by
  simp only [codeC, codeL, List.getElem?_toArray, show 34 + i = (32 + i) + 1 + 1 from by omega, List.getElem?_cons_succ]
  rw [List.getElem?_append_right (by rw [ints_len]; omega), ints_len, List.getElem?_append_right (by rw [ints_len]; omega), ints_len, List.getElem?_append_left (by rw [ints_len]; omega)]
  simp only [hc, hf, show 32 + i - 16 - 16 = i from by omega]
  simp [ints, hp, h]
include hc hf hp in
theorem code_m : (codeC W S cs fs ps m)[50]? = some (.bool m) := by
  simp only [codeC, codeL, List.getElem?_toArray, show 50 = 48 + 1 + 1 from rfl, List.getElem?_cons_succ]
  rw [List.getElem?_append_right (by rw [ints_len]; omega), ints_len, List.getElem?_append_right (by rw [ints_len]; omega), ints_len, List.getElem?_append_right (by rw [ints_len]; omega), ints_len]
  simp [hc, hf, hp]
include hc in
theorem code_cset (i : Nat) (h : i < 16) (x : Int) : (codeC W S cs fs ps m).setIfInBounds (2 + i) (.int .i64 x) = codeC W S (cs.set i x) fs ps m := by
  simp only [codeC, codeL, List.setIfInBounds_toArray, show 2 + i = i + 1 + 1 from by omega, List.set_cons_succ]
  rw [List.set_append_left _ _ (by rw [ints_len]; omega)]
  simp [ints, List.map_set]
include hc hf in
theorem code_fset (i : Nat) (h : i < 16) (x : Int) : (codeC W S cs fs ps m).setIfInBounds (18 + i) (.int .i64 x) = codeC W S cs (fs.set i x) ps m := by
  simp only [codeC, codeL, List.setIfInBounds_toArray, show 18 + i = (16 + i) + 1 + 1 from by omega, List.set_cons_succ]
  rw [List.set_append_right _ _ (by rw [ints_len]; omega), ints_len, List.set_append_left _ _ (by rw [ints_len]; omega)]
  simp [ints, List.map_set, hc]
include hc hf hp in
theorem code_pset (i : Nat) (h : i < 16) (x : Int) : (codeC W S cs fs ps m).setIfInBounds (34 + i) (.int .i64 x) = codeC W S cs fs (ps.set i x) m := by
  simp only [codeC, codeL, List.setIfInBounds_toArray, show 34 + i = (32 + i) + 1 + 1 from by omega, List.set_cons_succ]
  rw [List.set_append_right _ _ (by rw [ints_len]; omega), ints_len, List.set_append_right _ _ (by rw [ints_len]; omega), ints_len, List.set_append_left _ _ (by rw [ints_len]; omega)]
  simp only [hc, hf, show 32 + i - 16 - 16 = i from by omega]
  simp [ints, List.map_set]
end
theorem code_sset (W S S' : Value) (cs fs ps : List Int) (m : Bool) : (codeC W S cs fs ps m).setIfInBounds 1 S' = codeC W S' cs fs ps m := by
  simp [codeC, codeL]

theorem run_made {P : Program} (t e : TypeId) (z : Value) (size bytes : Nat) (ht : P.underlying t = some (.slice e)) (hinfo : (P.info? e).map (fun i => (i.zero, i.size, i.bytes)) = some (some z, size, bytes))
    (n : Nat) (hbytes : bytes * n ≤ 281474976710656) (h63 : n ≤ 9223372036854775807) (w : World) :
    (Instr.makeSlice t (.int .i64 (n : Int)) (.int .i64 (n : Int))).run P w = .ok (.slice (some ⟨w.heap.size, 0, none⟩) n n) (w.alloc (.cells (madeCells z.cells (n * size)) e)) := by
  obtain ⟨i, hi, hzz⟩ := Option.map_eq_some_iff.1 hinfo
  simp only [Prod.mk.injEq] at hzz
  obtain ⟨hz, hs, hb⟩ := hzz
  have hb' : (i.bytes : Int) * (n : Int) ≤ 281474976710656 := by
    have h : ((i.bytes * n : Nat) : Int) ≤ 281474976710656 := by rw [hb]; omega
    rwa [Int.natCast_mul] at h
  have hr := run_make (P := P) w t e i z ht hi hz .i64 .i64 n n (by omega) (Int.le_refl _) hb' (by omega)
  simp only [Int.toNat_natCast, hs] at hr
  exact hr
theorem made_fields (n : Nat) : madeCells #[.int .i64 0, .int .i64 0] (n * 2) = (fcells (List.replicate n (0, 0))).toArray := by
  apply Array.ext
  · simp [madeCells, fcells_len]
  · intro i h1 h2
    simp only [madeCells, Array.getElem_map, Array.getElem_range, List.getElem_toArray]
    have hx : ∀ v ∈ fcells (List.replicate n (0, 0)), v = .int .i64 0 := by
      intro v hv
      obtain ⟨r, hr, hv⟩ := List.mem_flatMap.1 hv
      obtain rfl := List.eq_of_mem_replicate hr
      simpa using hv
    rw [hx _ (List.getElem_mem _)]
    rcases Nat.mod_two_eq_zero_or_one i with h | h <;> simp [h]
theorem made_ints (n : Nat) : madeCells #[.int .i64 0] n = (ints (List.replicate n 0)).toArray := by
  apply Array.ext
  · simp [madeCells, ints]
  · intro i h1 h2
    simp only [madeCells, Array.getElem_map, Array.getElem_range, ints, List.getElem_toArray, List.getElem_map, List.getElem_replicate]
    simp [Nat.mod_one]
def tab (f : Nat → Nat) : List Int := (List.range 16).map fun i => (f i : Int)
theorem tab_len (f : Nat → Nat) : (tab f).length = 16 := by simp [tab]
theorem tab_at (f : Nat → Nat) (i : Nat) (h : i < 16) : (tab f)[i]'(by rw [tab_len]; exact h) = (f i : Int) := by simp [tab]
theorem tab_set (f g : Nat → Nat) (i : Nat) (x : Int) (hx : x = (g i : Int)) (hg : ∀ j, j < 16 → j ≠ i → g j = f j) : (tab f).set i x = tab g := by
  apply List.ext_getElem
  · simp [tab]
  · intro j h1 h2
    rw [tab_len] at h2
    rw [List.getElem_set, tab_at g j h2]
    split
    · rename_i he; subst he; exact hx
    · rename_i he; rw [tab_at f j h2, hg j h2 (fun e => he e.symm)]
theorem tab_ext (f g : Nat → Nat) (h : ∀ j, j < 16 → f j = g j) : tab f = tab g := by
  unfold tab
  exact List.map_congr_left fun i hi => by rw [h i (List.mem_range.1 hi)]
def upTo (f : Nat → Nat) (k : Nat) : Nat → Nat := fun i => if i < k then f i else 0

end LenW
end Go.Proofs.Ytedoeplhjmkllaa
