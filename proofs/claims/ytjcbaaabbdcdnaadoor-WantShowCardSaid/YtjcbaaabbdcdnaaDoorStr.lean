/- Plain facts on bytes: strings as lists of bytes, rows of bytes in memory, their copies and conversions. No program is named here. -/
import Derived.Test.YtjcbaaabbdcdnaaDoorReg
namespace Go.Proofs.YtjcbaaabbdcdnaaDoor
set_option linter.unusedVariables false
set_option linter.unusedSimpArgs false
set_option linter.unnecessarySimpa false
open Go.RowKit

abbrev str (l : List UInt8) : Value := .string ⟨l.toArray⟩
def byt (b : UInt8) : Value := .int .u8 (b.toNat : Int)
def byts (l : List UInt8) : List Value := l.map byt
def ints (l : List Int) : List Value := l.map (Value.int .i64)

theorem byts_len (l : List UInt8) : (byts l).length = l.length := by simp [byts]
theorem ints_len (l : List Int) : (ints l).length = l.length := by simp [ints]
theorem byts_one (l : List UInt8) : ∀ u ∈ byts l, u.oneCell' = true := by
  intro u hu
  obtain ⟨b, _, rfl⟩ := List.mem_map.1 hu
  rfl
theorem ints_one (l : List Int) : ∀ u ∈ ints l, u.oneCell' = true := by
  intro u hu
  obtain ⟨b, _, rfl⟩ := List.mem_map.1 hu
  rfl
theorem str_of (s : ByteArray) : ∃ l : List UInt8, s = ⟨l.toArray⟩ ∧ l.length = s.size := ⟨s.data.toList, by simp, by simp⟩

/-- A row of numbers that is read: where it lies, and what its cells hold. -/
theorem rd_ints {w : World} {B : Nat} {A : Option Addr} {n : Nat} {l : List Int} (h : Rd w B 1 A n (ints l)) (hn : 0 < n) :
    ∃ b o, A = some ⟨b, o, none⟩ ∧ b < B ∧ ∀ k (hk : k < l.length), w.cell? ⟨b, o + k, none⟩ = some (.int .i64 l[k]) := by
  obtain ⟨b, o, rfl, hb, hc⟩ := h.at_ hn
  refine ⟨b, o, rfl, hb, fun k hk => ?_⟩
  rw [hc k (by simpa [ints] using hk)]
  simp [ints]
theorem rd_u8s {w : World} {B : Nat} {A : Option Addr} {n : Nat} {l : List UInt8} (h : Rd w B 1 A n (byts l)) (hn : 0 < n) :
    ∃ b o, A = some ⟨b, o, none⟩ ∧ b < B ∧ ∀ k (hk : k < l.length), w.cell? ⟨b, o + k, none⟩ = some (byt l[k]) := by
  obtain ⟨b, o, rfl, hb, hc⟩ := h.at_ hn
  refine ⟨b, o, rfl, hb, fun k hk => ?_⟩
  rw [hc k (by simpa [byts] using hk)]
  simp [byts]
theorem rd_len {w : World} {B : Nat} {A : Option Addr} {n : Nat} {l : List Int} (h : Rd w B 1 A n (ints l)) : l.length = n := by have := h.len; simpa [ints] using this
theorem rd_len8 {w : World} {B : Nat} {A : Option Addr} {n : Nat} {l : List UInt8} (h : Rd w B 1 A n (byts l)) : l.length = n := by have := h.len; simpa [byts] using this

section
variable {P : Program} (w : World)

/-- 'copy' inside one block: the cells cs go to its places from o on. -/
theorem run_copy_op {dT sT ty elem : TypeId} {g o dLen dCap : Nat} {a : Addr} {sLen sCap : Nat} {cur : List Value} {t : TypeId} {cs : List Value} {dst : Option Tmp} {d s : Operand} {ρ : Operand → Value} {pos : String} {after : Array Edge} {guard : Option (Nat × Bool)}
    (hd : ρ d = .slice (some ⟨g, o, none⟩) dLen dCap) (hs : ρ s = .slice (some a) sLen sCap) (hu : P.underlying dT = some (.slice elem)) (hsz : (P.info? elem).map (·.size) = some 1)
    (hg : Blk w g t cur.toArray) (hn : cs.length = Nat.min sLen dLen) (hsrc : ∀ j v, cs[j]? = some v → w.cell? (a.add j) = some v) (hfit : o + cs.length ≤ cur.length) (h1 : ∀ v ∈ cs, v.oneCell' = true) :
    (execOp ρ { dst, op := .call { callee := .builtin .copy, args := #[d, s], argTypes := #[dT, sT] }, type := ty, pos, after, guard }).run P w =
      .ok (.value (goInt cs.length)) (w.setRow g (cur.take o ++ cs ++ cur.drop (o + cs.length)).toArray) := by
  have hr := run_copy_row (P := P) w dT sT ty elem g o dLen dCap a sLen sCap cur.toArray t cs hu hsz hg hn hsrc (by simpa using hfit) h1
  simp only [List.toList_toArray] at hr
  rw [BigFrame.execOp_builtin, BigFrame.builtin_copy]
  simp only [List.map_toArray, List.map_cons, List.map_nil, hd, hs, Sem.run_bind, hr, Result.andThen_ok, Sem.run_pure]

theorem Blk.setRow {w : World} {g : Nat} {t : TypeId} {cs : Array Value} (h : Blk w g t cs) (cs' : Array Value) : Blk (w.setRow g cs') g t cs' := setRow_heap w g cs cs' t (0, 0) h
theorem Blk.setRow_far {w : World} {g k : Nat} {t : TypeId} {cs : Array Value} (h : Blk w g t cs) (hk : g ≠ k) (cs' : Array Value) : Blk (w.setRow k cs') g t cs := (setRow_other w k g cs' hk).trans h
theorem grown_setRow (w : World) (g : Nat) (cs : Array Value) : w.grownBy (w.setRow g cs) (some g) := ⟨rfl, rfl, rfl, by simp [World.setRow], fun k _ hne => setRow_other w g k cs (fun e => hne (by rw [e]))⟩

/-- 'string(b)' of a row of bytes. -/
theorem run_bytes_str {t e dst : TypeId} (hu : P.underlying t = some (.slice e)) (he : P.underlying e = some (.int .u8)) (hd : P.underlying dst = some .string) {B : Nat} {A : Option Addr} {n c : Nat} {l : List UInt8}
    (h : Rd w B 1 A n (byts l)) : (convert t dst (.slice A n c)).run P w = .ok (str l) w := by
  have hl := rd_len8 h
  by_cases hn : 0 < n
  · obtain ⟨b, o, rfl, _, hc⟩ := rd_u8s h hn
    rw [run_convert_bytes_arg w t e hu he b o n c (l.map fun b => (b.toNat : Int)) (by simpa using hl) (fun i hi => by
      rw [hc i (by omega)]
      simp [byt, List.getD, List.getElem?_eq_getElem (show i < l.length by omega)]) dst hd]
    congr 2
    simp [strOfNums, Function.comp_def]
  · obtain rfl : n = 0 := by omega
    obtain rfl : l = [] := List.eq_nil_of_length_eq_zero hl
    cases A with
    | none => rw [run_convert_bytes_nil w t e hu he 0 c dst hd]; rfl
    | some a =>
      rw [run_convert_bytes_string w t dst e _ 0 c hu he hd, run_bytesToString w a 0 c [] (by simp [loadCells, loadCellsFrom])]
      rfl
end
end Go.Proofs.YtjcbaaabbdcdnaaDoor
