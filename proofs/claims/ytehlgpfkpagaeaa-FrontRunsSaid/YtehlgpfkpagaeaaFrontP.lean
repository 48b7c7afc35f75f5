/- Plain facts on a row in which each byte goes to the front. No program is named here. -/
import Derived.Test.YtehlgpfkpagaeaaStr
namespace Go.Proofs.Ytehlgpfkpagaeaa
set_option linter.unusedVariables false
set_option linter.unusedSimpArgs false
set_option linter.unnecessarySimpa false
open Go.RowKit
namespace FrontW

def mtf (r : List UInt8) (i : Nat) : List UInt8 := r.getD i 0 :: (r.take i ++ r.drop (i + 1))
def initK (k : Nat) : List UInt8 := (List.range 256).map fun j => if j < k then UInt8.ofNat j else 0
def init : List UInt8 := (List.range 256).map UInt8.ofNat
def rowC (r : List UInt8) : Array Value := (byts r).toArray

theorem initK_len (k : Nat) : (initK k).length = 256 := by simp [initK]
theorem init_len : init.length = 256 := by simp [init]
theorem initK_last : initK 256 = init := by
  unfold initK init
  refine List.map_congr_left fun j hj => ?_
  rw [if_pos (by simpa using hj)]
theorem initK_zero : initK 0 = List.replicate 256 0 := by
  refine List.ext_getElem (by rw [initK_len, List.length_replicate]) fun i h1 h2 => ?_
  rw [List.getElem_replicate]
  simp only [initK, List.getElem_map, List.getElem_range, Nat.not_lt_zero, if_false]
theorem initK_set (k : Nat) (hk : k < 256) : (initK k).set k (UInt8.ofNat k) = initK (k + 1) := by
  refine List.ext_getElem (by simp [initK]) fun i h1 h2 => ?_
  simp only [initK, List.getElem_set, List.getElem_map, List.getElem_range]
  by_cases h : k = i
  · subst h; simp
  · rw [if_neg h]
    by_cases h' : i < k
    · rw [if_pos h', if_pos (by omega)]
    · rw [if_neg h', if_neg (by omega)]

theorem mtf_len (r : List UInt8) (i : Nat) (hi : i < r.length) : (mtf r i).length = r.length := by
  simp [mtf]; omega
theorem mtf_perm (r : List UInt8) (i : Nat) (hi : i < r.length) : (mtf r i).Perm r := by
  have h1 : r = r.take i ++ r.getD i 0 :: r.drop (i + 1) := by
    have h2 := List.take_append_drop i r
    rw [List.drop_eq_getElem_cons hi] at h2
    simpa [List.getD, List.getElem?_eq_getElem hi] using h2.symm
  unfold mtf
  conv => rhs; rw [h1]
  exact (List.perm_middle).symm

/-- A row that has every byte, each once. -/
def Full (r : List UInt8) : Prop := r.Perm init
theorem full_init : Full init := List.Perm.refl _
theorem Full.len {r : List UInt8} (h : Full r) : r.length = 256 := by rw [List.Perm.length_eq h]; exact init_len
theorem Full.mem {r : List UInt8} (h : Full r) (b : UInt8) : b ∈ r := by
  refine (List.Perm.mem_iff h).2 ?_
  unfold init
  exact List.mem_map.2 ⟨b.toNat, List.mem_range.2 b.toNat_lt, by simp⟩
theorem init_nodup : init.Nodup := by
  unfold init
  refine List.Pairwise.map _ ?_ (List.nodup_range (n := 256) |>.imp_of_mem (S := fun a b => a < 256 ∧ b < 256 ∧ a ≠ b) ?_)
  · rintro a b ⟨ha, hb, hne⟩ h
    apply hne
    have := congrArg UInt8.toNat h
    simp at this
    omega
  · intro a b ha hb hne
    exact ⟨by simpa using ha, by simpa using hb, hne⟩
theorem Full.nodup {r : List UInt8} (h : Full r) : r.Nodup := (List.Perm.nodup_iff h).2 init_nodup
theorem Full.mtf {r : List UInt8} (h : Full r) {i : Nat} (hi : i < 256) : Full (mtf r i) := (mtf_perm r i (by rw [h.len]; exact hi)).trans h
theorem Full.idx {r : List UInt8} (h : Full r) (b : UInt8) : r.idxOf b < 256 := by
  have := List.idxOf_lt_length_of_mem (h.mem b)
  rwa [h.len] at this

/-- The row, and the ranks told so far. -/
def stepR (x : List UInt8 × List Int) (b : UInt8) : List UInt8 × List Int := (mtf x.1 (x.1.idxOf b), x.2 ++ [(x.1.idxOf b : Int)])
def runR (s : List UInt8) : List UInt8 × List Int := s.foldl stepR (init, [])
theorem runR_snoc (s : List UInt8) (k : Nat) (hk : k < s.length) : runR (s.take (k + 1)) = stepR (runR (s.take k)) s[k] := by
  rw [runR, List.take_succ_eq_append_getElem hk, List.foldl_append]; rfl
theorem runR_full (s : List UInt8) : Full (runR s).1 := by
  unfold runR
  suffices h : ∀ (x : List UInt8 × List Int), Full x.1 → Full (s.foldl stepR x).1 from h _ full_init
  induction s with
  | nil => exact fun x h => h
  | cons b s ih => exact fun x h => ih _ (h.mtf (h.idx b))
theorem runR_len (s : List UInt8) : (runR s).2.length = s.length := by
  unfold runR
  suffices h : ∀ (x : List UInt8 × List Int), (s.foldl stepR x).2.length = x.2.length + s.length by simpa using h (init, [])
  induction s with
  | nil => simp
  | cons b s ih => intro x; rw [List.foldl_cons, ih]; simp [stepR]; omega

/-- The row, and the bytes told so far; none: a rank that may not be came. -/
def stepT (x : List UInt8 × List UInt8) (n : Int) : List UInt8 × List UInt8 := (mtf x.1 n.toNat, x.2 ++ [x.1.getD n.toNat 0])
def runT (l : List Int) : List UInt8 × List UInt8 := l.foldl stepT (init, [])
def okT (l : List Int) : Prop := ∀ n ∈ l, 0 ≤ n ∧ n ≤ 255
theorem runT_snoc (l : List Int) (k : Nat) (hk : k < l.length) : runT (l.take (k + 1)) = stepT (runT (l.take k)) l[k] := by
  rw [runT, List.take_succ_eq_append_getElem hk, List.foldl_append]; rfl
theorem runT_full (l : List Int) (h : okT l) : Full (runT l).1 := by
  unfold runT
  suffices g : ∀ (x : List UInt8 × List UInt8), Full x.1 → okT l → Full (l.foldl stepT x).1 from g _ full_init h
  clear h
  induction l with
  | nil => exact fun x h _ => h
  | cons n l ih => exact fun x h ho => ih _ (h.mtf (by have := ho n (by simp); omega)) (fun m hm => ho m (by simp [hm]))
theorem runT_len (l : List Int) : (runT l).2.length = l.length := by
  unfold runT
  suffices h : ∀ (x : List UInt8 × List UInt8), (l.foldl stepT x).2.length = x.2.length + l.length by simpa using h (init, [])
  induction l with
  | nil => simp
  | cons b s ih => intro x; rw [List.foldl_cons, ih]; simp [stepT]; omega
end FrontW
end Go.Proofs.Ytehlgpfkpagaeaa
