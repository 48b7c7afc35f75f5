/- Plain facts on numbers as bytes and on records. No program is named here. -/
import Derived.Test.YtdeiehgghhiijaaDoorMem
namespace Go.Proofs.YtdeiehgghhiijaaDoor
set_option linter.unusedVariables false
set_option linter.unusedSimpArgs false
set_option linter.unnecessarySimpa false
open Go.RowKit

/-- A number's bytes: seven bits each, the least first. -/
def vput : Nat → Nat → List UInt8
  | 0, _ => []
  | f + 1, n => if n < 128 then [UInt8.ofNat n] else UInt8.ofNat (128 + n % 128) :: vput f (n / 128)
def vbytes (n : Nat) : List UInt8 := vput 9 n
def vl : Nat → Nat → Nat
  | 0, _ => 0
  | f + 1, n => if n < 128 then 1 else 1 + vl f (n / 128)
def vlen (n : Nat) : Nat := vl 9 n
theorem vput_len (f n : Nat) : (vput f n).length = vl f n := by
  induction f generalizing n with
  | zero => rfl
  | succ f ih => unfold vput vl; split <;> simp [ih]; omega
theorem vbytes_len (n : Nat) : (vbytes n).length = vlen n := vput_len 9 n
theorem vl_le (f n : Nat) : vl f n ≤ f := by
  induction f generalizing n with
  | zero => exact Nat.le_refl _
  | succ f ih => unfold vl; have := ih (n / 128); split <;> omega
theorem vl_pos (f n : Nat) : 1 ≤ vl (f + 1) n := by unfold vl; split <;> omega
theorem vlen_le (n : Nat) : vlen n ≤ 9 := vl_le 9 n
theorem vlen_pos (n : Nat) : 1 ≤ vlen n := vl_pos 8 n
theorem vput_ne (f n : Nat) : vput (f + 1) n ≠ [] := by unfold vput; split <;> simp

theorem vl_bound (f n : Nat) (h : n < 128 ^ f) (g : Nat) (hg : f ≤ g) (hf : 0 < f) : vl g n = vl f n := by
  induction f generalizing n g with
  | zero => omega
  | succ f ih =>
    obtain ⟨g, rfl⟩ : ∃ g', g = g' + 1 := ⟨g - 1, by omega⟩
    unfold vl
    split
    · rfl
    · rename_i hn
      have h2 : n / 128 < 128 ^ f := by rw [Nat.div_lt_iff_lt_mul (by omega)]; rw [Nat.pow_succ] at h; exact h
      have : 0 < f := by
        rcases Nat.eq_zero_or_pos f with rfl | h'
        · simp at h; omega
        · exact h'
      rw [ih _ h2 g (by omega) this]
theorem vput_bound (f n : Nat) (h : n < 128 ^ f) (g : Nat) (hg : f ≤ g) (hf : 0 < f) : vput g n = vput f n := by
  induction f generalizing n g with
  | zero => omega
  | succ f ih =>
    obtain ⟨g, rfl⟩ : ∃ g', g = g' + 1 := ⟨g - 1, by omega⟩
    unfold vput
    split
    · rfl
    · rename_i hn
      have h2 : n / 128 < 128 ^ f := by rw [Nat.div_lt_iff_lt_mul (by omega)]; rw [Nat.pow_succ] at h; exact h
      have : 0 < f := by
        rcases Nat.eq_zero_or_pos f with rfl | h'
        · simp at h; omega
        · exact h'
      rw [ih _ h2 g (by omega) this]

theorem ba_cat (a b : Array UInt8) : ((⟨a⟩ : ByteArray) ++ ⟨b⟩) = ⟨a ++ b⟩ := by
  apply ByteArray.ext
  simp
theorem str_cat (l m : List UInt8) : ((⟨l.toArray⟩ : ByteArray) ++ ⟨m.toArray⟩) = ⟨(l ++ m).toArray⟩ := by rw [ba_cat]; simp
/-- 'string([]byte{x})'. -/
theorem run_one_str {P : Program} {t e dst : TypeId} (hu : P.underlying t = some (.slice e)) (he : P.underlying e = some (.int .u8)) (hd : P.underlying dst = some .string) (w : World) (x : Int) (h0 : 0 ≤ x) (h1 : x < 256) :
    (convert t dst (.slice (some ⟨w.heap.size, 0, none⟩) 1 1)).run P (w.alloc (.cells #[.int .u8 x] e)) = .ok (str [UInt8.ofNat x.toNat]) (w.alloc (.cells #[.int .u8 x] e)) := by
  refine run_bytes_str (B := w.heap.size + 1) (w := w.alloc (.cells #[.int .u8 x] e)) hu he hd (l := [UInt8.ofNat x.toNat]) ?_
  have h := Rd.of_blk (t := e) (cs := [Value.int .u8 x]) (m := 1) (size := 1) (Blk.new w _ _) rfl
  have e1 : byts [UInt8.ofNat x.toNat] = [Value.int .u8 x] := by
    simp only [byts, List.map_cons, List.map_nil, byt, UInt8.toNat_ofNat']
    congr 2
    omega
  rw [e1]
  exact h

/-- A record: its number, its time, its data. -/
abbrev Rc := Int × Int × List UInt8
abbrev recv (r : Rc) : Value := .agg #[.int .i64 r.1, .int .i64 r.2.1, str r.2.2]
def rcell (r : Rc) : List Value := [.int .i64 r.1, .int .i64 r.2.1, str r.2.2]
def rcells (l : List Rc) : List Value := l.flatMap rcell
theorem rcells_len (l : List Rc) : (rcells l).length = l.length * 3 := by
  induction l with
  | nil => rfl
  | cons x l ih => simp only [rcells, rcell, List.flatMap_cons, List.length_append, List.length_cons, List.length_nil] at *; omega
theorem rcells_cons (p : Rc) (l : List Rc) : rcells (p :: l) = .int .i64 p.1 :: .int .i64 p.2.1 :: str p.2.2 :: rcells l := rfl
theorem rcells_append (l m : List Rc) : rcells (l ++ m) = rcells l ++ rcells m := by simp [rcells]
theorem rcells_one (l : List Rc) : ∀ u ∈ rcells l, u.oneCell' = true := by
  intro u hu
  obtain ⟨r, _, h⟩ := List.mem_flatMap.1 hu
  simp only [rcell, List.mem_cons, List.not_mem_nil, or_false] at h
  rcases h with rfl | rfl | rfl <;> rfl
theorem rcells_get (l : List Rc) (k : Nat) (h : k < l.length) :
    (rcells l)[k * 3]? = some (.int .i64 l[k].1) ∧ (rcells l)[k * 3 + 1]? = some (.int .i64 l[k].2.1) ∧ (rcells l)[k * 3 + 2]? = some (str l[k].2.2) := by
  induction l generalizing k with
  | nil => simp at h
  | cons p l ih =>
    rw [rcells_cons]
    cases k with
    | zero => simp
    | succ k =>
      have := ih k (by simpa using h)
      simpa [Nat.add_mul] using this
theorem rd_recs {w : World} {B : Nat} {A : Option Addr} {n : Nat} {l : List Rc} (h : Rd w B 3 A n (rcells l)) (hn : 0 < n) :
    ∃ b o, A = some ⟨b, o, none⟩ ∧ b < B ∧ ∀ k (hk : k < l.length), w.cell? ⟨b, o + k * 3, none⟩ = some (.int .i64 l[k].1) ∧ w.cell? ⟨b, o + k * 3 + 1, none⟩ = some (.int .i64 l[k].2.1) ∧ w.cell? ⟨b, o + k * 3 + 2, none⟩ = some (str l[k].2.2) := by
  obtain ⟨b, o, rfl, hb, hc⟩ := h.at_ hn
  refine ⟨b, o, rfl, hb, fun k hk => ?_⟩
  have hlen := rcells_len l
  obtain ⟨e0, e1, e2⟩ := rcells_get l k hk
  refine ⟨?_, ?_, ?_⟩
  · rw [hc (k * 3) (by omega)]; rw [List.getElem?_eq_getElem (by omega)] at e0; exact e0
  · rw [Nat.add_assoc, hc (k * 3 + 1) (by omega)]; rw [List.getElem?_eq_getElem (by omega)] at e1; exact e1
  · rw [Nat.add_assoc, hc (k * 3 + 2) (by omega)]; rw [List.getElem?_eq_getElem (by omega)] at e2; exact e2
theorem rd_rlen {w : World} {B : Nat} {A : Option Addr} {n : Nat} {l : List Rc} (h : Rd w B 3 A n (rcells l)) : l.length = n := by have := h.len; rw [rcells_len] at this; omega

def okR (r : Rc) : Bool := decide (1 ≤ r.1) && decide (r.1 ≤ 1000000000) && decide (0 ≤ r.2.1) && decide (r.2.1 ≤ 1000000000) && decide (r.2.2.length ≤ 2000)
def chkR (r : Rc) : Int := if okR r then 0 else 150
theorem okR_iff (r : Rc) : okR r = true ↔ 1 ≤ r.1 ∧ r.1 ≤ 1000000000 ∧ 0 ≤ r.2.1 ∧ r.2.1 ≤ 1000000000 ∧ r.2.2.length ≤ 2000 := by simp [okR, and_assoc]
theorem chkR_yes {r : Rc} (h : okR r = true) : chkR r = 0 := by simp [chkR, h]
theorem chkR_no {r : Rc} (h : okR r = false) : chkR r = 150 := by simp [chkR, h]
def putR (r : Rc) : List UInt8 := vbytes r.1.toNat ++ (vbytes r.2.1.toNat ++ (vbytes r.2.2.length ++ r.2.2))
def sizeN (r : Rc) : Nat := if okR r then (putR r).length else 0
theorem sizeN_yes {r : Rc} (h : okR r = true) : sizeN r = vlen r.1.toNat + vlen r.2.1.toNat + vlen r.2.2.length + r.2.2.length := by
  simp [sizeN, h, putR, vbytes_len]; omega
theorem sizeN_no {r : Rc} (h : okR r = false) : sizeN r = 0 := by simp [sizeN, h]
theorem sizeN_le (r : Rc) : sizeN r ≤ 2027 := by
  by_cases h : okR r = true
  · rw [sizeN_yes h]
    have := (okR_iff r).1 h
    have := vlen_le r.1.toNat
    have := vlen_le r.2.1.toNat
    have := vlen_le r.2.2.length
    omega
  · rw [sizeN_no (by simpa using h)]; omega

/-- Whether r goes on behind p. -/
def nextB (p r : Rc) : Bool := decide (r.1 = p.1 + 1) && decide (p.2.1 ≤ r.2.1)
/-- What a row's look tells: behind record p (if there is one). -/
def rowFrom : Option Rc → List Rc → Int
  | _, [] => 0
  | p, r :: l => if okR r then (match p with | none => rowFrom (some r) l | some q => if nextB q r then rowFrom (some r) l else 151) else 150
def rowN (l : List Rc) : Int := rowFrom none l
theorem rowFrom_val (p : Option Rc) (l : List Rc) : rowFrom p l = 0 ∨ rowFrom p l = 150 ∨ rowFrom p l = 151 := by
  induction l generalizing p with
  | nil => exact .inl rfl
  | cons r l ih =>
    unfold rowFrom
    split
    · cases p with
      | none => exact ih _
      | some q => dsimp only; split <;> first | exact ih _ | exact .inr (.inr rfl)
    · exact .inr (.inl rfl)
theorem rowN_val (l : List Rc) : rowN l = 0 ∨ rowN l = 150 ∨ rowN l = 151 := rowFrom_val _ _
theorem rowFrom_ok {p : Option Rc} {l : List Rc} (h : rowFrom p l = 0) : ∀ r ∈ l, okR r = true := by
  induction l generalizing p with
  | nil => intro r hr; cases hr
  | cons x l ih =>
    unfold rowFrom at h
    split at h
    · rename_i hx
      intro r hr
      rcases List.mem_cons.1 hr with rfl | hr
      · exact hx
      · cases p with
        | none => exact ih h r hr
        | some q => dsimp only at h; split at h
                    · exact ih h r hr
                    · cases h
    · cases h
/-- The bytes of records, as many as count. -/
def rawN : List Rc → Nat := fun l => min ((l.map sizeN).sum) 1000000
theorem rawN_le (l : List Rc) : rawN l ≤ 1000000 := Nat.min_le_right _ _
theorem take_same {α : Type} (l m : List α) (k : Nat) (h1 : k < l.length) (h2 : k < m.length) (h : l.take k = m.take k) (he : l[k] = m[k]) : l.take (k + 1) = m.take (k + 1) := by
  rw [List.take_succ_eq_append_getElem h1, List.take_succ_eq_append_getElem h2, h, he]
theorem sum_take (l : List Nat) (k : Nat) : (l.take k).sum ≤ l.sum := by
  have h := congrArg List.sum (List.take_append_drop k l)
  rw [List.sum_append] at h
  omega
theorem rawN_top (l : List Rc) (k : Nat) (h : rawN (l.take k) = 1000000) : rawN l = 1000000 := by
  unfold rawN at *
  rw [List.map_take] at h
  have := sum_take (l.map sizeN) k
  omega
theorem rawN_snoc (l : List Rc) (k : Nat) (h : k < l.length) : rawN (l.take (k + 1)) = min (rawN (l.take k) + sizeN l[k]) 1000000 := by
  unfold rawN
  rw [List.take_succ_eq_append_getElem h, List.map_append, List.sum_append]
  simp only [List.map_cons, List.map_nil, List.sum_cons, List.sum_nil]
  omega
end Go.Proofs.YtdeiehgghhiijaaDoor
