/- Package sieve: the values of a sentence's parts, and where their rows lie. -/
import Derived.Test.YtdeiehgghhiijaaDoorSieB
namespace Go.Proofs.YtdeiehgghhiijaaDoor
set_option linter.unusedVariables false
set_option linter.unusedSimpArgs false
set_option linter.unnecessarySimpa false
open Go.RowKit
namespace SieW

mutual
/-- The value of a part; its rows lie in blocks that S lets in. -/
def NdV (w : World) (S : Nat → Prop) : Nd → Value → Prop
  | .within k lo hi, v => k ≤ 2 ∧ v = .iface 86 (.agg #[str (kwS k), .int .i64 lo, .int .i64 hi])
  | .has s, v => v = .iface 88 (.agg #[str s])
  | .all, v => v = .iface 99 (.agg #[])
  | .not n, v => ∃ u, v = .iface 79 (.agg #[u]) ∧ NdV w S n u
  | .row o l, v => ∃ b n c vs, v = .iface 91 (.agg #[str (byW o), .slice (some ⟨b, 0, none⟩) n c]) ∧ S b ∧ b < w.heap.size ∧ vs.length = n ∧ n ≤ c ∧ n ≤ 1000 ∧ (∀ i (h : i < vs.length), w.cell? ⟨b, i, none⟩ = some vs[i]) ∧ NdVs w S l vs
def NdVs (w : World) (S : Nat → Prop) : List Nd → List Value → Prop
  | [], vs => vs = []
  | a :: l, vs => ∃ v r, vs = v :: r ∧ NdV w S a v ∧ NdVs w S l r
end
theorem cell_same {w w' : World} {b : Nat} (h : w'.heap[b]? = w.heap[b]?) (i : Nat) : w'.cell? ⟨b, i, none⟩ = w.cell? ⟨b, i, none⟩ := by
  simp [World.cell?, h]
theorem NdV.lt_of {w w' : World} {b : Nat} (hb : b < w.heap.size) (h : w'.heap[b]? = w.heap[b]?) : b < w'.heap.size := by
  rcases Nat.lt_or_ge b w'.heap.size with c | c
  · exact c
  · rw [Array.getElem?_eq_none c, Array.getElem?_eq_getElem hb] at h; cases h
mutual
theorem NdV.keep {w w' : World} {S S' : Nat → Prop} (hk : ∀ b, S b → b < w.heap.size → w'.heap[b]? = w.heap[b]? ∧ S' b) : ∀ (n : Nd) (v : Value), NdV w S n v → NdV w' S' n v
  | .within _ _ _, v, h => h
  | .has _, v, h => h
  | .all, v, h => h
  | .not n, v, h => by
    obtain ⟨u, a, b⟩ := h
    exact ⟨u, a, NdV.keep hk n u b⟩
  | .row o l, v, h => by
    obtain ⟨b, n, c, vs, h1, h2, h3, h4, h5, h6, h7, h8⟩ := h
    obtain ⟨k1, k2⟩ := hk b h2 h3
    exact ⟨b, n, c, vs, h1, k2, NdV.lt_of h3 k1, h4, h5, h6, fun i hi => (cell_same k1 i).trans (h7 i hi), NdVs.keep hk l vs h8⟩
theorem NdVs.keep {w w' : World} {S S' : Nat → Prop} (hk : ∀ b, S b → b < w.heap.size → w'.heap[b]? = w.heap[b]? ∧ S' b) : ∀ (l : List Nd) (vs : List Value), NdVs w S l vs → NdVs w' S' l vs
  | [], vs, h => h
  | a :: l, vs, h => by
    obtain ⟨v, r, h1, h2, h3⟩ := h
    exact ⟨v, r, h1, NdV.keep hk a v h2, NdVs.keep hk l r h3⟩
end
theorem NdVs.len {w : World} {S : Nat → Prop} : ∀ {l : List Nd} {vs : List Value}, NdVs w S l vs → vs.length = l.length
  | [], vs, h => by have e : vs = [] := h; subst e; rfl
  | a :: l, vs, h => by
    obtain ⟨v, r, rfl, _, h3⟩ := h
    simp [h3.len]
theorem NdVs.app {w : World} {S : Nat → Prop} : ∀ {l m : List Nd} {vs us : List Value}, NdVs w S l vs → NdVs w S m us → NdVs w S (l ++ m) (vs ++ us)
  | [], m, vs, us, h, h2 => by have e : vs = [] := h; subst e; exact h2
  | a :: l, m, vs, us, h, h2 => by
    obtain ⟨v, r, rfl, h3, h4⟩ := h
    exact ⟨v, r ++ us, rfl, h3, h4.app h2⟩
theorem NdVs.at_ {w : World} {S : Nat → Prop} : ∀ {l : List Nd} {vs : List Value}, NdVs w S l vs → ∀ i (h1 : i < l.length) (h2 : i < vs.length), NdV w S l[i] vs[i]
  | [], vs, h, i, h1, h2 => by simp at h1
  | a :: l, vs, h, i, h1, h2 => by
    obtain ⟨v, r, rfl, h3, h4⟩ := h
    cases i with
    | zero => exact h3
    | succ i => exact h4.at_ i (by simp at h1; omega) (by simp at h2; omega)
theorem NdV.one {w : World} {S : Nat → Prop} {n : Nd} {v : Value} (h : NdV w S n v) : v.oneCell' = true := by
  cases n with
  | within _ _ _ => obtain ⟨_, rfl⟩ := h; rfl
  | has _ => have e : v = _ := h; subst e; rfl
  | all => have e : v = _ := h; subst e; rfl
  | not n => obtain ⟨u, rfl, _⟩ := h; rfl
  | row o l => obtain ⟨b, n, c, vs, rfl, _⟩ := h; rfl
theorem NdVs.one {w : World} {S : Nat → Prop} : ∀ {l : List Nd} {vs : List Value}, NdVs w S l vs → ∀ u ∈ vs, u.oneCell' = true
  | [], vs, h, u, hu => by have e : vs = [] := h; subst e; cases hu
  | a :: l, vs, h, u, hu => by
    obtain ⟨v, r, rfl, h3, h4⟩ := h
    rcases List.mem_cons.1 hu with rfl | hu
    · exact h3.one
    · exact h4.one u hu
theorem NdV.iface {w : World} {S : Nat → Prop} {n : Nd} {v : Value} (h : NdV w S n v) : ∃ t x, v = .iface t x := by
  cases n with
  | within _ _ _ => obtain ⟨_, rfl⟩ := h; exact ⟨_, _, rfl⟩
  | has _ => have e : v = _ := h; subst e; exact ⟨_, _, rfl⟩
  | all => have e : v = _ := h; subst e; exact ⟨_, _, rfl⟩
  | not n => obtain ⟨u, rfl, _⟩ := h; exact ⟨_, _, rfl⟩
  | row o l => obtain ⟨b, n, c, vs, rfl, _⟩ := h; exact ⟨_, _, rfl⟩
/-- What a reading leaves: the part, of memory of its own, or a fault; nothing but the reader has turned. -/
def PPost (g : Nat) (en : Int) (R : PR) (w : World) (e : Ending) (w' : World) : Prop :=
  match R with
  | .ok n l sz dp => ∃ v, e = .returned v ∧ NdV w' (fun b => w.heap.size ≤ b) n v ∧ At w' g en l sz dp ∧ w.grownBy w' (some g)
  | .err er a => e = .panicked (flt er a) ∧ w.grownBy w' (some g)
  | .out => False
end SieW
end Go.Proofs.YtdeiehgghhiijaaDoor
