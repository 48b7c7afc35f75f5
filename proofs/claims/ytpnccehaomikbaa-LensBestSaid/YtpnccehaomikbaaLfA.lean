/- The walks of the reference of package lens: a thing is put into a row. -/
import Derived.Test.YtpnccehaomikbaaLenZ
namespace Go.Proofs.Ytpnccehaomikbaa
set_option linter.unusedVariables false
set_option linter.unusedSimpArgs false
set_option linter.unnecessarySimpa false
open Go.RowKit
namespace LenW

/-- A thing that carries its symbols, and where they lie. -/
structure TT where
  w : Int
  A : Option Addr
  n : Nat
  c : Nat
  l : Bool
  s : List Int
def TT.val (t : TT) : Value := .agg #[.int .i64 t.w, .slice t.A t.n t.c, .bool t.l]
def tcells (ts : List TT) : List Value := ts.flatMap fun t => [.int .i64 t.w, .slice t.A t.n t.c, .bool t.l]
theorem tcells_cons (t : TT) (ts : List TT) : tcells (t :: ts) = .int .i64 t.w :: .slice t.A t.n t.c :: .bool t.l :: tcells ts := rfl
theorem tcells_app (a b : List TT) : tcells (a ++ b) = tcells a ++ tcells b := by simp [tcells]
theorem tcells_len (ts : List TT) : (tcells ts).length = ts.length * 3 := by
  induction ts with
  | nil => rfl
  | cons t ts ih => rw [tcells_cons]; simp only [List.length_cons, ih]; omega
theorem tcells_get (ts : List TT) (k : Nat) (h : k < ts.length) : (tcells ts)[k * 3]? = some (.int .i64 ts[k].w) ∧ (tcells ts)[k * 3 + 1]? = some (.slice ts[k].A ts[k].n ts[k].c) ∧ (tcells ts)[k * 3 + 2]? = some (.bool ts[k].l) := by
  induction ts generalizing k with
  | nil => simp at h
  | cons t ts ih =>
    cases k with
    | zero => simp [tcells_cons]
    | succ k =>
      simp only [List.length_cons] at h
      obtain ⟨h1, h2, h3⟩ := ih k (by omega)
      rw [tcells_cons, show (k + 1) * 3 = k * 3 + 1 + 1 + 1 by omega]
      exact ⟨h1, h2, h3⟩
theorem tcells_one (ts : List TT) : ∀ u ∈ tcells ts, u.oneCell' = true := by
  intro u hu
  obtain ⟨r, _, hr⟩ := List.mem_flatMap.1 hu
  simp at hr
  rcases hr with rfl | rfl | rfl <;> rfl
theorem tcells_take (ts : List TT) (k : Nat) : (tcells ts).take (k * 3) = tcells (ts.take k) := by
  induction ts generalizing k with
  | nil => simp [tcells]
  | cons t ts ih =>
    cases k with
    | zero => simp [tcells]
    | succ k => rw [tcells_cons, show (k + 1) * 3 = k * 3 + 1 + 1 + 1 by omega, List.take_succ_cons, List.take_succ_cons, List.take_succ_cons, ih, List.take_succ_cons, tcells_cons]
theorem tcells_drop (ts : List TT) (k : Nat) : (tcells ts).drop (k * 3) = tcells (ts.drop k) := by
  induction ts generalizing k with
  | nil => simp [tcells]
  | cons t ts ih =>
    cases k with
    | zero => simp [tcells]
    | succ k => rw [tcells_cons, show (k + 1) * 3 = k * 3 + 1 + 1 + 1 by omega, List.drop_succ_cons, List.drop_succ_cons, List.drop_succ_cons, ih, List.drop_succ_cons]
theorem rd_tlen {w : World} {B : Nat} {A : Option Addr} {n : Nat} {ts : List TT} (h : Rd w B 3 A n (tcells ts)) : ts.length = n := by have := h.len; rw [tcells_len] at this; omega
theorem rd_tcells {w : World} {B : Nat} {A : Option Addr} {n : Nat} {ts : List TT} (h : Rd w B 3 A n (tcells ts)) (hn : 0 < n) :
    ∃ b o, A = some ⟨b, o, none⟩ ∧ b < B ∧ ∀ k (hk : k < ts.length), w.cell? ⟨b, o + k * 3, none⟩ = some (.int .i64 ts[k].w) ∧ w.cell? ⟨b, o + k * 3 + 1, none⟩ = some (.slice ts[k].A ts[k].n ts[k].c) ∧ w.cell? ⟨b, o + k * 3 + 2, none⟩ = some (.bool ts[k].l) := by
  obtain ⟨b, o, rfl, hb, hc⟩ := h.at_ hn
  refine ⟨b, o, rfl, hb, fun k hk => ?_⟩
  obtain ⟨h1, h2, h3⟩ := tcells_get ts k hk
  have hl := tcells_len ts
  have g : ∀ j v, (tcells ts)[j]? = some v → w.cell? ⟨b, o + j, none⟩ = some v := fun j v hj => by
    obtain ⟨q1, q2⟩ := List.getElem?_eq_some_iff.1 hj
    rw [hc j q1, q2]
  exact ⟨g _ _ h1, g _ _ h2, g _ _ h3⟩
/-- It stays ahead. -/
def goesT (y x : TT) : Bool := decide (y.w < x.w) || (decide (y.w = x.w) && (y.l || !x.l))
def putT (x : TT) : List TT → List TT
  | [] => [x]
  | y :: r => if goesT y x then y :: putT x r else x :: y :: r
theorem putT_len (x : TT) (l : List TT) : (putT x l).length = l.length + 1 := by
  induction l with
  | nil => rfl
  | cons y r ih => unfold putT; split <;> simp [ih]
theorem putT_split (x : TT) (l : List TT) : ∀ k, (∀ i (h : i < l.length), i < k → goesT l[i] x = true) → k ≤ l.length → (∀ h : k < l.length, goesT l[k] x = false) → putT x l = l.take k ++ x :: l.drop k := by
  induction l with
  | nil => intro k _ hk _; obtain rfl : k = 0 := by simpa using hk
           rfl
  | cons y r ih =>
    intro k h1 hk h2
    cases k with
    | zero =>
      have := h2 (by simp)
      simp only [List.getElem_cons_zero] at this
      unfold putT
      rw [this]
      rfl
    | succ k =>
      have := h1 0 (by simp) (by omega)
      simp only [List.getElem_cons_zero] at this
      unfold putT
      rw [if_pos this, ih k (fun i h hi => by have := h1 (i + 1) (by simp; omega) (by omega); simpa using this) (by simpa using hk) (fun h => by have := h2 (by simp; omega); simpa using this)]
      rfl
theorem El_t : El Try.prog 44 48 3 40 := El.mk' Try.underlying44 (z := .agg #[.int .i64 0, .slice none 0 0, .bool false]) (by kernel_rfl) rfl (by decide)
end LenW
end Go.Proofs.Ytpnccehaomikbaa
