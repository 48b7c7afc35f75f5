/- Package want, plainly: the words of a query. -/
import Derived.Test.YtjcbaaabbdcdnaaDoorWanL
import Derived.Test.YtjcbaaabbdcdnaaDoorQyW
namespace Go.Proofs.YtjcbaaabbdcdnaaDoor
set_option linter.unusedVariables false
set_option linter.unusedSimpArgs false
set_option linter.unnecessarySimpa false
open Go.RowKit
namespace WanW
open SkpW (Qy qv qc chkQ)

/-- The keys: seq, tick, find, limit, from. -/
def keyL : Nat → List UInt8
  | 1 => [115, 101, 113]
  | 2 => [116, 105, 99, 107]
  | 3 => [102, 105, 110, 100]
  | 4 => [108, 105, 109, 105, 116]
  | 5 => [102, 114, 111, 109]
  | _ => []
/-- A key's number; 0: it is none. -/
def keyN (k : List UInt8) : Nat :=
  if k = keyL 1 then 1 else if k = keyL 2 then 2 else if k = keyL 3 then 3 else if k = keyL 4 then 4 else if k = keyL 5 then 5 else 0
/-- May the value stand behind the key? -/
def okW (k : Nat) (v : List UInt8) : Bool :=
  match k with
  | 1 => ok2 v
  | 2 => ok2 v
  | 3 => (unhexV v).2
  | 4 => (numV v).2
  | 5 => (numV v).2
  | _ => false
/-- The query with the word. -/
def setW (k : Nat) (q : Qy) (v : List UInt8) : Qy :=
  match k with
  | 1 => { q with s1 := lo2 v, s2 := hi2 v }
  | 2 => { q with t1 := lo2 v, t2 := hi2 v }
  | 3 => { q with find := (unhexV v).1 }
  | 4 => { q with limit := (numV v).1 }
  | 5 => { q with frm := (numV v).1 }
  | _ => q
theorem keyN_cases (k : List UInt8) : (keyN k = 1 ∧ k = keyL 1) ∨ (keyN k = 2 ∧ k = keyL 2) ∨ (keyN k = 3 ∧ k = keyL 3) ∨ (keyN k = 4 ∧ k = keyL 4) ∨ (keyN k = 5 ∧ k = keyL 5) ∨
    (keyN k = 0 ∧ k ≠ keyL 1 ∧ k ≠ keyL 2 ∧ k ≠ keyL 3 ∧ k ≠ keyL 4 ∧ k ≠ keyL 5) := by
  unfold keyN
  by_cases h1 : k = keyL 1
  · exact .inl ⟨if_pos h1, h1⟩
  rw [if_neg h1]
  by_cases h2 : k = keyL 2
  · exact .inr (.inl ⟨if_pos h2, h2⟩)
  rw [if_neg h2]
  by_cases h3 : k = keyL 3
  · exact .inr (.inr (.inl ⟨if_pos h3, h3⟩))
  rw [if_neg h3]
  by_cases h4 : k = keyL 4
  · exact .inr (.inr (.inr (.inl ⟨if_pos h4, h4⟩)))
  rw [if_neg h4]
  by_cases h5 : k = keyL 5
  · exact .inr (.inr (.inr (.inr (.inl ⟨if_pos h5, h5⟩))))
  rw [if_neg h5]
  exact .inr (.inr (.inr (.inr (.inr ⟨rfl, h1, h2, h3, h4, h5⟩))))
/-- A word's key and its value. -/
def kOf (t : List UInt8) : Nat := if t.contains 61 then keyN (bef 61 t) else 0
def vOf (t : List UInt8) : List UInt8 := aft 61 t
/-- What is read of a query so far: the query, which keys were said. -/
abbrev St := Qy × (Nat → Bool)
def said (f : Nat → Bool) (k : Nat) : Nat → Bool := fun j => j == k || f j
/-- A word more. -/
def stepW (st : St) (t : List UInt8) : Option St :=
  if okW (kOf t) (vOf t) = true ∧ st.2 (kOf t) = false then some (setW (kOf t) st.1 (vOf t), said st.2 (kOf t)) else none
/-- What stands in the text from place 'at' on: l is what is left. -/
def parseL : Nat → List UInt8 → Nat → St → Option St × Nat
  | 0, l, p, st => (some st, p)
  | _ + 1, [], p, st => (some st, p)
  | n + 1, c :: l, p, st =>
    if c = 32 then parseL n l (p + 1) st else
      match stepW st (bef 32 (c :: l)) with
      | some st' => parseL n ((c :: l).drop (bef 32 (c :: l)).length) (p + (bef 32 (c :: l)).length) st'
      | none => (none, p)
def allQ : Qy := { s1 := 0, s2 := 1000000001, t1 := 0, t2 := 1000000001, find := [], limit := 1000, frm := 0 }
def zeroQ : Qy := { s1 := 0, s2 := 0, t1 := 0, t2 := 0, find := [], limit := 0, frm := 0 }
/-- A query that is read: the query, the place, the error. -/
def finV : Option St × Nat → Qy × Int × Int
  | (some st, p) => if chkQ st.1 = 0 then (st.1, (p : Int), 0) else (zeroQ, (p : Int), 320)
  | (none, p) => (zeroQ, (p : Int), 380)
def parseV (s : List UInt8) : Qy × Int × Int :=
  if 1000 < s.length then (zeroQ, 0, 3) else finV (parseL s.length s 0 (allQ, fun _ => false))
end WanW
end Go.Proofs.YtjcbaaabbdcdnaaDoor
