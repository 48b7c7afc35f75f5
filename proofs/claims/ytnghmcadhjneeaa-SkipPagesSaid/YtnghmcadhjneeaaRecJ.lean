/- Plain: records' bytes; bytes' records. -/
import Derived.Test.YtnghmcadhjneeaaRecV
import Derived.Test.YtnghmcadhjneeaaRecS
namespace Go.Proofs.Ytnghmcadhjneeaa
set_option linter.unusedVariables false
set_option linter.unusedSimpArgs false
set_option linter.unnecessarySimpa false

def flatR (l : List Rc) : List UInt8 := (l.map putR).flatten
theorem flatR_snoc (l : List Rc) (k : Nat) (h : k < l.length) : flatR (l.take (k + 1)) = flatR (l.take k) ++ putR l[k] := by
  unfold flatR
  rw [List.take_succ_eq_append_getElem h, List.map_append, List.flatten_append]
  simp
theorem flatR_take (l : List Rc) (k : Nat) : (flatR (l.take k)).length ≤ (flatR l).length := by
  have := congrArg (fun m => (flatR m).length) (List.take_append_drop k l)
  simp only [flatR, List.map_append, List.flatten_append, List.length_append] at this
  simp only [flatR]
  omega
theorem flatR_append (l m : List Rc) : flatR (l ++ m) = flatR l ++ flatR m := by simp [flatR]
def joinV (l : List Rc) : List UInt8 × Int := if rowN l = 0 then (if 20000 < (flatR l).length then ([], 3) else (flatR l, 0)) else ([], rowN l)
theorem joinV_bad {l : List Rc} (h : rowN l ≠ 0) : joinV l = ([], rowN l) := by unfold joinV; rw [if_neg h]
theorem joinV_big {l : List Rc} (h : rowN l = 0) (h2 : 20000 < (flatR l).length) : joinV l = ([], 3) := by unfold joinV; rw [if_pos h, if_pos h2]
theorem joinV_yes {l : List Rc} (h : rowN l = 0) (h2 : ¬ 20000 < (flatR l).length) : joinV l = (flatR l, 0) := by unfold joinV; rw [if_pos h, if_neg h2]
theorem joinV_bigAt {l : List Rc} {k : Nat} (h : rowN l = 0) (h2 : 20000 < (flatR (l.take k)).length) : joinV l = ([], 3) := joinV_big h (Nat.lt_of_lt_of_le h2 (flatR_take l k))
theorem putR_len {r : Rc} (h : okR r = true) : 3 ≤ (putR r).length ∧ (putR r).length ≤ 2027 := by
  have h1 := vlen_pos r.1.toNat
  have h2 := vlen_pos r.2.1.toNat
  have h3 := vlen_pos r.2.2.length
  have h4 := sizeN_yes h
  have h5 : sizeN r = (putR r).length := by unfold sizeN; rw [if_pos h]
  have := sizeN_le r
  omega

def splitF (s : List UInt8) : Nat → Int → List Rc × Int
  | 0, _ => ([], 0)
  | f + 1, a => if a < (s.length : Int) then (if (getR s a).2.2 = 0 then ((getR s a).1 :: (splitF s f (getR s a).2.1).1, (splitF s f (getR s a).2.1).2) else ([], (getR s a).2.2)) else ([], 0)
theorem splitF_end {s : List UInt8} {f : Nat} {a : Int} (h : ¬ a < (s.length : Int)) : splitF s f a = ([], 0) := by
  cases f with
  | zero => rfl
  | succ f => rw [splitF, if_neg h]
theorem splitF_yes {s : List UInt8} {f : Nat} {a : Int} (h : a < (s.length : Int)) (h0 : (getR s a).2.2 = 0) : splitF s (f + 1) a = ((getR s a).1 :: (splitF s f (getR s a).2.1).1, (splitF s f (getR s a).2.1).2) := by
  rw [splitF, if_pos h, if_pos h0]
theorem splitF_no {s : List UInt8} {f : Nat} {a : Int} (h : a < (s.length : Int)) (h0 : (getR s a).2.2 ≠ 0) : splitF s (f + 1) a = ([], (getR s a).2.2) := by
  rw [splitF, if_pos h, if_neg h0]
def splitR (p : List Rc × Int) : List Rc × Int := if p.2 = 0 then (if rowN p.1 = 0 then (p.1, 0) else ([], rowN p.1)) else ([], p.2)
def splitV (s : List UInt8) : List Rc × Int := if 20000 < s.length then ([], 3) else splitR (splitF s (s.length + 1) 0)
end Go.Proofs.Ytnghmcadhjneeaa
