/- RecJ -/
import Derived.Test.YtnpncpoiiikafaaGreatZrXQt
import Derived.Test.YtnpncpoiiikafaaGreatVarFQt
import Derived.Test.YtnpncpoiiikafaaGreatZruPQt
set_option linter.unusedVariables false
set_option linter.unusedSimpArgs false
set_option linter.unnecessarySimpa false
set_option maxRecDepth 100000
set_option maxHeartbeats 32000000
namespace Go.Proofs.YtnpncpoiiikafaaGreat
def flatR (l:List Rc):List UInt8:=(l.map putR).flatten
def joinV (l:List Rc):List UInt8 × Int:=if rowN l = 0 then (if 20000 < (flatR l).length then ([],3) else (flatR l,0)) else ([],rowN l)
theorem joinV_bad {l:List Rc} (h:rowN l ≠ 0):joinV l = ([],rowN l):=by unfold joinV;rw [if_neg h]
theorem joinV_big {l:List Rc} (h:rowN l = 0) (h2:20000 < (flatR l).length):joinV l = ([],3):=by unfold joinV;rw [if_pos h,if_pos h2]
theorem joinV_yes {l:List Rc} (h:rowN l = 0) (h2:¬ 20000 < (flatR l).length):joinV l = (flatR l,0):=by unfold joinV;rw [if_pos h,if_neg h2]
def splitF (s:List UInt8):Nat → Int → List Rc × Int
 | 0,_=>([],0)
 | f + 1,a=>if a < (s.length:Int) then (if (getR s a).2.2 = 0 then ((getR s a).1 :: (splitF s f (getR s a).2.1).1,(splitF s f (getR s a).2.1).2) else ([],(getR s a).2.2)) else ([],0)
theorem splitF_end {s:List UInt8} {f:Nat} {a:Int} (h:¬ a < (s.length:Int)):splitF s f a = ([],0):=by
 cases f with
 | zero=>rfl
 | succ f=>rw [splitF,if_neg h]
theorem splitF_yes {s:List UInt8} {f:Nat} {a:Int} (h:a < (s.length:Int)) (h0:(getR s a).2.2 = 0):splitF s (f + 1) a = ((getR s a).1 :: (splitF s f (getR s a).2.1).1,(splitF s f (getR s a).2.1).2):=by
 rw [splitF,if_pos h,if_pos h0]
theorem splitF_no {s:List UInt8} {f:Nat} {a:Int} (h:a < (s.length:Int)) (h0:(getR s a).2.2 ≠ 0):splitF s (f + 1) a = ([],(getR s a).2.2):=by
 rw [splitF,if_pos h,if_neg h0]
def splitR (p:List Rc × Int):List Rc × Int:=if p.2 = 0 then (if rowN p.1 = 0 then (p.1,0) else ([],rowN p.1)) else ([],p.2)
def splitV (s:List UInt8):List Rc × Int:=if 20000 < s.length then ([],3) else splitR (splitF s (s.length + 1) 0)
end Go.Proofs.YtnpncpoiiikafaaGreat
namespace Go.Proofs.YtnpncpoiiikafaaGreat
namespace BloW
structure Hd where
 mode:Int
 raw:Int
 cnt:Int
 frst:Int
 early:Int
 late:Int
 body:List UInt8
def hdZ:Hd:=⟨0,0,0,0,0,0,[]⟩
def moreV (e m:Int):Int:=if m≤1000000000∧e≤1000000000 then e + m else 9223372036854775807
def mayB (h:Hd):Bool:=decide (h.mode = 0 ∨ h.mode = 1) && (decide (h.raw≤20000∧1≤h.cnt∧h.cnt≤h.raw) && decide (1≤h.frst∧h.frst≤1000000001 - h.cnt∧h.early≤1000000000∧h.late≤1000000000))
def atI (l:List Int) (i:Nat):Int:=l[i]?.getD 0
def hdOf (b:List UInt8) (x:List Int × Int × Int):Hd:=⟨((b[0]?.getD 0).toNat:Int),atI x.1 0,atI x.1 1,atI x.1 2,atI x.1 3,moreV (atI x.1 3) (atI x.1 4),b.drop x.2.1.toNat⟩
def peekV (b:List UInt8):Hd × Int :=
 if b = [] then (hdZ,4) else
 if (numsV b 5 1).2.2 = 0 then (if mayB (hdOf b (numsV b 5 1)) = true then (hdOf b (numsV b 5 1),0) else (hdZ,170)) else (hdZ,(numsV b 5 1).2.2)
theorem peek_may {b:List UInt8} (h:(peekV b).2 = 0):mayB (peekV b).1 = true∧(peekV b).1 = hdOf b (numsV b 5 1)∧(numsV b 5 1).2.2 = 0∧b ≠ []:=by
 unfold peekV at h ⊢
 split at h
 ·next h0=>simp at h
 ·next h0 =>
  split at h
  ·next h1 =>
   split at h
   ·next h2 =>
    rw [if_neg h0,if_pos h1,if_pos h2]
    exact ⟨h2,rfl,h1,h0⟩
   ·next h2=>simp at h
  ·next h1=>exact absurd h h1
end BloW
end Go.Proofs.YtnpncpoiiikafaaGreat
