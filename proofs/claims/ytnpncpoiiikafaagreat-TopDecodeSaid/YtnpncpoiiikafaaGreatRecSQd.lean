/- RecS -/
import Derived.Test.YtnpncpoiiikafaaGreatZrXQd
import Derived.Test.YtnpncpoiiikafaaGreatNumPQd
set_option linter.unusedVariables false
set_option linter.unusedSimpArgs false
set_option linter.unnecessarySimpa false
set_option maxRecDepth 100000
set_option maxHeartbeats 32000000
namespace Go.Proofs.YtnpncpoiiikafaaGreat
open Go.RowKit
namespace RecW
def rowAt (l:List Rc) (k:Nat):Int:=rowFrom (if k = 0 then none else l[k - 1]?) (l.drop k)
theorem rowAt_end (l:List Rc) (k:Nat) (h:l.length≤k):rowAt l k = 0:=by
 unfold rowAt
 rw [List.drop_of_length_le h]
 split <;> simp [rowFrom]
theorem rowAt_bad (l:List Rc) (k:Nat) (h:k < l.length) (hb:okR l[k] = false):rowAt l k = 150:=by
 unfold rowAt
 rw [List.drop_eq_getElem_cons h]
 split <;> simp [rowFrom,hb]
theorem rowAt_first (l:List Rc) (h:0 < l.length) (hb:okR l[0] = true):rowAt l 0 = rowAt l 1:=by
 unfold rowAt
 rw [List.drop_eq_getElem_cons h]
 simp [rowFrom,hb,List.getElem?_eq_getElem h]
theorem rowAt_next (l:List Rc) (j:Nat) (h:j + 1 < l.length) (hb:okR l[j + 1] = true) (hn:nextB (l[j]'(by omega)) l[j + 1] = true):rowAt l (j + 1) = rowAt l (j + 2):=by
 unfold rowAt
 rw [List.drop_eq_getElem_cons h,if_neg (by omega),if_neg (by omega)]
 simp only [Nat.add_sub_cancel,List.getElem?_eq_getElem (show j < l.length by omega),List.getElem?_eq_getElem h,show j + 2 - 1 = j + 1 from rfl]
 rw [rowFrom,hb]
 simp [hn]
theorem rowAt_order (l:List Rc) (j:Nat) (h:j + 1 < l.length) (hb:okR l[j + 1] = true) (hn:nextB (l[j]'(by omega)) l[j + 1] = false):rowAt l (j + 1) = 151:=by
 unfold rowAt
 rw [List.drop_eq_getElem_cons h,if_neg (by omega)]
 simp only [Nat.add_sub_cancel,List.getElem?_eq_getElem (show j < l.length by omega)]
 rw [rowFrom,hb]
 simp [hn]
theorem ok_one {l:List Rc} {k:Nat} {hk:k < l.length} (h:okR l[k] = true):∀ j (hj:j < l.length),j + 1 = k + 1 → okR l[j] = true:=by
 intro j hj e
 obtain rfl:j = k:=by omega
 exact h
theorem row_any (A:Option Addr) (n c:Nat) (l:List Rc) (w:World) (h:Rd w w.heap.size 3 A n (rcells l)) (hn:n≤9223372036854775807) :
 Calls Tryz.prog 108 #[.slice A n c] w fun e w'=>e = .returned (.int .i64 (rowN l))∧Below w.heap.size w w':=by
 have hl:=rd_rlen h
 have hl1:l.length≤n:=by omega
 have hl2:n≤l.length:=by omega
 clear hl
 go_enter Tryz.func108,Tryz.ntmps108
 go_wp2_with fail
 go_loopw [8] (fun i wr=>∃ k:Nat,k≤n∧i = .int .i64 k∧rowN l = rowAt l k∧(∀ j (hj:j < l.length),j + 1 = k → okR l[j] = true)∧Below w.heap.size w wr) (fun i _=>n - (intOf i).toNat)
 case atStart=>exact ⟨0,by omega,rfl,rfl,fun j _ h=>by omega,(by first | exact Below.refl _ _ | (repeat (first | exact Below.refl _ _ | assumption | refine Below.drew ?_ | refine Below.drewN_ ?_ _ | refine Below.alloc ?_ (by first | exact Nat.le_refl _ | (simp;done) | (simp;omega) | omega) _ | refine Below.setCell ?_ (by first | exact Nat.le_refl _ | (simp;done) | (simp;omega) | omega) _ | (refine Below.trans ?_ (Below.mono (by assumption) (by first | exact Nat.le_refl _ | (simp;done) | (simp;omega) | omega))))))⟩
 case round =>
  obtain ⟨k,hk,rfl,hrow,hprev,hbw⟩:=hrel
  have HR:=Lib.hid hrow
  have HP:=Lib.hid hprev
  have hsz:=hbw.size
  clear hrow hprev
  by_cases hlt:k < n
  ·have hkl:k < l.length:=by omega
   obtain ⟨b,o,rfl,hb,hc⟩:=rd_recs (h.below hbw) (by omega)
   obtain ⟨c0,c1,c2⟩:=hc k hkl
   have HC:=Lib.hid hc
   clear hc
   by_cases hok:okR l[k] = true
   ·have HCH:=Lib.hid (chkR_yes hok)
    have HOK:=Lib.hid hok
    clear hok
    go_wp2_with fail
    refine (check_any l[k] 0 HCH.out _).mono ?_
    rintro e w1 ⟨rfl,hb1⟩
    have HB1:Below w.heap.size w w1:=(Below.trans (by first | exact Below.refl _ _ | (repeat (first | exact Below.refl _ _ | assumption | refine Below.drew ?_ | refine Below.drewN_ ?_ _ | refine Below.alloc ?_ (by first | exact Nat.le_refl _ | (simp;done) | (simp;omega) | omega) _ | refine Below.setCell ?_ (by first | exact Nat.le_refl _ | (simp;done) | (simp;omega) | omega) _ | (refine Below.trans ?_ (Below.mono (by assumption) (by first | exact Nat.le_refl _ | (simp;done) | (simp;omega) | omega)))))) (Below.mono hb1 (by first | exact Nat.le_refl _ | (simp only [World.size_alloc,World.size_setCell,World.size_drew];omega) | (simp;done) | (simp;omega) | omega)))
    have g1:Blk w1 wr.heap.size 98 #[.int .i64 l[k].1,.int .i64 l[k].2.1,str l[k].2.2]:=Blk.below (by repeat (first | with_reducible assumption | exact Blk.new _ _ _ | (simpa using Blk.new _ _ _) | with_reducible apply Blk.drewN | with_reducible apply Blk.drew | with_reducible apply Blk.alloc)) hb1 (by first | exact Nat.le_refl _ | (simp only [World.size_alloc,World.size_setCell,World.size_drew];omega) | (simp;done) | (simp;omega) | omega)
    obtain ⟨d0,d1,d2,f0,f1,f2,z0⟩:=blk3 g1
    clear c0 c1 c2 hb1
    rcases Nat.eq_zero_or_pos k with rfl | hk0
    ·go_wp2_with fail
     go_quiet (fail)
     go_wp2
     go_roundw
     case rel=>exact ⟨1,by omega,by first | rfl | go_num,by rw [HR.out,rowAt_first l hkl HOK.out],ok_one HOK.out,HB1.drewN_ _⟩
     case measure=>first | (simp [intOf];done) | (simp [intOf];omega)
    ·obtain ⟨j,rfl⟩:∃ j,k = j + 1:=⟨k - 1,by omega⟩
     have hjl:j < l.length:=by omega
     have hokj:=HP.out j hjl rfl
     obtain ⟨e1,e2,_⟩:=(okR_iff _).1 hokj
     obtain ⟨b',o',hA,_,hc⟩:=rd_recs (h.below HB1) (by omega)
     simp only [Option.some.injEq,Addr.mk.injEq,and_true] at hA
     obtain ⟨rfl,rfl⟩:=hA
     obtain ⟨c0,c1,_⟩:=hc j hjl
     clear hc hokj
     have hw1:IntKind.i64.wrap (((j + 1:Nat):Int) - 1) = (j:Int):=by rw [show ((j + 1:Nat):Int) - 1 = (j:Int) by omega];exact IntWalk.i64_in _ (by omega)
     have hw2:IntKind.i64.wrap (l[j].1 + 1) = l[j].1 + 1:=IntWalk.i64_in _ (by omega)
     have hkp:(0:Int) < ((j + 1:Nat):Int):=by omega
     have hj0:(0:Int)≤(j:Int):=by omega
     have hjn:(j:Int) < (n:Int):=by omega
     by_cases hs:l[j + 1].1 = l[j].1 + 1
     ·have hsI:(l[j + 1].1 != l[j].1 + 1) = false:=by simp [hs]
      have HS:=Lib.hid hs
      clear hs
      go_wp2_with fail
      go_quiet (fail)
      by_cases hd:l[j + 1].2.1 < l[j].2.1
      ·have HD:=Lib.hid hd
       go_wp2
       go_ret
       exact ⟨ret_int (by rw [HR.out,rowAt_order l j hkl HOK.out];simp [nextB];have:=HD.out;omega),HB1.drewN_ _⟩
      ·have HD:=Lib.hid hd
       go_wp2
       go_roundw
       case rel=>exact ⟨j + 2,by omega,by go_num,by rw [HR.out,rowAt_next l j hkl HOK.out];have:=HD.out;have:=HS.out;simp [nextB];omega,ok_one HOK.out,HB1.drewN_ _⟩
       case measure=>simp [intOf];omega
     ·have hsI:(l[j + 1].1 != l[j].1 + 1) = true:=by simp [hs]
      have HS:=Lib.hid hs
      clear hs
      go_wp2_with fail
      go_quiet (fail)
      go_wp2
      go_ret
      exact ⟨ret_int (by rw [HR.out,rowAt_order l j hkl HOK.out];have:=HS.out;simp [nextB];omega),HB1.drewN_ _⟩
   ·have hok':okR l[k] = false:=by simpa using hok
    have HCH:=Lib.hid (chkR_no hok')
    have HOK:=Lib.hid hok'
    clear hok hok'
    go_wp2_with fail
    refine (check_any l[k] 150 HCH.out _).mono ?_
    rintro e w1 ⟨rfl,hb1⟩
    have HB1:Below w.heap.size w w1:=(Below.trans (by first | exact Below.refl _ _ | (repeat (first | exact Below.refl _ _ | assumption | refine Below.drew ?_ | refine Below.drewN_ ?_ _ | refine Below.alloc ?_ (by first | exact Nat.le_refl _ | (simp;done) | (simp;omega) | omega) _ | refine Below.setCell ?_ (by first | exact Nat.le_refl _ | (simp;done) | (simp;omega) | omega) _ | (refine Below.trans ?_ (Below.mono (by assumption) (by first | exact Nat.le_refl _ | (simp;done) | (simp;omega) | omega)))))) (Below.mono hb1 (by first | exact Nat.le_refl _ | (simp only [World.size_alloc,World.size_setCell,World.size_drew];omega) | (simp;done) | (simp;omega) | omega)))
    go_wp2_with fail
    go_ret
    exact ⟨ret_int (by rw [HR.out,rowAt_bad l k hkl HOK.out]),HB1⟩
  ·have hz:l.length≤k:=by omega
   go_wp2_with fail
   go_ret
   exact ⟨ret_int (by rw [HR.out,rowAt_end l k hz]),hbw⟩
theorem sameQ_any (A1 A2:Option Addr) (n1 c1 n2 c2:Nat) (l m:List Rc) (w:World) (h1:Rd w w.heap.size 3 A1 n1 (rcells l)) (h2:Rd w w.heap.size 3 A2 n2 (rcells m)) (hn:n1≤9223372036854775807) (hn2:n2≤9223372036854775807) :
 Calls Tryz.prog 14 #[.slice A1 n1 c1,.slice A2 n2 c2] w fun e w'=>e = .returned (.bool (decide (l = m)))∧∃ nq,w' = w.drewN nq:=by
 have hl:=rd_rlen h1
 have hm:=rd_rlen h2
 by_cases hne:n1 = n2
 ·subst hne
  have e1:((n1:Int) != (n1:Int)) = false:=by simp
  have hl1:l.length≤n1:=by omega
  have hl2:n1≤l.length:=by omega
  have hm1:m.length≤n1:=by omega
  have hm2:n1≤m.length:=by omega
  clear hl hm
  go_enter Tryz.func14,Tryz.ntmps14
  go_wp2_with fail
  go_loopw [5] (fun i wr=>∃ (k nq:Nat),k≤n1∧i = .int .i64 k∧l.take k = m.take k∧wr = w.drewN nq) (fun i _=>n1 - (intOf i).toNat)
  case atStart=>exact ⟨0,0,by omega,rfl,rfl,rfl⟩
  case round =>
   obtain ⟨k,nq,hk,rfl,hsame,rfl⟩:=hrel
   have HS:=Lib.hid hsame
   clear hsame
   by_cases hlt:k < n1
   ·obtain ⟨b1,o1,rfl,hb1,hc1⟩:=rd_recs h1 (by omega)
    obtain ⟨b2,o2,rfl,hb2,hc2⟩:=rd_recs h2 (by omega)
    have hkl:k < l.length:=by omega
    have hkm:k < m.length:=by omega
    obtain ⟨d0,d1,d2⟩:=hc1 k hkl
    obtain ⟨f0,f1,f2⟩:=hc2 k hkm
    have hki:(k:Int) < (n1:Int):=by omega
    have hk0:(0:Int)≤(k:Int):=by omega
    clear hc1 hc2 h1 h2
    by_cases he:l[k] = m[k]
    ·have HE:=Lib.hid he
     have q0:(l[k].1 != m[k].1) = false:=by simp [he]
     have q1:(l[k].2.1 != m[k].2.1) = false:=by simp [he]
     have q2:l[k].2.2 = m[k].2.2:=by simp [he]
     rw [← q2] at f2
     clear he q2
     go_wp2_with fail
     go_quiet (fail)
     go_wp2
     go_roundw
     case rel=>exact ⟨k + 1,_,by omega,by go_num,take_same l m k hkl hkm HS.out HE.out,rfl⟩
     case measure=>simp [intOf];omega
    ·have HN:Hid (¬ l = m):=by
      intro e
      apply he
      subst e
      rfl
     by_cases h0:l[k].1 = m[k].1
     ·have q0:(l[k].1 != m[k].1) = false:=by simp [h0]
      by_cases h1:l[k].2.1 = m[k].2.1
      ·have q1:(l[k].2.1 != m[k].2.1) = false:=by simp [h1]
       have q2:(l[k].2.2 == m[k].2.2) = false:=by
        rw [beq_eq_false_iff_ne]
        exact fun e=>he (Prod.ext h0 (Prod.ext h1 e))
       clear he h0 h1
       go_wp2_with fail
       go_quiet (fail)
       go_wp2
       go_ret
       exact ⟨ret_bool (by simpa using HN.out),_,by first | rfl | exact World.drewN_drewN _ _ _⟩
      ·have q1:(l[k].2.1 != m[k].2.1) = true:=by simp [h1]
       clear he h0 h1
       go_wp2_with fail
       go_quiet (fail)
       go_wp2
       go_ret
       exact ⟨ret_bool (by simpa using HN.out),_,by first | rfl | exact World.drewN_drewN _ _ _⟩
     ·have q0:(l[k].1 != m[k].1) = true:=by simp [h0]
      clear he h0
      go_wp2_with fail
      go_quiet (fail)
      go_wp2
      go_ret
      exact ⟨ret_bool (by simpa using HN.out),_,by first | rfl | exact World.drewN_drewN _ _ _⟩
   ·have hfin:Hid (l = m):=by
     have:=HS.out
     rwa [List.take_of_length_le (by omega),List.take_of_length_le (by omega)] at this
    go_wp2
    go_ret
    exact ⟨ret_bool (by simpa using hfin.out),_,rfl⟩
 ·have e1:((n1:Int) != (n2:Int)) = true:=by simp;omega
  have hd:Hid (¬ l = m):=by intro e;apply hne;rw [← hl,← hm,e]
  clear hl hm
  go_enter Tryz.func14,Tryz.ntmps14
  go_wp2
  go_ret
  exact ⟨ret_bool (by simpa using hd.out),0,rfl⟩
theorem sameR_any (A1 A2:Option Addr) (n1 c1 n2 c2:Nat) (l m:List Rc) (w:World) (h1:Rd w w.heap.size 3 A1 n1 (rcells l)) (h2:Rd w w.heap.size 3 A2 n2 (rcells m)) (hn:n1≤9223372036854775807) (hn2:n2≤9223372036854775807) :
 Calls Tryz.prog 14 #[.slice A1 n1 c1,.slice A2 n2 c2] w fun e w'=>e = .returned (.bool (decide (l = m)))∧Below w.heap.size w w' :=
 (sameQ_any A1 A2 n1 c1 n2 c2 l m w h1 h2 hn hn2).mono fun _ _ ⟨he,nq,hw⟩=>⟨he,by rw [hw];exact (Below.refl _ _).drewN_ nq⟩
end RecW
end Go.Proofs.YtnpncpoiiikafaaGreat
namespace Go.Proofs.YtnpncpoiiikafaaGreat
def flatR (l:List Rc):List UInt8:=(l.map putR).flatten
theorem flatR_snoc (l:List Rc) (k:Nat) (h:k < l.length):flatR (l.take (k + 1)) = flatR (l.take k) ++ putR l[k]:=by
 unfold flatR
 rw [List.take_succ_eq_append_getElem h,List.map_append,List.flatten_append]
 simp
theorem flatR_take (l:List Rc) (k:Nat):(flatR (l.take k)).length≤(flatR l).length:=by
 have:=congrArg (fun m=>(flatR m).length) (List.take_append_drop k l)
 simp only [flatR,List.map_append,List.flatten_append,List.length_append] at this
 simp only [flatR]
 omega
def joinV (l:List Rc):List UInt8 × Int:=if rowN l = 0 then (if 20000 < (flatR l).length then ([],3) else (flatR l,0)) else ([],rowN l)
theorem joinV_bad {l:List Rc} (h:rowN l ≠ 0):joinV l = ([],rowN l):=by unfold joinV;rw [if_neg h]
theorem joinV_big {l:List Rc} (h:rowN l = 0) (h2:20000 < (flatR l).length):joinV l = ([],3):=by unfold joinV;rw [if_pos h,if_pos h2]
theorem joinV_yes {l:List Rc} (h:rowN l = 0) (h2:¬ 20000 < (flatR l).length):joinV l = (flatR l,0):=by unfold joinV;rw [if_pos h,if_neg h2]
theorem joinV_bigAt {l:List Rc} {k:Nat} (h:rowN l = 0) (h2:20000 < (flatR (l.take k)).length):joinV l = ([],3):=joinV_big h (Nat.lt_of_lt_of_le h2 (flatR_take l k))
theorem putR_len {r:Rc} (h:okR r = true):3≤(putR r).length∧(putR r).length≤2027:=by
 have h1:=vlen_pos r.1.toNat
 have h2:=vlen_pos r.2.1.toNat
 have h3:=vlen_pos r.2.2.length
 have h4:=sizeN_yes h
 have h5:sizeN r = (putR r).length:=by unfold sizeN;rw [if_pos h]
 have:=sizeN_le r
 omega
def splitF (s:List UInt8):Nat → Int → List Rc × Int
 | 0,_=>([],0)
 | f + 1,a=>if a < (s.length:Int) then (if (getR s a).2.2 = 0 then ((getR s a).1 :: (splitF s f (getR s a).2.1).1,(splitF s f (getR s a).2.1).2) else ([],(getR s a).2.2)) else ([],0)
theorem splitF_end {s:List UInt8} {f:Nat} {a:Int} (h:¬ a < (s.length:Int)):splitF s f a = ([],0):=by
 cases f with
 | zero=>rfl
 | succ f=>rw [splitF,if_neg h]
theorem splitF_yes {s:List UInt8} {f:Nat} {a:Int} (h:a < (s.length:Int)) (h0:(getR s a).2.2 = 0):splitF s (f + 1) a = ((getR s a).1 :: (splitF s f (getR s a).2.1).1,(splitF s f (getR s a).2.1).2):=by
 rw [splitF,if_pos h,if_pos h0]
theorem splitF_no {s:List UInt8} {f:Nat} {a:Int} (h:a < (s.length:Int)) (h0:(getR s a).2.2 ≠ 0):splitF s (f + 1) a = ([],(getR s a).2.2):=by
 rw [splitF,if_pos h,if_neg h0]
def splitR (p:List Rc × Int):List Rc × Int:=if p.2 = 0 then (if rowN p.1 = 0 then (p.1,0) else ([],rowN p.1)) else ([],p.2)
def splitV (s:List UInt8):List Rc × Int:=if 20000 < s.length then ([],3) else splitR (splitF s (s.length + 1) 0)
end Go.Proofs.YtnpncpoiiikafaaGreat
namespace Go.Proofs.YtnpncpoiiikafaaGreat
namespace BloW
open SkpW (row_span)
structure Hd where
 mode:Int
 raw:Int
 cnt:Int
 frst:Int
 early:Int
 late:Int
 body:List UInt8
def hdZ:Hd:=⟨0,0,0,0,0,0,[]⟩
def moreV (e m:Int):Int:=if m≤1000000000∧e≤1000000000 then e + m else 9223372036854775807
def mayB (h:Hd):Bool:=decide (h.mode = 0 ∨ h.mode = 1) && (decide (h.raw≤20000∧1≤h.cnt∧h.cnt≤h.raw) && decide (1≤h.frst∧h.frst≤1000000001 - h.cnt∧h.early≤1000000000∧h.late≤1000000000))
def atI (l:List Int) (i:Nat):Int:=l[i]?.getD 0
def hdOf (b:List UInt8) (x:List Int × Int × Int):Hd:=⟨((b[0]?.getD 0).toNat:Int),atI x.1 0,atI x.1 1,atI x.1 2,atI x.1 3,moreV (atI x.1 3) (atI x.1 4),b.drop x.2.1.toNat⟩
def peekV (b:List UInt8):Hd × Int :=
 if b = [] then (hdZ,4) else
 if (numsV b 5 1).2.2 = 0 then (if mayB (hdOf b (numsV b 5 1)) = true then (hdOf b (numsV b 5 1),0) else (hdZ,170)) else (hdZ,(numsV b 5 1).2.2)
theorem peek_may {b:List UInt8} (h:(peekV b).2 = 0):mayB (peekV b).1 = true∧(peekV b).1 = hdOf b (numsV b 5 1)∧(numsV b 5 1).2.2 = 0∧b ≠ []:=by
 unfold peekV at h ⊢
 split at h
 ·next h0=>simp at h
 ·next h0 =>
  split at h
  ·next h1 =>
   split at h
   ·next h2 =>
    rw [if_neg h0,if_pos h1,if_pos h2]
    exact ⟨h2,rfl,h1,h0⟩
   ·next h2=>simp at h
  ·next h1=>exact absurd h h1
def numsB (l:List Rc) (raw:Nat):List Int:=[(raw:Int),(l.length:Int),(l[0]?.map (·.1)).getD 0,(l[0]?.map (·.2.1)).getD 0,(l[l.length - 1]?.map (·.2.1)).getD 0 - (l[0]?.map (·.2.1)).getD 0]
def encB (l:List Rc) (mode:UInt8) (body:List UInt8):List UInt8:=mode :: (lput (numsB l (flatR l).length) ++ body)
theorem row_facts {l:List Rc} (hr:rowN l = 0) (hl:0 < l.length):1≤(l[0]'hl).1∧(l[0]'hl).1 + l.length≤1000000001∧0≤(l[0]'hl).2.1∧(l[0]'hl).2.1≤(l[l.length - 1]'(by omega)).2.1∧(l[l.length - 1]'(by omega)).2.1≤1000000000:=by
 have h0:=(okR_iff _).1 (rowFrom_ok hr _ (List.getElem_mem hl))
 have h1:=(okR_iff _).1 (rowFrom_ok hr _ (List.getElem_mem (show l.length - 1 < l.length by omega)))
 obtain ⟨s1,_⟩:=row_span hr (l.length - 1) (by omega)
 have s4:=(row_span hr 0 hl).2 (l.length - 1) (by omega) (by omega)
 omega
theorem flat_len3 (l:List Rc) (h:∀ r ∈ l,okR r = true):l.length≤(flatR l).length:=by
 induction l with
 | nil=>simp
 | cons r l ih =>
  have h1:=putR_len (h r (List.mem_cons_self ..))
  have h2:=ih (fun x hx=>h x (List.mem_cons_of_mem _ hx))
  have e:flatR (r :: l) = putR r ++ flatR l:=by simp [flatR]
  rw [e,List.length_append,List.length_cons]
  omega
theorem nums_in {l:List Rc} (hr:rowN l = 0) (hl:0 < l.length) (hraw:(flatR l).length≤20000):∀ n ∈ numsB l (flatR l).length,0≤n∧n≤9223372036854775807:=by
 obtain ⟨f1,f2,f3,f4,f5⟩:=row_facts hr hl
 have hl2:l.length - 1 < l.length:=by omega
 have hlen:=flat_len3 l (rowFrom_ok hr)
 intro n hn
 simp only [numsB,List.getElem?_eq_getElem hl,List.getElem?_eq_getElem hl2,Option.map_some,Option.getD_some,List.mem_cons,List.not_mem_nil,or_false] at hn
 rcases hn with rfl | rfl | rfl | rfl | rfl <;> omega
theorem peek_enc {l:List Rc} (hr:rowN l = 0) (hl:0 < l.length) (hraw:(flatR l).length≤20000) (mode:UInt8) (hm:mode = 0 ∨ mode = 1) (body:List UInt8) :
 peekV (encB l mode body) = (⟨(mode.toNat:Int),((flatR l).length:Nat),(l.length:Nat),(l[0]'hl).1,(l[0]'hl).2.1,(l[l.length - 1]'(by omega)).2.1,body⟩,0):=by
 obtain ⟨f1,f2,f3,f4,f5⟩:=row_facts hr hl
 have hlen:=flat_len3 l (rowFrom_ok hr)
 have hl2:l.length - 1 < l.length:=by omega
 have hN:=numsV_put (numsB l (flatR l).length) (nums_in hr hl hraw) [mode] body
 have hlb:(numsB l (flatR l).length).length = 5:=rfl
 rw [hlb] at hN
 have hb:[mode] ++ (lput (numsB l (flatR l).length) ++ body) = encB l mode body:=rfl
 rw [hb] at hN
 have h1:(([mode]:List UInt8).length:Int) = 1:=rfl
 have hN':numsV (encB l mode body) 5 1 = (numsB l (flatR l).length,((1 + (lput (numsB l (flatR l).length)).length:Nat):Int),0):=by
  have:=hN
  simpa using this
 have hd:hdOf (encB l mode body) (numsB l (flatR l).length,((1 + (lput (numsB l (flatR l).length)).length:Nat):Int),0) = ⟨(mode.toNat:Int),((flatR l).length:Nat),(l.length:Nat),(l[0]'hl).1,(l[0]'hl).2.1,(l[l.length - 1]'(by omega)).2.1,body⟩:=by
  unfold hdOf
  have e0:atI (numsB l (flatR l).length) 0 = ((flatR l).length:Nat):=rfl
  have e1:atI (numsB l (flatR l).length) 1 = (l.length:Nat):=rfl
  have e2:atI (numsB l (flatR l).length) 2 = (l[0]'hl).1:=by simp [atI,numsB,List.getElem?_eq_getElem hl]
  have e3:atI (numsB l (flatR l).length) 3 = (l[0]'hl).2.1:=by simp [atI,numsB,List.getElem?_eq_getElem hl]
  have e4:atI (numsB l (flatR l).length) 4 = (l[l.length - 1]'hl2).2.1 - (l[0]'hl).2.1:=by simp [atI,numsB,List.getElem?_eq_getElem hl,List.getElem?_eq_getElem hl2]
  rw [e0,e1,e2,e3,e4]
  have e5:moreV (l[0]'hl).2.1 ((l[l.length - 1]'hl2).2.1 - (l[0]'hl).2.1) = (l[l.length - 1]'hl2).2.1:=by
   unfold moreV
   rw [if_pos ⟨by omega,by omega⟩]
   omega
  have e6:(encB l mode body)[0]?.getD 0 = mode:=rfl
  have e7:(encB l mode body).drop ((1 + (lput (numsB l (flatR l).length)).length:Nat):Int).toNat = body:=by
   rw [Int.toNat_natCast,Nat.add_comm]
   simp [encB]
  rw [e5,e6,e7]
 unfold peekV
 rw [if_neg (by simp [encB]),hN']
 dsimp only
 rw [if_pos rfl,hd,if_pos]
 have hmo:(mode.toNat:Int) = 0 ∨ (mode.toNat:Int) = 1:=by rcases hm with rfl | rfl <;> decide
 simp only [mayB,Bool.and_eq_true,decide_eq_true_eq]
 exact ⟨hmo,by omega,by omega⟩
end BloW
end Go.Proofs.YtnpncpoiiikafaaGreat
