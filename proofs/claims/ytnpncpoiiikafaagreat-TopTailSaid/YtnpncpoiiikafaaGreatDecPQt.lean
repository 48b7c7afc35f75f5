/- DecP -/
import Derived.Test.YtnpncpoiiikafaaGreatZrWQt
import Derived.Test.YtnpncpoiiikafaaGreatRecJQt
import Derived.Test.YtnpncpoiiikafaaGreatFrPQt
import Derived.Test.YtnpncpoiiikafaaGreatKmpPQt
import Derived.Test.YtnpncpoiiikafaaGreatAppQt
import Derived.StillTailTactics
import Derived.Deep.DeepCutAuto
import Derived.Deep.CutRange
import Derived.Test.YtnpncpoiiikafaaGreatHedCQt
import Derived.Test.YtnpncpoiiikafaaGreatCanXQt
import Derived.BigQuiet
import Derived.Test.YtnpncpoiiikafaaGreatSuWQt
import Derived.Laws.CopyOwn
import Derived.Test.YtnpncpoiiikafaaGreatFrontWQt
import Derived.Deep.WholeRow
import Derived.Laws.Closers25b
set_option linter.unusedVariables false
set_option linter.unusedSimpArgs false
set_option linter.unnecessarySimpa false
set_option maxRecDepth 100000
set_option maxHeartbeats 32000000
namespace Go.Proofs.YtnpncpoiiikafaaGreat
namespace BloW
open SqW (unpackV packB unpack_pack)
open SufW (Sa letters)
def rawOf (h:Hd):List UInt8 × Int :=
 if h.mode = 1 then (if (unpackV h.body).2 = 0 then (if ((unpackV h.body).1.length:Int) = h.raw then ((unpackV h.body).1,0) else ([],5)) else ([],(unpackV h.body).2))
 else (if (h.body.length:Int) = h.raw then (h.body,0) else ([],5))
def fitsB (h:Hd) (l:List Rc):Bool:=decide ((l.length:Int) = h.cnt) && (decide ((l[0]?.getD (0,0,[])).1 = h.frst) && (decide ((l[0]?.getD (0,0,[])).2.1 = h.early) && decide ((l[l.length - 1]?.getD (0,0,[])).2.1 = h.late)))
def decR (h:Hd) (s:List UInt8):List Rc × Int :=
 if (splitV s).2 = 0 then (if fitsB h (splitV s).1 = true then ((splitV s).1,0) else ([],170)) else ([],(splitV s).2)
def decB (b:List UInt8):List Rc × Int :=
 if (peekV b).2 = 0 then (if (rawOf (peekV b).1).2 = 0 then decR (peekV b).1 (rawOf (peekV b).1).1 else ([],(rawOf (peekV b).1).2)) else ([],(peekV b).2)
theorem rawOf_len {h:Hd} (h0:(rawOf h).2 = 0):((rawOf h).1.length:Int) = h.raw:=by
 unfold rawOf at h0 ⊢
 by_cases h1:h.mode = 1
 ·rw [if_pos h1] at h0 ⊢
  by_cases h2:(unpackV h.body).2 = 0
  ·rw [if_pos h2] at h0 ⊢
   by_cases h3:((unpackV h.body).1.length:Int) = h.raw
   ·rw [if_pos h3];exact h3
   ·rw [if_neg h3] at h0;simp at h0
  ·rw [if_neg h2] at h0;exact absurd h0 h2
 ·rw [if_neg h1] at h0 ⊢
  by_cases h3:(h.body.length:Int) = h.raw
  ·rw [if_pos h3];exact h3
  ·rw [if_neg h3] at h0;simp at h0
theorem decB_ok {b:List UInt8} (h0:(decB b).2 = 0):(peekV b).2 = 0∧(rawOf (peekV b).1).2 = 0∧(splitV (rawOf (peekV b).1).1) = ((decB b).1,0)∧fitsB (peekV b).1 (decB b).1 = true∧decB b = ((decB b).1,0) ∧
 rowN (decB b).1 = 0∧0 < (decB b).1.length∧(flatR (decB b).1).length≤20000∧flatR (decB b).1 = (rawOf (peekV b).1).1:=by
 have hp:=h0
 unfold decB at hp
 by_cases h1:(peekV b).2 = 0
 ·rw [if_pos h1] at hp
  by_cases h2:(rawOf (peekV b).1).2 = 0
  ·rw [if_pos h2] at hp
   unfold decR at hp
   by_cases h3:(splitV (rawOf (peekV b).1).1).2 = 0
   ·rw [if_pos h3] at hp
    by_cases h4:fitsB (peekV b).1 (splitV (rawOf (peekV b).1).1).1 = true
    ·have e:decB b = ((splitV (rawOf (peekV b).1).1).1,0):=by unfold decB;rw [if_pos h1,if_pos h2];unfold decR;rw [if_pos h3,if_pos h4]
     have e1:(decB b).1 = (splitV (rawOf (peekV b).1).1).1:=by rw [e]
     have hj:=join_split h3
     obtain ⟨hm,_,_,_⟩:=peek_may h1
     have hf:=h4
     rw [← e1] at hj hf
     have hr:rowN (decB b).1 = 0∧(flatR (decB b).1).length≤20000∧flatR (decB b).1 = (rawOf (peekV b).1).1:=by
      rcases joinV_cases (decB b).1 with ⟨j1,j2,j3⟩ | ⟨j1,_⟩
      ·rw [hj] at j1
       exact ⟨j2,j3,(congrArg Prod.fst j1).symm⟩
      ·rw [hj] at j1;exact absurd rfl j1
     refine ⟨h1,h2,by rw [e1];exact Prod.ext rfl h3,hf,by rw [e1];exact e,hr.1,?_,hr.2.1,hr.2.2⟩
     simp only [fitsB,Bool.and_eq_true,decide_eq_true_eq] at hf
     simp only [mayB,Bool.and_eq_true,decide_eq_true_eq] at hm
     have h5:=hf.1
     omega
    ·rw [if_neg h4] at hp;simp at hp
   ·rw [if_neg h3] at hp;exact absurd hp h3
  ·rw [if_neg h2] at hp;exact absurd hp h2
 ·rw [if_neg h1] at hp;exact absurd hp h1
end BloW
end Go.Proofs.YtnpncpoiiikafaaGreat
namespace Go.Proofs.YtnpncpoiiikafaaGreat
namespace ScaW
open FraW (Fr frZ getF getF_ok getF_take getF_end framesV framesV_yes framesV_no putF)
open HedW (headB aloneB nextM rowM blocksV blocksV_ok)
open SkpW (Me)
open BloW (peekV decB decB_ok fitsB)
instance meDec:DecidableEq Me:=fun a b=>decidable_of_iff (a.at_ = b.at_∧a.size = b.size∧a.raw = b.raw∧a.count = b.count∧a.first = b.first∧a.early = b.early∧a.late = b.late) (by cases a;cases b;simp)
def metaF (f:Fr):Me:=⟨f.at_,f.tz - f.at_,(peekV f.body).1.raw,(peekV f.body).1.cnt,(peekV f.body).1.frst,(peekV f.body).1.early,(peekV f.body).1.late⟩
def isMeta (f:Fr):Bool:=decide (f.kind = 2) && decide ((peekV f.body).2 = 0)
def meZ:Me:=⟨0,0,0,0,0,0,0⟩
def lastV (l:List Me):Me × Bool:=if l.length = 0 ∨ blocksV l ≠ 0 then (meZ,false) else (l[l.length - 1]?.getD meZ,true)
def nextV (first:Int) (l:List Me):Int:=if (lastV l).2 = true then (lastV l).1.first + (lastV l).1.count else first
def goesB (first:Int) (l:List Me) (t:Int) (m:Me):Bool:=decide (l.length < 1000) && (decide (m.first = nextV first l) && (decide (t≤m.early) && decide (blocksV [m] = 0)))
def goodB (first:Int) (l:List Me) (t:Int) (f:Fr):Bool:=isMeta f && (goesB first l t (metaF f) && decide ((decB f.body).2 = 0))
def tailGo (first:Int):List Fr → List Me → Int → Int → List Me × Int
 | [],l,e,_=>(l,e)
 | f :: fs,l,e,t=>if goodB first l t f = true then tailGo first fs (l ++ [metaF f]) f.tz (metaF f).late else (l,e)
def begV (S:List UInt8 → Int) (s:List UInt8) (i g f:Int):Int × Bool :=
 if headB i g f = true then (if (putF S 1 (lput [i,g,f])).2 = 0∧(putF S 1 (lput [i,g,f])).1 <+: s then (((putF S 1 (lput [i,g,f])).1.length:Int),true) else (0,false)) else (0,false)
def tailV (S:List UInt8 → Int) (s:List UInt8) (i g f:Int):(List Me × Int) × Int :=
 if (begV S s i g f).2 = true then (tailGo f (framesV S s (begV S s i g f).1) [] (begV S s i g f).1 0,0) else (([],0),210)
def loadV (S:List UInt8 → Int) (s:List UInt8) (m:Me):List Rc × Int :=
 if (getF S s m.at_).2 = 0 then
  (if (getF S s m.at_).1.kind = 2∧(getF S s m.at_).1.tz - (getF S s m.at_).1.at_ = m.size then
   (if (decB (getF S s m.at_).1.body).2 = 0 then (if isMeta (getF S s m.at_).1 = true∧metaF (getF S s m.at_).1 = m then decB (getF S s m.at_).1.body else ([],170)) else ([],(decB (getF S s m.at_).1.body).2))
  else ([],170))
 else ([],(getF S s m.at_).2)
theorem rowM_snoc:∀ (l:List Me) (p:Option Me) (m:Me),rowM p (l ++ [m]) = (rowM p l && (aloneB m && (match (l.getLast?.or p) with | none=>true | some a=>nextM a m)))
 | [],none,m=>by simp [rowM]
 | [],some a,m=>by simp [rowM]
 | x :: l,none,m=>by
  have ih:=rowM_snoc l (some x) m
  simp only [List.cons_append,rowM,ih,Bool.and_assoc]
  cases hl:l.getLast? with
  | none=>rw [List.getLast?_eq_none_iff] at hl;subst hl;simp
  | some y =>
   have hne:l ≠ []:=by intro e;subst e;simp at hl
   rw [List.getLast?_cons_of_ne_nil hne,hl]
   simp
 | x :: l,some a,m=>by
  have ih:=rowM_snoc l (some x) m
  simp only [List.cons_append,rowM,ih,Bool.and_assoc]
  cases hl:l.getLast? with
  | none=>rw [List.getLast?_eq_none_iff] at hl;subst hl;simp
  | some y =>
   have hne:l ≠ []:=by intro e;subst e;simp at hl
   rw [List.getLast?_cons_of_ne_nil hne,hl]
   simp
structure Inv (S:List UInt8 → Int) (s:List UInt8) (l:List Me) (e:Nat) (t:Int):Prop where
 row:blocksV l = 0
 each:∀ m ∈ l,∃ a:Nat,m.at_ = a∧(getF S s a).2 = 0∧(getF S s a).1.tz≤e∧isMeta (getF S s a).1 = true∧metaF (getF S s a).1 = m∧(decB (getF S s a).1.body).2 = 0
 last:∀ m,l.getLast? = some m → m.at_ + m.size = e∧m.late = t
theorem blocks1 {m:Me} (h:blocksV [m] = 0):aloneB m = true:=(blocksV_ok h).2.2 m (List.mem_cons_self ..)
theorem last_eq (l:List Me) (h:l ≠ []):l.getLast? = some (l[l.length - 1]?.getD meZ):=by
 have hp:0 < l.length:=List.length_pos_iff.2 h
 rw [List.getLast?_eq_getElem?,List.getElem?_eq_getElem (by omega)]
 rfl
theorem Inv.step {S:List UInt8 → Int} {s:List UInt8} {l:List Me} {e:Nat} {t first:Int} (I:Inv S s l e t) (hf:(getF S s e).2 = 0) (hg:goodB first l t (getF S s e).1 = true) (z:Nat) (hto:(getF S s e).1.tz = z) :
 Inv S s (l ++ [metaF (getF S s e).1]) z (metaF (getF S s e).1).late:=by
 obtain ⟨k1,k2,k3,_⟩:=getF_ok hf
 simp only [goodB,goesB,Bool.and_eq_true,decide_eq_true_eq] at hg
 obtain ⟨h1,⟨h2,h3,h4,h5⟩,h6⟩:=hg
 have ha:=blocks1 h5
 refine ⟨?_,?_,?_⟩
 ·unfold blocksV
  rw [if_neg (by rw [List.length_append,List.length_cons,List.length_nil];omega),if_pos]
  rw [rowM_snoc,(blocksV_ok I.row).2.1,ha]
  simp only [Bool.true_and]
  by_cases hl:l = []
  ·subst hl;rfl
  ·rw [last_eq l hl]
   simp only [Option.or]
   obtain ⟨j1,j2⟩:=I.last _ (last_eq l hl)
   have hn:nextV first l = (l[l.length - 1]?.getD meZ).first + (l[l.length - 1]?.getD meZ).count:=by
    have:¬ (l.length = 0 ∨ blocksV l ≠ 0):=by
     rintro (h | h)
     ·exact hl (List.length_eq_zero_iff.1 h)
     ·exact h I.row
    unfold nextV lastV
    rw [if_neg this,if_pos rfl]
   rw [hn] at h3
   simp only [nextM,Bool.and_eq_true,decide_eq_true_eq]
   refine ⟨?_,h3,by omega⟩
   show (getF S s e).1.at_ = _
   omega
 ·intro m hm
  rcases List.mem_append.1 hm with hm | hm
  ·obtain ⟨a,e1,e2,e3,e4,e5,e6⟩:=I.each m hm
   exact ⟨a,e1,e2,by omega,e4,e5,e6⟩
  ·obtain rfl:=List.mem_singleton.1 hm
   exact ⟨e,k1,hf,by omega,h1,rfl,h6⟩
 ·intro m hm
  rw [List.getLast?_append,List.getLast?_singleton] at hm
  simp only [Option.some_or,Option.some.injEq] at hm
  subst hm
  refine ⟨?_,rfl⟩
  show (getF S s e).1.at_ + ((getF S s e).1.tz - (getF S s e).1.at_) = z
  omega
theorem tail_run {S:List UInt8 → Int} {s:List UInt8} {first:Int}:∀ (fs:List Fr) (l:List Me) (e:Nat) (t:Int),framesV S s e = fs → Inv S s l e t → e≤s.length →
 ∃ n:Nat,(tailGo first fs l e t).2 = n∧e≤n∧n≤s.length∧(∃ t',Inv S s (tailGo first fs l e t).1 n t')∧tailGo first (framesV S (s.take n) e) l e t = tailGo first fs l e t
 | [],l,e,t,_,I,he=>by
  refine ⟨e,rfl,Nat.le_refl _,he,⟨t,I⟩,?_⟩
  rw [framesV_no (by rw [getF_end S s e he];decide)]
 | f :: fs,l,e,t,hfs,I,he=>by
  by_cases hf:(getF S s e).2 = 0
  ·rw [framesV_yes hf] at hfs
   obtain ⟨rfl,hfs2⟩:=List.cons.inj hfs
   clear hfs
   obtain ⟨k1,k2,k3,_⟩:=getF_ok hf
   obtain ⟨z,hto⟩:=Int.eq_ofNat_of_zero_le (show 0≤(getF S s e).1.tz by omega)
   by_cases hg:goodB first l t (getF S s e).1 = true
   ·rw [tailGo,if_pos hg]
    rw [hto] at hfs2 ⊢
    obtain ⟨n,i1,i2,i3,i4,i5⟩:=tail_run fs _ z _ hfs2 (I.step hf hg z hto) (by omega)
    refine ⟨n,i1,by omega,i3,i4,?_⟩
    have ht:=getF_take hf (n:=n) (by omega) i3
    rw [framesV_yes (by rw [ht];exact hf),ht,tailGo,if_pos hg,hto]
    exact i5
   ·rw [tailGo,if_neg hg]
    refine ⟨e,rfl,Nat.le_refl _,he,⟨t,I⟩,?_⟩
    rw [framesV_no (by rw [getF_end S s e he];decide)]
    rfl
  ·rw [framesV_no hf] at hfs
   cases hfs
theorem tail_cut {S:List UInt8 → Int} {s:List UInt8} {i g f:Int} (h:(tailV S s i g f).2 = 0) :
 ∃ n:Nat,(tailV S s i g f).1.2 = n∧n≤s.length∧tailV S (s.take n) i g f = tailV S s i g f∧∃ t,Inv S s (tailV S s i g f).1.1 n t:=by
 unfold tailV at h ⊢
 by_cases hb:(begV S s i g f).2 = true
 ·rw [if_pos hb]
  obtain ⟨e,he,hel,heq⟩:∃ e:Nat,begV S s i g f = ((e:Int),true)∧e≤s.length∧∀ n,e≤n → n≤s.length → begV S (s.take n) i g f = ((e:Int),true):=by
   unfold begV at hb ⊢
   by_cases h1:headB i g f = true
   ·rw [if_pos h1] at hb ⊢
    by_cases h2:(putF S 1 (lput [i,g,f])).2 = 0∧(putF S 1 (lput [i,g,f])).1 <+: s
    ·rw [if_pos h2]
     refine ⟨_,rfl,h2.2.length_le,fun n h3 h4=>?_⟩
     rw [if_pos h1,if_pos]
     refine ⟨h2.1,?_⟩
     obtain ⟨r,hr⟩:=h2.2
     refine ⟨r.take (n - (putF S 1 (lput [i,g,f])).1.length),?_⟩
     rw [← hr,List.take_append,List.take_of_length_le h3]
    ·rw [if_neg h2] at hb;cases hb
   ·rw [if_neg h1] at hb;cases hb
  rw [he]
  dsimp only
  have I0:Inv S s [] e 0:=⟨by unfold blocksV;rw [if_neg (by simp),if_pos (by simp [rowM])],by simp,by simp⟩
  obtain ⟨n,n1,n2,n3,n4,n5⟩:=tail_run (first:=f) _ [] e 0 rfl I0 hel
  refine ⟨n,n1,n3,?_,n4⟩
  rw [heq n n2 n3,if_pos rfl]
  dsimp only
  rw [n5]
 ·rw [if_neg hb] at h;simp at h
theorem load_cut {S:List UInt8 → Int} {s:List UInt8} {l:List Me} {n:Nat} {t:Int} (I:Inv S s l n t) (hn:n≤s.length):∀ m ∈ l,(loadV S (s.take n) m).2 = 0∧((loadV S (s.take n) m).1.length:Int) = m.count∧0≤m.at_:=by
 intro m hm
 obtain ⟨a,e1,e2,e3,e4,e5,e6⟩:=I.each m hm
 have ht:=getF_take e2 e3 hn
 have hk:(getF S s a).1.kind = 2:=by
  simp only [isMeta,Bool.and_eq_true,decide_eq_true_eq] at e4
  exact e4.1
 have hs:(getF S s a).1.tz - (getF S s a).1.at_ = m.size:=by rw [← e5];rfl
 have hl:loadV S (s.take n) m = decB (getF S s a).1.body:=by
  unfold loadV
  rw [e1,ht,if_pos e2,if_pos ⟨hk,hs⟩,if_pos e6,if_pos ⟨e4,e5⟩]
 have h4:=(decB_ok e6).2.2.2.1
 have hc:(peekV (getF S s a).1.body).1.cnt = m.count:=by rw [← e5];rfl
 simp only [BloW.fitsB,Bool.and_eq_true,decide_eq_true_eq] at h4
 rw [hl]
 exact ⟨e6,by rw [h4.1,hc],by omega⟩
end ScaW
end Go.Proofs.YtnpncpoiiikafaaGreat
namespace Go.Proofs.YtnpncpoiiikafaaGreat
open Go.RowKit
namespace ScaW
open SkpW (Me mc blk7f set7 low7)
open SufW (w64s)
open HedW (mcells mcells_len rd_mlen rd_mets Blocks_any blocksV blocksV_ok aloneB aloneB_iff)
open LenW (results_row2)
theorem lastV_no {l:List Me} (h:l.length = 0 ∨ blocksV l ≠ 0):lastV l = (meZ,false):=if_pos h
theorem lastV_yes {l:List Me} (k:Nat) (h:l.length = k + 1) (hb:blocksV l = 0):lastV l = (l[k]'(by omega),true):=by
 unfold lastV
 rw [if_neg (by omega)]
 have e:l.length - 1 = k:=by omega
 rw [e,List.getElem?_eq_getElem (by omega)]
 rfl
theorem last_any (A:Option Addr) (n c:Nat) (l:List Me) (w:World) (h:Rd w w.heap.size 7 A n (mcells l)) (hn:n≤1000000) (x:Me × Bool) (hx:lastV l = x) :
 Calls Tryz.prog 78 #[.slice A n c] w fun e w'=>e = .returned (.tuple #[.agg (mc x.1),.bool x.2])∧Below w.heap.size w w':=by
 have hl:=rd_mlen h
 obtain ⟨w0,hw0⟩:∃ w0,w.alloc (.cells (mc meZ) 33) = w0:=⟨_,rfl⟩
 have hw0':w.alloc (.cells #[.int .i64 0,.int .i64 0,.int .i64 0,.int .i64 0,.int .i64 0,.int .i64 0,.int .i64 0] 33) = w0:=hw0
 have bR:Blk w0 w.heap.size 33 (mc meZ):=by rw [← hw0];exact Blk.new _ _ _
 have HB:Below w.heap.size w w0:=by rw [← hw0];exact (Below.refl w.heap.size w).alloc (Nat.le_refl _) _
 have hR0:=h.below HB
 have hHW:=Lib.hid hw0'
 by_cases hz:n = 0
 ·subst hz
  rw [lastV_no (.inl hl)] at hx
  subst hx
  clear hl hw0 hw0'
  go_enter Tryz.func78,Tryz.ntmps78
  go_wp2_with fail
  refine bodyPost_ret (results_row2 rfl _ _ w.heap.size 33 (mc meZ) (0,0) _ rfl (Blk.new _ _ _) Tryz.underlying33 rfl (by kernel_rfl)) rfl ?_
  exact ⟨rfl,by rw [hHW.out];exact HB⟩
 ·obtain ⟨k,rfl⟩:∃ k,n = k + 1:=⟨n - 1,by omega⟩
  obtain ⟨v,hv⟩:∃ v,blocksV l = v:=⟨_,rfl⟩
  have C:=Blocks_any A (k + 1) c l w0 (hR0.more HB.size) hn v hv
  have hkI:(((k + 1:Nat):Int) == 0) = false:=by simp;omega
  have hkJ:(((k:Int) + 1) == 0) = false:=by simp;omega
  have hkw:IntKind.i64.wrap (((k:Int) + 1) - 1) = (k:Int):=by rw [w64s (by omega) (by omega)];omega
  have hkw2:IntKind.i64.wrap (k:Int) = (k:Int):=w64s (by omega) (by omega)
  have hk0:(0:Int)≤(k:Int):=by omega
  have hk1:(k:Int) < (k:Int) + 1:=by omega
  clear hw0 hw0'
  by_cases hv0:v = 0
  ·subst hv0
   rw [lastV_yes k hl hv] at hx
   subst hx
   obtain ⟨b,o,rfl,hb,hcc⟩:=rd_mets hR0 (by omega)
   obtain ⟨q0,q1,q2,q3,q4,q5,q6⟩:=hcc k (by omega)
   obtain ⟨m,hm⟩:∃ m,l[k]'(by omega) = m:=⟨_,rfl⟩
   rw [hm] at q0 q1 q2 q3 q4 q5 q6 ⊢
   obtain ⟨m0,m1,m2,m3,m4,m5,m6⟩:=m
   dsimp only at q0 q1 q2 q3 q4 q5 q6
   have hwz:=HB.size
   clear hm hcc hl hv h hR0
   go_enter Tryz.func78,Tryz.ntmps78
   go_wp2_with fail
   rw [hHW.out]
   refine C.mono ?_
   clear C
   rintro e w1 ⟨rfl,hb1⟩
   have cells:=fun o' (h:b < w0.heap.size)=>hb1.cell (p:=⟨b,o',none⟩) h
   have hbw:b < w0.heap.size:=by omega
   have k0:=(cells (o + k * 7) hbw).trans q0
   have k1:=(cells (o + k * 7 + 1) hbw).trans q1
   have k2:=(cells (o + k * 7 + 2) hbw).trans q2
   have k3:=(cells (o + k * 7 + 3) hbw).trans q3
   have k4:=(cells (o + k * 7 + 4) hbw).trans q4
   have k5:=(cells (o + k * 7 + 5) hbw).trans q5
   have k6:=(cells (o + k * 7 + 6) hbw).trans q6
   replace bR:=bR.below hb1 bR.lt
   replace HB:=HB.trans (hb1.mono HB.size)
   obtain ⟨⟨c0,c1,c2,c3,c4,c5,c6⟩,f0,f1,f2,f3,f4,f5,f6⟩:=blk7f bR
   clear hb1 cells q0 q1 q2 q3 q4 q5 q6
   go_wp2_with fail
   refine bodyPost_ret (results_row2 rfl _ _ w.heap.size 33 (mc ⟨m0,m1,m2,m3,m4,m5,m6⟩) (0,0) _ rfl (set7 bR _ _ _ _ _ _ _) Tryz.underlying33 rfl (by kernel_rfl)) rfl ?_
   exact ⟨rfl,low7 HB (Nat.le_refl _) _ _ _ _ _ _ _⟩
  ·rw [lastV_no (.inr (by rw [hv];exact hv0))] at hx
   subst hx
   have hvb:(v != 0) = true:=by simp [hv0]
   clear hl hv hv0 h hR0
   go_enter Tryz.func78,Tryz.ntmps78
   go_wp2_with fail
   rw [hHW.out]
   refine C.mono ?_
   clear C
   rintro e w1 ⟨rfl,hb1⟩
   replace bR:=bR.below hb1 bR.lt
   replace HB:=HB.trans (hb1.mono HB.size)
   obtain ⟨⟨c0,c1,c2,c3,c4,c5,c6⟩,f0,f1,f2,f3,f4,f5,f6⟩:=blk7f bR
   clear hb1
   go_wp2_with fail
   refine bodyPost_ret (results_row2 rfl _ _ w.heap.size 33 (mc meZ) (0,0) _ rfl (set7 bR _ _ _ _ _ _ _) Tryz.underlying33 rfl (by kernel_rfl)) rfl ?_
   exact ⟨rfl,low7 HB (Nat.le_refl _) _ _ _ _ _ _ _⟩
theorem lastV_ok {l:List Me} (h:(lastV l).2 = true):aloneB (lastV l).1 = true:=by
 unfold lastV at h ⊢
 by_cases hc:l.length = 0 ∨ blocksV l ≠ 0
 ·rw [if_pos hc] at h;cases h
 ·rw [if_neg hc]
  have h1:blocksV l = 0:=by
   by_cases e:blocksV l = 0
   ·exact e
   ·exact absurd (.inr e) hc
  have h2:l.length - 1 < l.length:=by omega
  rw [List.getElem?_eq_getElem h2]
  exact (blocksV_ok h1).2.2 _ (List.getElem_mem h2)
theorem Next_any (i g f:Int) (A:Option Addr) (n c:Nat) (l:List Me) (w:World) (h:Rd w w.heap.size 7 A n (mcells l)) (hn:n≤1000000) (v:Int) (hv:nextV f l = v) :
 Calls Tryz.prog 30 #[.agg #[.int .i64 i,.int .i64 g,.int .i64 f],.slice A n c] w fun e w'=>e = .returned (.int .i64 v)∧Below w.heap.size w w':=by
 obtain ⟨w0,hw0⟩:∃ w0,w.alloc (.cells #[.int .i64 i,.int .i64 g,.int .i64 f] 23) = w0:=⟨_,rfl⟩
 have bH:Blk w0 w.heap.size 23 #[.int .i64 i,.int .i64 g,.int .i64 f]:=by rw [← hw0];exact Blk.new _ _ _
 have HB:Below w.heap.size w w0:=by rw [← hw0];exact (Below.refl w.heap.size w).alloc (Nat.le_refl _) _
 have hHW:=Lib.hid hw0
 unfold nextV at hv
 have hok:=lastV_ok (l:=l)
 obtain ⟨x,hx⟩:∃ x,lastV l = x:=⟨_,rfl⟩
 have C:=last_any A n c l w0 ((h.below HB).more HB.size) hn x hx
 rw [hx] at hv hok
 obtain ⟨⟨m0,m1,m2,m3,m4,m5,m6⟩,b⟩:=x
 dsimp only at hv hok C
 clear hx hw0 h
 have hmc:mc ⟨m0,m1,m2,m3,m4,m5,m6⟩ = #[.int .i64 m0,.int .i64 m1,.int .i64 m2,.int .i64 m3,.int .i64 m4,.int .i64 m5,.int .i64 m6]:=rfl
 rw [hmc] at C
 clear hmc
 cases b with
 | true =>
  rw [if_pos rfl] at hv
  subst hv
  have ha:=hok rfl
  rw [aloneB_iff] at ha
  dsimp only at ha
  have hw:IntKind.i64.wrap (m4 + m3) = m4 + m3:=w64s (by omega) (by omega)
  clear ha hok
  go_enter Tryz.func30,Tryz.ntmps30
  go_wp2_with fail
  rw [hHW.out]
  refine C.mono ?_
  clear C
  rintro e w1 ⟨rfl,hb1⟩
  replace HB:=(HB.trans (hb1.mono HB.size)).alloc (HB.trans (hb1.mono HB.size)).size (.cells #[.int .i64 m0,.int .i64 m1,.int .i64 m2,.int .i64 m3,.int .i64 m4,.int .i64 m5,.int .i64 m6] 33)
  clear hb1 bH
  go_wp2_with fail
  go_ret
  exact ⟨rfl,HB⟩
 | false =>
  rw [if_neg (by decide)] at hv
  subst hv
  clear hok
  go_enter Tryz.func30,Tryz.ntmps30
  go_wp2_with fail
  rw [hHW.out]
  refine C.mono ?_
  clear C
  rintro e w1 ⟨rfl,hb1⟩
  replace bH:=(bH.below hb1 bH.lt).alloc (.cells #[.int .i64 m0,.int .i64 m1,.int .i64 m2,.int .i64 m3,.int .i64 m4,.int .i64 m5,.int .i64 m6] 33)
  replace HB:=(HB.trans (hb1.mono HB.size)).alloc (HB.trans (hb1.mono HB.size)).size (.cells #[.int .i64 m0,.int .i64 m1,.int .i64 m2,.int .i64 m3,.int .i64 m4,.int .i64 m5,.int .i64 m6] 33)
  clear hb1
  have c2:=bH.cell_ 2 rfl
  go_wp2_with fail
  go_ret
  exact ⟨rfl,HB⟩
theorem Same_any (A A2:Option Addr) (n c c2:Nat) (l:List Me) (w:World) (h:Rd w w.heap.size 7 A n (mcells l)) (h2:Rd w w.heap.size 7 A2 n (mcells l)) (hn:n≤1000000) :
 Calls Tryz.prog 9 #[.slice A n c,.slice A2 n c2] w fun e w'=>e = .returned (.bool true)∧Below w.heap.size w w':=by
 have HL:=Lib.hid (rd_mlen h)
 go_enter Tryz.func9,Tryz.ntmps9
 go_wp2_with fail
 go_loopw [5] (fun iv wr=>∃ k:Nat,iv = .int .i64 k∧k≤n∧Below w.heap.size w wr) (fun iv _=>n - (intOf iv).toNat)
 case atStart=>exact ⟨0,rfl,by omega,Below.refl _ _⟩
 case round =>
  obtain ⟨k,rfl,hk,HB⟩:=hrel
  by_cases hlt:k < n
  ·have hkl:k < l.length:=by rw [HL.out];exact hlt
   obtain ⟨b,o,rfl,hb,hcc⟩:=rd_mets (h.below HB) (by omega)
   obtain ⟨b2,o2,rfl,hb2,hcc2⟩:=rd_mets (h2.below HB) (by omega)
   obtain ⟨q0,q1,q2,q3,q4,q5,q6⟩:=hcc k hkl
   obtain ⟨p0,p1,p2,p3,p4,p5,p6⟩:=hcc2 k hkl
   obtain ⟨m,hm⟩:∃ m,l[k] = m:=⟨_,rfl⟩
   rw [hm] at q0 q1 q2 q3 q4 q5 q6 p0 p1 p2 p3 p4 p5 p6
   obtain ⟨m0,m1,m2,m3,m4,m5,m6⟩:=m
   dsimp only at q0 q1 q2 q3 q4 q5 q6 p0 p1 p2 p3 p4 p5 p6
   have hkI:(k:Int) < (n:Int):=by omega
   have hk0:(0:Int)≤(k:Int):=by omega
   have hk1:IntKind.i64.wrap ((k:Int) + 1) = (k:Int) + 1:=w64s (by omega) (by omega)
   have hN:∀ nq,Below wr.heap.size wr (wr.drewN nq):=fun nq=>(Below.refl _ wr).drewN_ nq
   clear hm hcc hcc2
   go_wp2_with fail
   go_quiet (fail)
   go_wp2_with fail
   go_roundw
   case rel=>exact ⟨k + 1,by go_num,by omega,HB.drewN_ _⟩
   case measure=>simp [intOf];omega
  ·have hkI:¬ (k:Int) < (n:Int):=by omega
   go_wp2_with fail
   go_ret
   exact ⟨rfl,HB⟩
end ScaW
end Go.Proofs.YtnpncpoiiikafaaGreat
namespace Go.Proofs.YtnpncpoiiikafaaGreat
open Go.RowKit
namespace FraW
open SufW (w64s)
def inU (x:Int):Prop:=0≤x∧x < 4294967296
def halfV (x:Int):Int:=if (bits BinOp.and .u32 x 1 == 1) = true then bits BinOp.xor .u32 (x / 2) 3988292384 else x / 2
theorem half_in {x:Int} (h:inU x):inU (halfV x):=by
 obtain ⟨h0,h1⟩:=h
 unfold halfV
 split
 ·have a:=bits_lo_u32 BinOp.xor (x / 2) 3988292384
  have b:=bits_hi_u32 BinOp.xor (x / 2) 3988292384
  exact ⟨by omega,by omega⟩
 ·exact ⟨by omega,by omega⟩
theorem half_any (x:Int) (h:inU x) (w:World) :
 Calls Tryz.prog 170 #[.int .u32 x] w fun e w'=>e = .returned (.int .u32 (halfV x))∧w' = w:=by
 obtain ⟨h0,h1⟩:=h
 by_cases hb:(bits BinOp.and .u32 x 1 == 1) = true
 ·have e:halfV x = bits BinOp.xor .u32 (x / 2) 3988292384:=if_pos hb
  rw [e]
  go_enter Tryz.func170,Tryz.ntmps170
  go_wp2_with fail
  go_ret
  exact ⟨rfl,rfl⟩
 ·have e:halfV x = x / 2:=if_neg hb
  rw [e]
  have hb2:(bits BinOp.and .u32 x 1 == 1) = false:=by simpa using hb
  clear hb
  go_enter Tryz.func170,Tryz.ntmps170
  go_wp2_with fail
  go_ret
  exact ⟨rfl,rfl⟩
def us (l:List Int):List Value:=l.map (Value.int .u32)
theorem us_len (l:List Int):(us l).length = l.length:=by simp [us]
theorem us_at (l:List Int) (i:Nat) (x:Int) (h:l[i]? = some x):(us l)[i]? = some (.int .u32 x):=by simp [us,h]
theorem us_set (l:List Int) (s:Nat) (x:Int):(us l).toArray.setIfInBounds s (.int .u32 x) = (us (l.set s x)).toArray:=by
 simp [us,List.map_set]
def halfN:Nat → Int → Int
 | 0,x=>x
 | n + 1,x=>halfN n (halfV x)
def tabN (k:Nat):List Int:=(List.range 256).map fun i=>if i < k then halfN 8 i else 0
def tabV:List Int:=tabN 256
theorem tabN_len (k:Nat):(tabN k).length = 256:=by simp [tabN]
theorem tabN_zero:tabN 0 = List.replicate 256 0:=by
 apply List.ext_getElem?
 intro i
 by_cases h:i < 256
 ·have e:(tabN 0)[i]? = some (if i < 0 then halfN 8 i else 0):=by simp only [tabN,List.getElem?_map,List.getElem?_range h,Option.map_some]
  rw [e,if_neg (Nat.not_lt_zero i),List.getElem?_replicate,if_pos h]
 ·rw [List.getElem?_eq_none (by rw [tabN_len];omega),List.getElem?_eq_none (by rw [List.length_replicate];omega)]
theorem tabN_at (k i:Nat) (h:i < 256):(tabN k)[i]? = some (if i < k then halfN 8 i else 0):=by simp [tabN,h]
theorem tabN_succ (k:Nat) (h:k < 256):tabN (k + 1) = (tabN k).set k (halfN 8 k):=by
 apply List.ext_getElem?
 intro i
 by_cases hi:i < 256
 ·rw [List.getElem?_set,tabN_at _ _ hi,tabN_at _ _ hi,tabN_len]
  by_cases e:k = i
  ·subst e;rw [if_pos (by omega),if_pos rfl,if_pos h]
  ·rw [if_neg e]
   by_cases c:i < k
   ·rw [if_pos (by omega),if_pos c]
   ·rw [if_neg (by omega),if_neg c]
 ·rw [List.getElem?_eq_none (by rw [tabN_len];omega),List.getElem?_eq_none (by rw [List.length_set,tabN_len];omega)]
def idxU (x y:Int):Int:=bits BinOp.xor .u8 (x % 256) y
def restV (T:List Int) (x:Int) (y:UInt8):Int:=bits BinOp.xor .u32 (x / 256) (T[(idxU x (y.toNat:Int)).toNat]?.getD 0)
theorem rest_in (T:List Int) (x:Int) (y:UInt8):inU (restV T x y):=⟨bits_lo_u32 _ _ _,by have:=bits_hi_u32 BinOp.xor (x / 256) (T[(idxU x (y.toNat:Int)).toNat]?.getD 0);unfold restV;omega⟩
theorem rest_any (g:Nat) (T:List Int) (x:Int) (y:UInt8) (w:World) (B:Blk w g 192 (us T).toArray) (hT:T.length = 256) (hx:inU x) :
 Calls Tryz.prog 194 #[.pointer (some ⟨g,0,none⟩),.int .u32 x,.int .u8 (y.toNat:Int)] w fun e w'=>e = .returned (.int .u32 (restV T x y))∧w' = w:=by
 obtain ⟨hx0,hx1⟩:=hx
 have hi0:=bits_lo_u8 BinOp.xor (x % 256) (y.toNat:Int)
 have hi1:=bits_hi_u8 BinOp.xor (x % 256) (y.toNat:Int)
 have hi2:bits BinOp.xor .u8 (x % 256) (y.toNat:Int) < 256:=by omega
 have hlt:(bits BinOp.xor .u8 (x % 256) (y.toNat:Int)).toNat < T.length:=by omega
 have cx:w.cell? ⟨g,(bits BinOp.xor .u8 (x % 256) (y.toNat:Int)).toNat,none⟩ = some (.int .u32 (T[(bits BinOp.xor .u8 (x % 256) (y.toNat:Int)).toNat]?.getD 0)):=by
  rw [B.cell,List.getElem?_toArray]
  refine us_at _ _ _ ?_
  rw [List.getElem?_eq_getElem hlt]
  rfl
 unfold restV idxU
 generalize T[(bits BinOp.xor .u8 (x % 256) (y.toNat:Int)).toNat]?.getD 0 = z at *
 generalize (y.toNat:Int) = yy at *
 generalize hj:bits BinOp.xor .u8 (x % 256) yy = j at *
 have HJ:bits BinOp.xor .u8 (x % 256) yy = j:=hj
 clear hj hlt B hT hi1
 go_enter Tryz.func194,Tryz.ntmps194
 go_wp2_with fail
 go_ret
 exact ⟨rfl,rfl⟩
theorem Table_any (w:World) :
 Calls Tryz.prog 128 #[] w fun e w'=>e = .returned (.agg (us tabV).toArray)∧Below w.heap.size w w':=by
 have hz:Tryz.zeroCells192 = (us (List.replicate 256 0)).toArray:=by kernel_rfl
 have HZ:=Lib.hid hz
 clear hz
 go_enter Tryz.func128,Tryz.ntmps128
 go_wp2_with fail
 obtain ⟨s0,hs0⟩:∃ s0,w.heap.size = s0:=⟨_,rfl⟩
 obtain ⟨w2,hw2⟩:∃ w2,(w.alloc (.cells Tryz.zeroCells192 192)).alloc (.cells Tryz.zeroCells192 192) = w2:=⟨_,rfl⟩
 have B0:Blk w2 s0 192 (us (List.replicate 256 0)).toArray:=by
  rw [← hw2,← hs0,← HZ.out];exact (Blk.new w _ _).alloc _
 have B1:Blk w2 (s0 + 1) 192 (us (tabN 0)).toArray:=by
  rw [tabN_zero,← hw2,← hs0,← HZ.out]
  have:=Blk.new (w.alloc (.cells Tryz.zeroCells192 192)) 192 Tryz.zeroCells192
  rw [World.size_alloc] at this
  exact this
 have HB:Below w.heap.size w w2:=by rw [← hw2];exact ((Below.refl w.heap.size w).alloc (Nat.le_refl _) _).alloc (by simp) _
 rw [hw2]
 rw [hs0] at HB ⊢
 have HS0:=Lib.hid hs0
 clear hw2 hs0
 go_loopw [5] (fun iv wr=>∃ k:Nat,iv = .int .i64 k∧k≤256∧Blk wr s0 192 (us (List.replicate 256 0)).toArray∧Blk wr (s0 + 1) 192 (us (tabN k)).toArray∧Below s0 w wr) (fun iv _=>256 - (intOf iv).toNat)
 case atStart=>exact ⟨0,rfl,by omega,B0,B1,HB⟩
 case round =>
  clear B0 B1 HB
  obtain ⟨k,rfl,hk,B0,B1,HB⟩:=hrel
  by_cases hlt:k < 256
  ·have hkI:(k:Int) < 256:=by omega
   have hk0:(0:Int)≤(k:Int):=by omega
   have hk1:IntKind.i64.wrap ((k:Int) + 1) = (k:Int) + 1:=w64s (by omega) (by omega)
   have hkw:IntKind.u32.wrap (k:Int) = (k:Int):=by rw [IntKind.wrap_u32];omega
   have hkm:(k:Int) % 4294967296 = (k:Int):=by omega
   have HS:=Lib.hid (tabN_succ k hlt)
   go_wp2_with fail
   obtain ⟨V0,hV0⟩:∃ V,V = wr:=⟨wr,rfl⟩
   subst hV0
   go_loopw [4,10] (fun cv jv wq=>∃ (j:Nat) (x:Int),jv = .int .i64 j∧cv = .int .u32 x∧j≤8∧inU x∧Hid (halfN 8 (k:Int) = halfN (8 - j) x)∧wq = V0) (fun _ jv _=>8 - (intOf jv).toNat)
   case atStart=>exact ⟨0,k,rfl,rfl,by omega,⟨by omega,by omega⟩,Lib.hid rfl,rfl⟩
   case round =>
    obtain ⟨j,x,rfl,rfl,hj,hx,HX,hwq⟩:=hrel
    subst hwq
    by_cases hjl:j < 8
    ·have hjI:(j:Int) < 8:=by omega
     have hj1:IntKind.i64.wrap ((j:Int) + 1) = (j:Int) + 1:=w64s (by omega) (by omega)
     have C:=fun w=>half_any x hx w
     have HC:=Lib.hid C
     have hcn:∀ args w,(callFunc 170 args).run Tryz.prog w = .ok (.enter 170 args) w:=fun args w=>run_enter Tryz.func170 (by kernel_rfl) rfl args w
     have HX2:Hid (halfN 8 (k:Int) = halfN (8 - (j + 1)) (halfV x)):=Lib.hid (by rw [HX.out,show 8 - j = (8 - (j + 1)) + 1 by omega];rfl)
     have HI:=Lib.hid (half_in hx)
     clear C hx HX
     go_wp2_with fail
     refine (HC.out _).mono ?_
     rintro e w3 ⟨rfl,rfl⟩
     go_wp2_with fail
     go_roundw
     case rel=>exact ⟨j + 1,halfV x,by go_num,rfl,by omega,HI.out,HX2,by first | rfl | trivial⟩
     case measure=>simp [intOf];omega
    ·have hjI:¬ (j:Int) < 8:=by omega
     have hxv:halfN 8 (k:Int) = x:=by rw [HX.out,show 8 - j = 0 by omega];rfl
     have HXV:=Lib.hid hxv
     obtain ⟨v0,cx⟩:∃ v,wr.cell? ⟨s0 + 1,k,none⟩ = some v:=by
      rw [B1.cell,List.getElem?_toArray]
      exact ⟨_,us_at _ _ _ (tabN_at k k hlt)⟩
     have fz:=B1.frozen k
     have lt1:=B1.lt
     have b2:=B1.set k (.int .u32 x)
     rw [us_set,← hxv,← HS.out] at b2
     have b0:=B0.far (p:=⟨s0 + 1,k,none⟩) (by dsimp only;omega) (.int .u32 x)
     have HB2:=HB.setCell (p:=⟨s0 + 1,k,none⟩) (by dsimp only;omega) (.int .u32 x)
     rw [hxv] at b2
     clear hxv HX hx
     go_wp2_with fail
     go_roundw
     case rel=>exact ⟨k + 1,by go_num,by omega,b0,b2,HB2⟩
     case measure=>simp [intOf];omega
  ·have hkI:¬ (k:Int) < 256:=by omega
   have hk6:k = 256:=by omega
   subst hk6
   have hsz:(Tryz.prog.info? 192).map (·.size) = some (us tabV).toArray.size:=by
    have h:(Tryz.prog.info? 192).map (·.size) = some 256:=by kernel_rfl
    rw [h,List.size_toArray,us_len,tabV,tabN_len]
   have B1':Blk wr (s0 + 1) 192 (us tabV).toArray:=B1
   clear B1
   go_wp2_with fail
   refine wp_load_row 192 (.tmp 2) rfl (s0 + 1) rfl 192 _ (0,0) _ B1' Tryz.underlying192 rfl hsz ?_
   obtain ⟨ds,hds⟩:∃ ds,(us tabV).toArray = ds:=⟨_,rfl⟩
   rw [hds] at B1' hsz ⊢
   have hdz:ds.size = 256:=by rw [← hds,List.size_toArray,us_len,tabV,tabN_len]
   have hst:(storeCells ⟨s0,0,none⟩ ds.toList).run Tryz.prog wr = .ok () (wr.setRow s0 ds):=by
    have:=run_storeCells_from (P:=Tryz.prog) s0 192 ds.toList 0 _ wr B0 (by rw [List.size_toArray,us_len,Array.length_toList,hdz];simp) (fun v hv=>by
     rw [← hds,List.toList_toArray] at hv
     obtain ⟨y,_,rfl⟩:=List.mem_map.1 hv
     rfl)
    simpa using this
   have HB3:Below s0 w (wr.setRow s0 ds):=below_setRow HB (by omega) ds
   have B3:Blk (wr.setRow s0 ds) s0 192 ds:=setRow_heap wr s0 _ ds _ _ B0
   have HDS:=Lib.hid hds
   clear hds B0 B1' HB
   go_wp2_with fail
   rw [HDS.out]
   refine bodyPost_ret (v:=.agg ds) ?_ rfl ⟨rfl,HS0.out ▸ HB3⟩
   exact results_cell_row Tryz.results128 _ _ s0 192 ds (0,0) _ rfl B3 Tryz.underlying192 rfl hsz
end FraW
end Go.Proofs.YtnpncpoiiikafaaGreat
