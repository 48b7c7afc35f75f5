/- RecQ -/
import Derived.Test.YtnpncpoiiikafaaGreatRecSQd
import Derived.Test.YtnpncpoiiikafaaGreatRecKQd
import Derived.Test.YtnpncpoiiikafaaGreatSqUQd
import Derived.Test.YtnpncpoiiikafaaGreatBloQQd
import Derived.Deep.QuietTactic
import Derived.BigQuiet
import Derived.Test.YtnpncpoiiikafaaGreatMemQd
import Derived.ScopeJumps
import Derived.Test.YtnpncpoiiikafaaGreatReg2Qd
import Derived.Deep.OwnRows
import Derived.Laws.EntriesVeiled
set_option linter.unusedVariables false
set_option linter.unusedSimpArgs false
set_option linter.unnecessarySimpa false
set_option maxRecDepth 100000
set_option maxHeartbeats 32000000
namespace Go.Proofs.YtnpncpoiiikafaaGreat
open VarW
theorem getR_put (p r:List UInt8) (x:Rc) (h:okR x = true):getR (p ++ (putR x ++ r)) (p.length:Nat) = (x,((p.length + (putR x).length:Nat):Int),0):=by
 obtain ⟨h1,h2,h3,h4,h5⟩:=(okR_iff x).1 h
 obtain ⟨a,b,d⟩:=x
 dsimp only at h1 h2 h3 h4 h5
 obtain ⟨a,rfl⟩:=Int.eq_ofNat_of_zero_le (show 0≤a by omega)
 obtain ⟨b,rfl⟩:=Int.eq_ofNat_of_zero_le h3
 have e0:putR ((a:Int),(b:Int),d) = vbytes a ++ (vbytes b ++ (vbytes d.length ++ d)):=rfl
 have hl:(putR ((a:Int),(b:Int),d)).length = vlen a + (vlen b + (vlen d.length + d.length)):=by rw [e0];simp [vbytes_len]
 have s0:p ++ (putR ((a:Int),(b:Int),d) ++ r) = p ++ (vbytes a ++ (vbytes b ++ (vbytes d.length ++ (d ++ r)))):=by rw [e0];simp
 have g1:getV (p ++ (putR ((a:Int),(b:Int),d) ++ r)) (p.length:Nat) = ((a:Int),((p.length + vlen a:Nat):Int),0):=by rw [s0];exact getV_put _ _ a (by omega)
 have s1:p ++ (putR ((a:Int),(b:Int),d) ++ r) = (p ++ vbytes a) ++ (vbytes b ++ (vbytes d.length ++ (d ++ r))):=by rw [s0];simp
 have l1:(p ++ vbytes a).length = p.length + vlen a:=by simp [vbytes_len]
 have g2:getV (p ++ (putR ((a:Int),(b:Int),d) ++ r)) ((p.length + vlen a:Nat):Int) = ((b:Int),((p.length + vlen a + vlen b:Nat):Int),0):=by
  rw [s1,← l1,getV_put _ _ b (by omega)]
 have s2:p ++ (putR ((a:Int),(b:Int),d) ++ r) = (p ++ vbytes a ++ vbytes b) ++ (vbytes d.length ++ (d ++ r)):=by rw [s0];simp
 have l2:(p ++ vbytes a ++ vbytes b).length = p.length + vlen a + vlen b:=by simp [vbytes_len];omega
 have g3:getV (p ++ (putR ((a:Int),(b:Int),d) ++ r)) ((p.length + vlen a + vlen b:Nat):Int) = ((d.length:Int),((p.length + vlen a + vlen b + vlen d.length:Nat):Int),0):=by
  rw [s2,← l2,getV_put _ _ d.length (by omega)]
 have s3:p ++ (putR ((a:Int),(b:Int),d) ++ r) = (p ++ vbytes a ++ vbytes b ++ vbytes d.length) ++ (d ++ r):=by rw [s0];simp
 have l3:(p ++ vbytes a ++ vbytes b ++ vbytes d.length).length = p.length + vlen a + vlen b + vlen d.length:=by simp [vbytes_len];omega
 rw [getR_6 g1 rfl g2 rfl g3 rfl (by dsimp only;omega) (by rw [List.length_append,List.length_append,hl];dsimp only;omega)]
 dsimp only
 rw [Int.toNat_natCast,Int.toNat_natCast,s3,← l3,List.drop_left,List.take_left,l3,hl]
 refine Prod.ext rfl (Prod.ext ?_ rfl)
 dsimp only
 omega
theorem take_cut (s:List UInt8) (a b c:Nat) (h:a≤b) (h2:b≤c):(s.drop a).take (b - a) ++ (s.drop b).take (c - b) = (s.drop a).take (c - a):=by
 rw [show c - a = (b - a) + (c - b) from by omega,List.take_add,List.drop_drop,show a + (b - a) = b from by omega]
theorem getR_inv {s:List UInt8} {a:Nat} (h:(getR s a).2.2 = 0):putR (getR s a).1 = (s.drop a).take ((getR s a).2.1.toNat - a):=by
 obtain ⟨x,hx⟩:∃ x,getV s a = x:=⟨_,rfl⟩
 by_cases h1:x.2.2 = 0
 ·obtain ⟨y,hy⟩:∃ y,getV s x.2.1 = y:=⟨_,rfl⟩
  have k1:=getV_ok (s:=s) (a:=a) (by rw [hx];exact h1)
  have i1:=getV_inv (s:=s) (a:=a) (by rw [hx];exact h1)
  rw [hx] at k1 i1
  by_cases h2:y.2.2 = 0
  ·obtain ⟨u,hu⟩:∃ u,getV s y.2.1 = u:=⟨_,rfl⟩
   have k2:=getV_ok (s:=s) (a:=x.2.1) (by rw [hy];exact h2)
   have i2:=getV_inv (s:=s) (a:=x.2.1) (by rw [hy];exact h2)
   rw [hy] at k2 i2
   by_cases h3:u.2.2 = 0
   ·have k3:=getV_ok (s:=s) (a:=y.2.1) (by rw [hu];exact h3)
    have i3:=getV_inv (s:=s) (a:=y.2.1) (by rw [hu];exact h3)
    rw [hu] at k3 i3
    by_cases h4:x.1 < 1 ∨ 1000000000 < x.1 ∨ 1000000000 < y.1 ∨ 2000 < u.1
    ·rw [getR_4 hx h1 hy h2 hu h3 h4] at h;simp at h
    ·by_cases h5:(s.length:Int) < u.2.1 + u.1
     ·rw [getR_5 hx h1 hy h2 hu h3 h4 h5] at h;simp at h
     ·rw [getR_6 hx h1 hy h2 hu h3 h4 h5]
      clear hx hy hu h
      obtain ⟨x0,x1,x2⟩:=x;obtain ⟨y0,y1,y2⟩:=y;obtain ⟨u0,u1,u2⟩:=u
      dsimp only at k1 k2 k3 i1 i2 i3 h4 h5 ⊢
      obtain ⟨x1,rfl⟩:=Int.eq_ofNat_of_zero_le (show 0≤x1 by omega)
      obtain ⟨y1,rfl⟩:=Int.eq_ofNat_of_zero_le (show 0≤y1 by omega)
      obtain ⟨u1,rfl⟩:=Int.eq_ofNat_of_zero_le (show 0≤u1 by omega)
      obtain ⟨u0,rfl⟩:=Int.eq_ofNat_of_zero_le (show 0≤u0 by omega)
      simp only [Int.toNat_natCast] at i1 i2 i3 ⊢
      rw [show ((x1:Int) - (a:Int)).toNat = x1 - a from by omega] at i1
      rw [show ((y1:Int) - (x1:Int)).toNat = y1 - x1 from by omega] at i2
      rw [show ((u1:Int) - (y1:Int)).toNat = u1 - y1 from by omega] at i3
      have hlen:((s.drop u1).take u0).length = u0:=by rw [List.length_take,List.length_drop];omega
      show vbytes x0.toNat ++ (vbytes y0.toNat ++ (vbytes ((s.drop u1).take u0).length ++ (s.drop u1).take u0)) = _
      rw [hlen,i1,i2,i3,show ((u1:Int) + (u0:Int)).toNat = u1 + u0 from by omega]
      have e3:(s.drop y1).take (u1 - y1) ++ (s.drop u1).take u0 = (s.drop y1).take (u1 + u0 - y1):=by
       have:=take_cut s y1 u1 (u1 + u0) (by omega) (by omega)
       rwa [show u1 + u0 - u1 = u0 from by omega] at this
      rw [e3,take_cut s x1 y1 (u1 + u0) (by omega) (by omega),take_cut s a x1 (u1 + u0) (by omega) (by omega)]
   ·rw [getR_3 hx h1 hy h2 hu h3] at h;exact absurd h h3
  ·rw [getR_2 hx h1 hy h2] at h;exact absurd h h2
 ·rw [getR_1 hx h1] at h;exact absurd h h1
theorem flatR_cons (x:Rc) (l:List Rc):flatR (x :: l) = putR x ++ flatR l:=rfl
theorem splitF_put (l:List Rc) (hok:∀ r ∈ l,okR r = true):∀ (p:List UInt8) (f:Nat),(p ++ flatR l).length < p.length + f → splitF (p ++ flatR l) f (p.length:Nat) = (l,0):=by
 induction l with
 | nil=>intro p f _;rw [splitF_end (by simp [flatR])]
 | cons x l ih =>
  intro p f hf
  have hx:=hok x (by simp)
  have hl:=putR_len hx
  obtain ⟨f,rfl⟩:∃ g,f = g + 1:=⟨f - 1,by simp [flatR] at hf;omega⟩
  have hg:=getR_put p (flatR l) x hx
  rw [flatR_cons] at hf ⊢
  have hlt:(p.length:Int) < ((p ++ (putR x ++ flatR l)).length:Int):=by simp only [List.length_append];omega
  rw [splitF_yes (by exact_mod_cast hlt) (by rw [hg]),hg]
  dsimp only
  have e:p ++ (putR x ++ flatR l) = (p ++ putR x) ++ flatR l:=by simp
  have:=ih (fun r hr=>hok r (by simp [hr])) (p ++ putR x) f (by simp only [List.length_append] at hf ⊢;omega)
  rw [List.length_append] at this
  rw [e,this]
theorem joinV_cases (l:List Rc):(joinV l = (flatR l,0)∧rowN l = 0∧(flatR l).length≤20000) ∨ ((joinV l).2 ≠ 0∧(joinV l).1 = []):=by
 by_cases h:rowN l = 0
 ·by_cases h2:20000 < (flatR l).length
  ·rw [joinV_big h h2];exact .inr ⟨by simp,rfl⟩
  ·rw [joinV_yes h h2];exact .inl ⟨rfl,h,by omega⟩
 ·rw [joinV_bad h];exact .inr ⟨h,rfl⟩
theorem split_join {l:List Rc} (h:(joinV l).2 = 0):splitV (joinV l).1 = (l,0):=by
 rcases joinV_cases l with ⟨h1,h2,h3⟩ | ⟨h1,_⟩
 ·rw [h1]
  dsimp only
  unfold splitV
  rw [if_neg (by omega)]
  have:=splitF_put l (rowFrom_ok h2) [] ((flatR l).length + 1) (by simp)
  simp only [List.nil_append,List.length_nil] at this
  rw [show ((0:Nat):Int) = 0 from rfl] at this
  rw [this]
  unfold splitR
  rw [if_pos rfl,if_pos h2]
 ·exact absurd h h1
theorem splitF_inv (s:List UInt8) (f:Nat):∀ (a:Nat),a≤s.length → s.length < a + f → (splitF s f a).2 = 0 → flatR (splitF s f a).1 = s.drop a:=by
 induction f with
 | zero=>intro a h1 h2;omega
 | succ f ih =>
  intro a h1 h2 h
  by_cases hlt:(a:Int) < (s.length:Int)
  ·by_cases h0:(getR s a).2.2 = 0
   ·rw [splitF_yes hlt h0] at h ⊢
    have hok:=getR_ok h0
    have hinv:=getR_inv h0
    obtain ⟨tz,hto⟩:=Int.eq_ofNat_of_zero_le (show 0≤(getR s a).2.1 by omega)
    rw [hto] at hok hinv h ⊢
    dsimp only at h ⊢
    rw [Int.toNat_natCast] at hinv
    rw [flatR_cons,hinv,ih tz (by omega) (by omega) h]
    have:=List.take_append_drop (tz - a) (s.drop a)
    rwa [List.drop_drop,show a + (tz - a) = tz from by omega] at this
   ·rw [splitF_no hlt h0] at h
    exact absurd h h0
  ·rw [splitF_end hlt,List.drop_of_length_le (by omega)]
   rfl
theorem join_split {s:List UInt8} (h:(splitV s).2 = 0):joinV (splitV s).1 = (s,0):=by
 unfold splitV at h ⊢
 by_cases h1:20000 < s.length
 ·rw [if_pos h1] at h;cases h
 ·rw [if_neg h1] at h ⊢
  have hi:=splitF_inv s (s.length + 1) 0 (by omega) (by omega)
  rw [show ((0:Nat):Int) = 0 from rfl] at hi
  generalize splitF s (s.length + 1) 0 = q at *
  unfold splitR at h ⊢
  by_cases h2:q.2 = 0
  ·rw [if_pos h2] at h ⊢
   by_cases h3:rowN q.1 = 0
   ·rw [if_pos h3] at h ⊢
    dsimp only
    have:=hi h2
    rw [List.drop_zero] at this
    rw [joinV_yes h3 (by rw [this];exact h1),this]
   ·rw [if_neg h3] at h
    exact absurd h h3
  ·rw [if_neg h2] at h
   exact absurd h h2
end Go.Proofs.YtnpncpoiiikafaaGreat
namespace Go.Proofs.YtnpncpoiiikafaaGreat
namespace BloW
open SqW (unpackV packB unpack_pack)
open SufW (Sa letters)
def rawOf (h:Hd):List UInt8 × Int :=
 if h.mode = 1 then (if (unpackV h.body).2 = 0 then (if ((unpackV h.body).1.length:Int) = h.raw then ((unpackV h.body).1,0) else ([],5)) else ([],(unpackV h.body).2))
 else (if (h.body.length:Int) = h.raw then (h.body,0) else ([],5))
def fitsB (h:Hd) (l:List Rc):Bool:=decide ((l.length:Int) = h.cnt) && (decide ((l[0]?.getD (0,0,[])).1 = h.frst) && (decide ((l[0]?.getD (0,0,[])).2.1 = h.early) && decide ((l[l.length - 1]?.getD (0,0,[])).2.1 = h.late)))
def decR (h:Hd) (s:List UInt8):List Rc × Int :=
 if (splitV s).2 = 0 then (if fitsB h (splitV s).1 = true then ((splitV s).1,0) else ([],170)) else ([],(splitV s).2)
def decB (b:List UInt8):List Rc × Int :=
 if (peekV b).2 = 0 then (if (rawOf (peekV b).1).2 = 0 then decR (peekV b).1 (rawOf (peekV b).1).1 else ([],(rawOf (peekV b).1).2)) else ([],(peekV b).2)
theorem rawOf_len {h:Hd} (h0:(rawOf h).2 = 0):((rawOf h).1.length:Int) = h.raw:=by
 unfold rawOf at h0 ⊢
 by_cases h1:h.mode = 1
 ·rw [if_pos h1] at h0 ⊢
  by_cases h2:(unpackV h.body).2 = 0
  ·rw [if_pos h2] at h0 ⊢
   by_cases h3:((unpackV h.body).1.length:Int) = h.raw
   ·rw [if_pos h3];exact h3
   ·rw [if_neg h3] at h0;simp at h0
  ·rw [if_neg h2] at h0;exact absurd h0 h2
 ·rw [if_neg h1] at h0 ⊢
  by_cases h3:(h.body.length:Int) = h.raw
  ·rw [if_pos h3];exact h3
  ·rw [if_neg h3] at h0;simp at h0
theorem decB_ok {b:List UInt8} (h0:(decB b).2 = 0):(peekV b).2 = 0∧(rawOf (peekV b).1).2 = 0∧(splitV (rawOf (peekV b).1).1) = ((decB b).1,0)∧fitsB (peekV b).1 (decB b).1 = true∧decB b = ((decB b).1,0) ∧
 rowN (decB b).1 = 0∧0 < (decB b).1.length∧(flatR (decB b).1).length≤20000∧flatR (decB b).1 = (rawOf (peekV b).1).1:=by
 have hp:=h0
 unfold decB at hp
 by_cases h1:(peekV b).2 = 0
 ·rw [if_pos h1] at hp
  by_cases h2:(rawOf (peekV b).1).2 = 0
  ·rw [if_pos h2] at hp
   unfold decR at hp
   by_cases h3:(splitV (rawOf (peekV b).1).1).2 = 0
   ·rw [if_pos h3] at hp
    by_cases h4:fitsB (peekV b).1 (splitV (rawOf (peekV b).1).1).1 = true
    ·have e:decB b = ((splitV (rawOf (peekV b).1).1).1,0):=by unfold decB;rw [if_pos h1,if_pos h2];unfold decR;rw [if_pos h3,if_pos h4]
     have e1:(decB b).1 = (splitV (rawOf (peekV b).1).1).1:=by rw [e]
     have hj:=join_split h3
     obtain ⟨hm,_,_,_⟩:=peek_may h1
     have hf:=h4
     rw [← e1] at hj hf
     have hr:rowN (decB b).1 = 0∧(flatR (decB b).1).length≤20000∧flatR (decB b).1 = (rawOf (peekV b).1).1:=by
      rcases joinV_cases (decB b).1 with ⟨j1,j2,j3⟩ | ⟨j1,_⟩
      ·rw [hj] at j1
       exact ⟨j2,j3,(congrArg Prod.fst j1).symm⟩
      ·rw [hj] at j1;exact absurd rfl j1
     refine ⟨h1,h2,by rw [e1];exact Prod.ext rfl h3,hf,by rw [e1];exact e,hr.1,?_,hr.2.1,hr.2.2⟩
     simp only [fitsB,Bool.and_eq_true,decide_eq_true_eq] at hf
     simp only [mayB,Bool.and_eq_true,decide_eq_true_eq] at hm
     have h5:=hf.1
     omega
    ·rw [if_neg h4] at hp;simp at hp
   ·rw [if_neg h3] at hp;exact absurd hp h3
  ·rw [if_neg h2] at hp;exact absurd hp h2
 ·rw [if_neg h1] at hp;exact absurd hp h1
theorem dec_enc {l:List Rc} (hr:rowN l = 0) (hl:0 < l.length) (hraw:(flatR l).length≤20000) {md:UInt8} {bd:List UInt8} (hb:BodyOf (flatR l) md bd):decB (encB l md bd) = (l,0):=by
 have hmo:md = 0 ∨ md = 1:=by first | exact .inl hb.1 | exact hb.elim (fun h=>.inl h.1) (fun h=>.inr h.1)
 have hp:=peek_enc hr hl hraw md hmo bd
 have hrw:rawOf ⟨(md.toNat:Int),((flatR l).length:Nat),(l.length:Nat),(l[0]'hl).1,(l[0]'hl).2.1,(l[l.length - 1]'(by omega)).2.1,bd⟩ = (flatR l,0):=by
  unfold rawOf
  rcases hb with ⟨rfl,rfl⟩ | ⟨rfl,A,pr,hA,hpr,rfl⟩
  ·rw [if_neg (by show ¬ ((UInt8.toNat 0:Nat):Int) = 1;decide),if_pos rfl]
  ·rw [if_pos (by show ((UInt8.toNat 1:Nat):Int) = 1;decide)]
   dsimp only
   rw [unpack_pack _ A hA pr hpr hraw,if_pos rfl,if_pos rfl]
 have hs:splitV (flatR l) = (l,0):=by
  have hj:=joinV_yes hr (by omega:¬ 20000 < (flatR l).length)
  have:=split_join (l:=l) (by rw [hj])
  rwa [hj] at this
 have hf:fitsB ⟨(md.toNat:Int),((flatR l).length:Nat),(l.length:Nat),(l[0]'hl).1,(l[0]'hl).2.1,(l[l.length - 1]'(by omega)).2.1,bd⟩ l = true:=by
  have hl2:l.length - 1 < l.length:=by omega
  simp [fitsB,List.getElem?_eq_getElem hl,List.getElem?_eq_getElem hl2]
 unfold decB
 rw [hp]
 dsimp only
 rw [if_pos rfl,hrw]
 dsimp only
 rw [if_pos rfl]
 unfold decR
 rw [hs]
 dsimp only
 rw [if_pos rfl,if_pos hf]
end BloW
end Go.Proofs.YtnpncpoiiikafaaGreat
namespace Go.Proofs.YtnpncpoiiikafaaGreat
open Go.RowKit
namespace BloW
open SqW (unpackV Unpack_any)
open SufW (w64s)
theorem raw_any (h:Hd) (w:World) (hs:h.body.length≤100000) (x:List UInt8 × Int) (hx:rawOf h = x) :
 Calls Tryz.prog 45 #[.agg (hdA h)] w fun e w'=>e = .returned (.tuple #[str x.1,.int .i64 x.2])∧Below w.heap.size w w':=by
 obtain ⟨m,r,c,f,ea,l,b⟩:=h
 dsimp only at hs
 unfold rawOf at hx
 dsimp only at hx
 have B:=Blk.new w 93 (hcs 0 0 m r c f ea l b)
 have HB:Below w.heap.size w (w.alloc (.cells (hcs 0 0 m r c f ea l b) 93)):=(Below.refl w.heap.size w).alloc (Nat.le_refl _) _
 obtain ⟨c0,c1,c2,c3,c4,c5,c6,c7,c8⟩:=blk9h B
 have hag:hdA ⟨m,r,c,f,ea,l,b⟩ = hcs 0 0 m r c f ea l b:=rfl
 rw [hag]
 by_cases hm:m = 1
 ·subst hm
  rw [if_pos rfl] at hx
  have C:=fun w=>Unpack_any b w hs _ rfl
  obtain ⟨y,hy⟩:∃ y,unpackV b = y:=⟨_,rfl⟩
  rw [hy] at hx C
  obtain ⟨yl,ye⟩:=y
  dsimp only at hx C
  have HX:=Lib.hid hx
  have HC:=Lib.hid C
  clear hx hy C
  go_enter Tryz.func45,Tryz.ntmps45
  go_wp2_with fail
  refine (HC.out _).mono ?_
  clear HC c0 c1 c2 c3 c4 c5 c6 c7 c8
  rintro e w1 ⟨rfl,hb1⟩
  replace B:=B.below hb1 B.lt
  replace HB:=HB.trans (hb1.mono HB.size)
  clear hb1
  have c2:w1.cell? ⟨w.heap.size,2,none⟩ = some (.int .i64 r):=B.cell_ 2 rfl
  by_cases h1:ye = 0
  ·subst h1
   have hx1:=HX.out
   rw [if_pos rfl] at hx1
   clear HX
   by_cases h2:(yl.length:Int) = r
   ·rw [if_pos h2] at hx1
    subst hx1
    have h2b:((yl.length:Int) != r) = false:=by simp [h2]
    go_wp2_with fail
    go_ret2
    exact ⟨rfl,HB⟩
   ·rw [if_neg h2] at hx1
    subst hx1
    have h2b:((yl.length:Int) != r) = true:=by simp [h2]
    go_wp2_with fail
    go_ret2
    exact ⟨rfl,HB⟩
  ·have hx1:=HX.out
   rw [if_neg h1] at hx1
   subst hx1
   have h1b:(ye != 0) = true:=by simp [h1]
   clear HX
   go_wp2_with fail
   go_ret2
   exact ⟨rfl,HB⟩
 ·rw [if_neg hm] at hx
  have hmb:(m == 1) = false:=by simp [hm]
  by_cases h2:(b.length:Int) = r
  ·rw [if_pos h2] at hx
   subst hx
   have h2b:((b.length:Int) != r) = false:=by simp [h2]
   go_enter Tryz.func45,Tryz.ntmps45
   go_wp2_with fail
   go_ret2
   exact ⟨rfl,HB⟩
  ·rw [if_neg h2] at hx
   subst hx
   have h2b:((b.length:Int) != r) = true:=by simp [h2]
   go_enter Tryz.func45,Tryz.ntmps45
   go_wp2_with fail
   go_ret2
   exact ⟨rfl,HB⟩
theorem fitsB_no (h:Hd) (l:List Rc) (r0 rk:Rc) (h0:l[0]? = some r0) (hk:l[l.length - 1]? = some rk) :
 fitsB h l = (decide ((l.length:Int) = h.cnt) && (decide (r0.1 = h.frst) && (decide (r0.2.1 = h.early) && decide (rk.2.1 = h.late)))):=by
 simp [fitsB,h0,hk]
theorem Decode_any (b:List UInt8) (w:World) (hs:b.length≤100000) (x:List Rc × Int) (hx:decB b = x) :
 Calls Tryz.prog 12 #[str b] w fun e w'=>∃ A n c,e = .returned (.tuple #[.slice A n c,.int .i64 x.2])∧n≤c∧Rd w' w'.heap.size 3 A n (rcells x.1)∧Below w.heap.size w w':=by
 have C:=peek_any b w (by omega) _ rfl
 have hbl:(peekV b).1.body.length≤100000:=by
  unfold peekV
  repeat' split
  all_goals simp only [hdZ,hdOf,List.length_drop,List.length_nil] <;> omega
 unfold decB at hx
 have hmay:=peek_may (b:=b)
 obtain ⟨p,hp⟩:∃ p,peekV b = p:=⟨_,rfl⟩
 rw [hp] at hx C hbl hmay
 obtain ⟨h,er⟩:=p
 dsimp only at hx C hbl hmay
 have HX:=Lib.hid hx
 have HM:=Lib.hid hmay
 clear hx hp hmay
 have hag:hdA h = #[.int .i64 0,.int .i64 0,.int .i64 h.raw,.int .i64 h.cnt,.int .i64 h.frst,.int .i64 h.early,.int .i64 h.late,.int .i64 h.mode,str h.body]:=rfl
 rw [hag] at C
 go_enter Tryz.func12,Tryz.ntmps12
 go_wp2_with fail
 refine C.mono ?_
 clear C
 rintro e w1 ⟨rfl,HB⟩
 obtain ⟨w2,hw2⟩:∃ w2,w1.alloc (.cells (hdA h) 93) = w2:=⟨_,rfl⟩
 have bH:Blk w2 w1.heap.size 93 (hdA h):=by rw [← hw2];exact Blk.new _ _ _
 have HB2:Below w.heap.size w w2:=by rw [← hw2];exact HB.alloc HB.size _
 have hw2':w1.alloc (.cells #[.int .i64 0,.int .i64 0,.int .i64 h.raw,.int .i64 h.cnt,.int .i64 h.frst,.int .i64 h.early,.int .i64 h.late,.int .i64 h.mode,str h.body] 93) = w2:=hw2
 have hws:=HB.size
 clear hw2 HB
 by_cases h0:er = 0
 ·subst h0
  have hx1:=HX.out
  rw [if_pos rfl] at hx1
  obtain ⟨hcnt,hrm,hcr⟩:1≤h.cnt∧h.raw≤20000∧h.cnt≤h.raw:=by
   have:=(HM.out rfl).1
   simp only [mayB,Bool.and_eq_true,decide_eq_true_eq] at this
   omega
  clear HX HM
  obtain ⟨c0,c1,c2,c3,c4,c5,c6,c7,c8⟩:=blk9h bH
  have C:=raw_any h w2 hbl _ rfl
  rw [hag] at C
  obtain ⟨y,hy⟩:∃ y,rawOf h = y:=⟨_,rfl⟩
  rw [hy] at hx1 C
  have hyl:=rawOf_len (h:=h)
  rw [hy] at hyl
  obtain ⟨yl,ye⟩:=y
  dsimp only at hx1 C hyl
  have HX1:=Lib.hid hx1
  have HY:=Lib.hid hyl
  clear hx1 hy hyl
  go_wp2_with fail
  refine C.mono ?_
  clear C c0 c1 c2 c3 c4 c5 c6 c7 c8 hw2'
  rintro e w3 ⟨rfl,hb3⟩
  replace bH:=bH.below hb3 bH.lt
  replace HB2:=HB2.trans (hb3.mono HB2.size)
  clear hb3
  by_cases h1:ye = 0
  ·subst h1
   have hx2:=HX1.out
   rw [if_pos rfl] at hx2
   unfold decR at hx2
   have hraw:=HY.out rfl
   have C:=RecW.split_any yl w3 (by omega) _ rfl
   obtain ⟨z,hz⟩:∃ z,splitV yl = z:=⟨_,rfl⟩
   rw [hz] at hx2 C
   obtain ⟨zl,ze⟩:=z
   dsimp only at hx2 C
   have HX2:=Lib.hid hx2
   clear hx2 hz HX1 HY hraw
   go_wp2_with fail
   refine C.mono ?_
   clear C
   rintro e w4 ⟨A,n,c,rfl,hnc,R,hb4⟩
   replace bH:=bH.below hb4 bH.lt
   replace HB2:=HB2.trans (hb4.mono HB2.size)
   clear hb4
   have hzl:zl.length = n:=rd_rlen R
   by_cases h2:ze = 0
   ·subst h2
    have hx3:=HX2.out
    rw [if_pos rfl] at hx3
    clear HX2
    obtain ⟨c0,c1,c2,c3,c4,c5,c6,c7,c8⟩:=blk9h bH
    by_cases k1:(n:Int) = h.cnt
    ·have hn0:0 < zl.length:=by omega
     obtain ⟨bb,o,rfl,hbb,hcc⟩:=R.at_ (by omega)
     obtain ⟨r0,hr0⟩:∃ r0,zl[0] = r0:=⟨_,rfl⟩
     obtain ⟨rk,hrk⟩:∃ rk,zl[zl.length - 1]'(by omega) = rk:=⟨_,rfl⟩
     have cell0:=rcells_get zl 0 hn0
     have cellk:=rcells_get zl (zl.length - 1) (by omega)
     rw [hr0] at cell0
     rw [hrk,hzl] at cellk
     rw [fitsB_no h zl r0 rk (by rw [List.getElem?_eq_getElem hn0,hr0]) (by rw [List.getElem?_eq_getElem (by omega),hrk]),hzl,decide_eq_true k1,Bool.true_and] at hx3
     have key:∀ i v,(rcells zl)[i]? = some v → w4.cell? ⟨bb,o + i,none⟩ = some v:=by
      intro i v hv
      obtain ⟨h1,h2⟩:=List.getElem?_eq_some_iff.1 hv
      rw [hcc i h1,h2]
     obtain ⟨k,rfl⟩:∃ k,n = k + 1:=⟨n - 1,by omega⟩
     rw [Nat.add_sub_cancel] at cellk
     have d0:w4.cell? ⟨bb,o,none⟩ = some (.int .i64 r0.1):=by simpa using key _ _ cell0.1
     have d1:w4.cell? ⟨bb,o + 1,none⟩ = some (.int .i64 r0.2.1):=by simpa using key _ _ cell0.2.1
     have d2:w4.cell? ⟨bb,o + k * 3,none⟩ = some (.int .i64 rk.1):=key _ _ cellk.1
     have d3:w4.cell? ⟨bb,o + k * 3 + 1,none⟩ = some (.int .i64 rk.2.1):=by simpa [Nat.add_assoc] using key _ _ cellk.2.1
     have hk0:((k + 1:Nat):Int) = (k:Int) + 1:=rfl
     have hkw:IntKind.i64.wrap (k:Int) = (k:Int):=w64s (by omega) (by omega)
     have hkk:(k:Int) < (k:Int) + 1:=by omega
     have hkk0:(0:Int)≤(k:Int):=by omega
     have hN:∀ nq,Below w4.heap.size w4 (w4.drewN nq):=fun nq=>(Below.refl _ w4).drewN_ nq
     have k1b:(((k:Int) + 1) != h.cnt) = false:=by simp;omega
     have HR:=Lib.hid R
     have HZ:=Lib.hid hzl
     clear R key hcc cell0 cellk hrk hr0 k1 hk0 hcnt hcr hzl
     by_cases k2:r0.1 = h.frst
     ·rw [decide_eq_true k2,Bool.true_and] at hx3
      have k2b:(r0.1 != h.frst) = false:=by simp [k2]
      by_cases k3:r0.2.1 = h.early
      ·rw [decide_eq_true k3,Bool.true_and] at hx3
       have k3b:(r0.2.1 != h.early) = false:=by simp [k3]
       by_cases k4:rk.2.1 = h.late
       ·rw [decide_eq_true k4,if_pos rfl] at hx3
        have k4b:(rk.2.1 != h.late) = false:=by simp [k4]
        subst hx3
        go_wp2_with fail
        go_quiet (fail)
        go_wp2_with fail
        go_ret2
        exact ⟨_,_,_,rfl,hnc,(HR.out.below (hN _)),HB2.drewN_ _⟩
       ·rw [decide_eq_false k4,if_neg (by decide)] at hx3
        subst hx3
        have k4b:(rk.2.1 != h.late) = true:=by simp [k4]
        go_wp2_with fail
        go_quiet (fail)
        go_wp2_with fail
        go_ret2
        exact ⟨none,0,0,rfl,Nat.le_refl _,Rd.nil _ _ _ _,HB2.drewN_ _⟩
      ·rw [decide_eq_false k3,Bool.false_and,if_neg (by decide)] at hx3
       subst hx3
       have k3b:(r0.2.1 != h.early) = true:=by simp [k3]
       go_wp2_with fail
       go_quiet (fail)
       go_wp2_with fail
       go_ret2
       exact ⟨none,0,0,rfl,Nat.le_refl _,Rd.nil _ _ _ _,HB2.drewN_ _⟩
     ·rw [decide_eq_false k2,Bool.false_and,if_neg (by decide)] at hx3
      subst hx3
      have k2b:(r0.1 != h.frst) = true:=by simp [k2]
      go_wp2_with fail
      go_quiet (fail)
      go_wp2_with fail
      go_ret2
      exact ⟨none,0,0,rfl,Nat.le_refl _,Rd.nil _ _ _ _,HB2.drewN_ _⟩
    ·have hx4:x = ([],170):=by
      rw [← hx3,if_neg]
      intro hf
      simp only [fitsB,Bool.and_eq_true,decide_eq_true_eq] at hf
      exact k1 (by omega)
     subst hx4
     have k1b:((n:Int) != h.cnt) = true:=by simp [k1]
     clear hx3
     go_wp2_with fail
     go_quiet (fail)
     go_wp2_with fail
     go_ret2
     exact ⟨none,0,0,rfl,Nat.le_refl _,Rd.nil _ _ _ _,HB2.drewN_ _⟩
   ·have hx3:=HX2.out
    rw [if_neg h2] at hx3
    subst hx3
    have h2b:(ze != 0) = true:=by simp [h2]
    clear HX2
    go_wp2_with fail
    go_ret2
    exact ⟨none,0,0,rfl,Nat.le_refl _,Rd.nil _ _ _ _,HB2⟩
  ·have hx2:=HX1.out
   rw [if_neg h1] at hx2
   subst hx2
   have h1b:(ye != 0) = true:=by simp [h1]
   clear HX1 HY
   go_wp2_with fail
   go_ret2
   exact ⟨none,0,0,rfl,Nat.le_refl _,Rd.nil _ _ _ _,HB2⟩
 ·have hx1:=HX.out
  rw [if_neg h0] at hx1
  subst hx1
  have h0b:(er != 0) = true:=by simp [h0]
  clear HX HM
  go_wp2_with fail
  go_ret2
  exact ⟨none,0,0,rfl,Nat.le_refl _,Rd.nil _ _ _ _,HB2⟩
end BloW
end Go.Proofs.YtnpncpoiiikafaaGreat
namespace Go.Proofs.YtnpncpoiiikafaaGreat
open Go.RowKit
namespace BloW
theorem nums5_len (l:List Rc) (raw:Nat):(lput (BloW.numsB l raw)).length≤45:=by
 have v:=fun n=>vlen_le n
 simp only [BloW.numsB,lput,List.flatMap_cons,List.flatMap_nil,List.length_append,List.length_nil,vbytes_len]
 have v1:=v (Int.toNat (raw:Int))
 have v2:=v (Int.toNat (l.length:Int))
 have v3:=v (Int.toNat ((l[0]?.map (·.1)).getD 0))
 have v4:=v (Int.toNat ((l[0]?.map (·.2.1)).getD 0))
 have v5:=v (Int.toNat ((l[l.length - 1]?.map (·.2.1)).getD 0 - (l[0]?.map (·.2.1)).getD 0))
 omega
end BloW
end Go.Proofs.YtnpncpoiiikafaaGreat
namespace Go.Proofs.YtnpncpoiiikafaaGreat
open Go.RowKit
abbrev rng (lo hi:Int):Value:=.agg #[.int .i64 lo,.int .i64 hi]
namespace SpanW
abbrev R:=Int × Int
abbrev rv (p:R):Value:=rng p.1 p.2
end SpanW
end Go.Proofs.YtnpncpoiiikafaaGreat
namespace Go.Proofs.YtnpncpoiiikafaaGreat
open Go.RowKit
namespace KmpW
def mx (p t:List UInt8):Nat → Nat
 | 0=>0
 | k + 1=>if p.take (k + 1) <:+ t then k + 1 else mx p t k
def M (p t:List UInt8):Nat:=mx p t p.length
theorem mx_le (p t:List UInt8) (k:Nat):mx p t k≤k:=by
 induction k with
 | zero=>exact Nat.le_refl _
 | succ k ih=>rw [mx];split <;> omega
theorem mx_suf (p t:List UInt8) (k:Nat):p.take (mx p t k) <:+ t:=by
 induction k with
 | zero=>rw [mx,List.take_zero];exact List.nil_suffix
 | succ k ih =>
  rw [mx]
  split
  ·assumption
  ·exact ih
theorem mx_max (p t:List UInt8) (n:Nat):∀ k,k≤n → p.take k <:+ t → k≤mx p t n:=by
 induction n with
 | zero=>intro k h _;omega
 | succ n ih =>
  intro k h hs
  rw [mx]
  split
  ·omega
  ·rename_i hn
   rcases Nat.lt_or_ge n k with h1 | h1
   ·obtain rfl:k = n + 1:=by omega
    exact absurd hs hn
   ·exact ih k h1 hs
theorem M_le (p t:List UInt8):M p t≤p.length:=mx_le p t _
theorem M_suf (p t:List UInt8):p.take (M p t) <:+ t:=mx_suf p t _
theorem M_max {p t:List UInt8} {k:Nat} (h:k≤p.length) (hs:p.take k <:+ t):k≤M p t:=mx_max p t _ k h hs
theorem M_eq {p t:List UInt8} {k:Nat} (h:k≤p.length) (hs:p.take k <:+ t) (hm:∀ j,j≤p.length → p.take j <:+ t → j≤k):M p t = k :=
 Nat.le_antisymm (hm _ (M_le p t) (M_suf p t)) (M_max h hs)
def brd (p:List UInt8) (j:Nat):Nat:=M p ((p.drop 1).take j)
theorem brd_iff {p:List UInt8} {s k:Nat} (hs:s < p.length) (hk:k≤p.length):p.take k <:+ (p.drop 1).take s ↔ (p.take k <:+ p.take (s + 1)∧k≤s):=by
 cases p with
 | nil=>simp at hs
 | cons a q =>
  simp only [List.drop_succ_cons,List.drop_zero,List.take_succ_cons]
  rw [List.suffix_cons_iff]
  simp only [List.length_cons] at hs hk
  constructor
  ·intro h
   refine ⟨.inr h,?_⟩
   have:=h.length_le
   rw [List.length_take,List.length_take,List.length_cons] at this
   omega
  ·rintro ⟨h | h,hks⟩
   ·have:=congrArg List.length h
    simp only [List.length_take,List.length_cons] at this
    omega
   ·exact h
structure Inv (p t:List UInt8) (b:UInt8) (s:Nat):Prop where
 le:s≤p.length
 suf:p.take s <:+ t
 max:∀ k,k + 1≤p.length → p.take (k + 1) <:+ t ++ [b] → k≤s
theorem snoc_suf {p t:List UInt8} {b:UInt8} {k:Nat} (h:k < p.length):p.take (k + 1) <:+ t ++ [b] ↔ (p.take k <:+ t∧p[k] = b):=by
 rw [List.take_succ_eq_append_getElem h]
 constructor
 ·rintro ⟨r,hr⟩
  rw [← List.append_assoc] at hr
  have h1:=List.append_inj' hr rfl
  refine ⟨⟨r,h1.1⟩,?_⟩
  have:=h1.2
  simpa using this
 ·rintro ⟨⟨r,hr⟩,rfl⟩
  exact ⟨r,by rw [← List.append_assoc,hr]⟩
theorem Inv.start (p t:List UInt8) (b:UInt8):Inv p t b (M p t) :=
 ⟨M_le p t,M_suf p t,fun k hk hs=>M_max (by omega) ((snoc_suf (by omega)).1 hs).1⟩
theorem Inv.zero {p t:List UInt8} {b:UInt8} (h:Inv p t b 0) (hn:∀ hs:0 < p.length,¬ p[0] = b):M p (t ++ [b]) = 0:=by
 refine M_eq (by omega) (by rw [List.take_zero];exact List.nil_suffix) ?_
 intro j hj hsuf
 cases j with
 | zero=>omega
 | succ j =>
  exfalso
  have h0:=h.max j hj hsuf
  obtain rfl:j = 0:=by omega
  exact hn (by omega) ((snoc_suf (by omega)).1 hsuf).2
theorem Inv.next {p t:List UInt8} {b:UInt8} {s:Nat} (h:Inv p t b (s + 1)) (hn:∀ hs:s + 1 < p.length,¬ p[s + 1] = b):Inv p t b (brd p s):=by
 have hsl:=h.le
 have hb:=(brd_iff (p:=p) (s:=s) (k:=brd p s) (by omega) (M_le _ _)).1 (M_suf _ _)
 refine ⟨M_le _ _,hb.1.trans h.suf,?_⟩
 intro k hk hsuf
 have h1:=h.max k hk hsuf
 obtain ⟨h2,h3⟩:=(snoc_suf (by omega)).1 hsuf
 have hne:k ≠ s + 1:=by
  rintro rfl
  exact hn (by omega) h3
 have hks:k≤s:=by omega
 refine M_max (by omega) ((brd_iff (p:=p) (s:=s) (k:=k) (by omega) (by omega)).2 ⟨?_,hks⟩)
 exact List.suffix_of_suffix_length_le h2 h.suf (by rw [List.length_take,List.length_take];omega)
end KmpW
end Go.Proofs.YtnpncpoiiikafaaGreat
namespace Go.Proofs.YtnpncpoiiikafaaGreat
open Go.RowKit
namespace KmpW
end KmpW
end Go.Proofs.YtnpncpoiiikafaaGreat
namespace Go.Proofs.YtnpncpoiiikafaaGreat
open Go.RowKit
namespace KmpW
end KmpW
end Go.Proofs.YtnpncpoiiikafaaGreat
namespace Go.Proofs.YtnpncpoiiikafaaGreat
open Go.RowKit
namespace KmpW
end KmpW
end Go.Proofs.YtnpncpoiiikafaaGreat
namespace Go.Proofs.YtnpncpoiiikafaaGreat
open Go.RowKit
namespace KmpW
end KmpW
end Go.Proofs.YtnpncpoiiikafaaGreat
namespace Go.Proofs.YtnpncpoiiikafaaGreat
open Go.RowKit
namespace SkpW
theorem blk7 {w:World} {g:Nat} {t:TypeId} {a0 a1 a2 a3 a4 a5 a6:Value} (h:Blk w g t #[a0,a1,a2,a3,a4,a5,a6]) :
 w.cell? ⟨g,0,none⟩ = some a0∧w.cell? ⟨g,1,none⟩ = some a1∧w.cell? ⟨g,2,none⟩ = some a2∧w.cell? ⟨g,3,none⟩ = some a3∧w.cell? ⟨g,4,none⟩ = some a4∧w.cell? ⟨g,5,none⟩ = some a5∧w.cell? ⟨g,6,none⟩ = some a6 :=
 ⟨h.cell_ 0 rfl,h.cell_ 1 rfl,h.cell_ 2 rfl,h.cell_ 3 rfl,h.cell_ 4 rfl,h.cell_ 5 rfl,h.cell_ 6 rfl⟩
end SkpW
end Go.Proofs.YtnpncpoiiikafaaGreat
namespace Go.Proofs.YtnpncpoiiikafaaGreat
open Go.RowKit
namespace SkpW
open SpanW (R rv)
theorem results_row1 {P:Program} {fn:Func} {p:Tmp} {ty:TypeId} (h:fn.results = #[.cell p ty]) (tmps:Array Value) (w:World) (g:Nat) (t:TypeId) (cs:Array Value) (fr:Nat × Nat) (d:TypeDesc)
 (hp:tmps.getD p undef = .pointer (some ⟨g,0,none⟩)) (hg:w.heap[g]? = some (.cells cs t fr))
 (hu:P.underlying ty = some d) (hd:(match d with | .struct _ | .array _ _=>true | _=>false) = true) (hi:(P.info? ty).map (·.size) = some cs.size) :
 (results fn tmps).run P w = .ok (.agg cs) w:=by
 have hp':tmps[p]?.getD undef = .pointer (some ⟨g,0,none⟩):=by simpa using hp
 simp [results,h,hp',asAddr,run_loadVar_row w g t ty cs fr d hg hu hd hi]
theorem blk9 {w:World} {g:Nat} {t:TypeId} {a0 a1 a2 a3 a4 a5 a6 a7 a8:Value} (h:Blk w g t #[a0,a1,a2,a3,a4,a5,a6,a7,a8]) :
 (w.cell? ⟨g,0,none⟩ = some a0∧w.cell? ⟨g,1,none⟩ = some a1∧w.cell? ⟨g,2,none⟩ = some a2∧w.cell? ⟨g,3,none⟩ = some a3∧w.cell? ⟨g,4,none⟩ = some a4∧w.cell? ⟨g,5,none⟩ = some a5∧w.cell? ⟨g,6,none⟩ = some a6∧w.cell? ⟨g,7,none⟩ = some a7∧w.cell? ⟨g,8,none⟩ = some a8) ∧
 (∀ i,w.frozen? ⟨g,i,none⟩ = false) :=
 ⟨⟨h.cell_ 0 rfl,h.cell_ 1 rfl,h.cell_ 2 rfl,h.cell_ 3 rfl,h.cell_ 4 rfl,h.cell_ 5 rfl,h.cell_ 6 rfl,h.cell_ 7 rfl,h.cell_ 8 rfl⟩,fun i=>h.frozen i⟩
end SkpW
end Go.Proofs.YtnpncpoiiikafaaGreat
