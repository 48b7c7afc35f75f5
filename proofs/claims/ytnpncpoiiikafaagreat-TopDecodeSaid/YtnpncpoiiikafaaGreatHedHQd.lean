/- HedH -/
import Derived.Test.YtnpncpoiiikafaaGreatHedGQd
import Derived.Test.YtnpncpoiiikafaaGreatHedFQd
import Derived.Deep.DeepCutAuto
import Derived.Deep.CutRange
import Derived.Test.YtnpncpoiiikafaaGreatMemQd
set_option linter.unusedVariables false
set_option linter.unusedSimpArgs false
set_option linter.unnecessarySimpa false
set_option maxRecDepth 100000
set_option maxHeartbeats 32000000
namespace Go.Proofs.YtnpncpoiiikafaaGreat
open Go.RowKit
namespace ClW
theorem Cl.grow0 {w wr w1:World} {c:Nat} {L:List (TypeId × Array Value)} (h:Cl w wr c L) (hg:wr.grownBy w1 none):Cl w w1 c L:=h.grown hg (by simp)
theorem Cl.far {w wr:World} {c:Nat} {L:List (TypeId × Array Value)} (h:Cl w wr c L) {g:Nat} (hg:w.heap.size≤g) (i:Nat) (v:Value):Cl w (wr.setCell ⟨g,i,none⟩ v) c L :=
 h.grown (TakW.grown_set wr g i v) (fun k e=>by have:=Option.some.inj e;omega)
theorem own_left {w1 w2:World} {base e size A n c xs} {g:Nat} {s:List UInt8} {q:Int} (h:Own w1 base e size A n c xs) (hL:TakW.Left w1 w2 g s q) (hg:g < base):Own w2 base e size A n c xs :=
 h.grown hL.2 (by
  cases hA:blkOf A with
  | none=>exact .inl rfl
  | some k=>exact .inr (fun e2=>by have:=(h.blk k hA).1;have:=Option.some.inj e2;omega))
end ClW
namespace HedW
open TakW (take_callip tk flt end_yes end_bad new_any caughtK_no caughtK_ok)
open BloW (num_y num_n getV_three)
open ClW (Cl numV own_left)
open SkpW (Me mc blk7f)
open SufW (w64s)
theorem El_met:El Tryz.prog 25 33 7 56:=El.mk' Tryz.underlying25 (z:=.agg #[.int .i64 0,.int .i64 0,.int .i64 0,.int .i64 0,.int .i64 0,.int .i64 0,.int .i64 0]) (by kernel_rfl) rfl (by decide)
def gfL (c:Nat) (s:List UInt8) (q:Int) (A:Option Addr) (n c':Nat):List (TypeId × Array Value) :=
 [(145,tk s q),(78,#[.pointer (some ⟨c,0,none⟩)]),(80,#[numV c]),(25,#[.slice A n c'])]
section
variable {w wr w1:World} {c:Nat} {s:List UInt8} {q q1:Int} {A A2:Option Addr} {n c' n2 c2:Nat}
theorem gf_left (h:Cl w wr c (gfL c s q A n c')) (hL:TakW.Left wr w1 c s q1):Cl w w1 c (gfL c s q1 A n c'):=Cl.left (i:=0) (s:=s) (q:=q) h rfl hL
theorem gf_set (h:Cl w wr c (gfL c s q A n c')):Cl w (wr.setCell ⟨c + 3,0,none⟩ (.slice A2 n2 c2)) c (gfL c s q A2 n2 c2):=Cl.set (i:=3) h rfl 0 (.slice A2 n2 c2)
theorem gf_G (h:Cl w wr c (gfL c s q A n c')):Blk wr c 145 (tk s q):=h.fr 0 _ rfl
theorem gf_T (h:Cl w wr c (gfL c s q A n c')):Blk wr (c + 1) 78 #[.pointer (some ⟨c,0,none⟩)]:=h.fr 1 _ rfl
theorem gf_O (h:Cl w wr c (gfL c s q A n c')):Blk wr (c + 3) 25 #[.slice A n c']:=h.fr 3 _ rfl
theorem gf_S (h:Cl w wr c (gfL c s q A n c')):wr.cell? ⟨c + 2,0,none⟩ = some (.func (.func 35) #[.pointer (some ⟨c,0,none⟩)] #[]):=(h.fr 2 _ rfl).cell_ 0 rfl
theorem gf_lt (h:Cl w wr c (gfL c s q A n c')):c + 4≤w.heap.size:=h.hc
end
def gfC (c:Nat):Array Value:=#[.pointer (some ⟨c + 2,0,none⟩),.pointer (some ⟨c + 3,0,none⟩),.pointer (some ⟨c + 1,0,none⟩)]
def GfEnd (b:List UInt8) (w:World) (c:Nat) (e:Ending) (w':World):Prop :=
 ((takeF b).2 = 0∧e = .returned (.tuple #[])∧∃ q A n c',Cl w w' c (gfL c b q A n c')∧Own w' w.heap.size 33 7 A n c' (mcells (takeF b).1)) ∨
 ((takeF b).2 ≠ 0∧∃ at_,e = .panicked (flt (takeF b).2 at_)∧∃ q A n c',Cl w w' c (gfL c b q A n c'))
theorem GfEnd.no {b:List UInt8} {w w':World} {c n c':Nat} {er at_ q:Int} {A:Option Addr} (h:takeF b = ([],er)) (he:er ≠ 0) (I:Cl w w' c (gfL c b q A n c')):GfEnd b w c (.panicked (flt er at_)) w' :=
 .inr ⟨by rw [h];exact he,at_,by rw [h],q,A,n,c',I⟩
theorem takeF_big {b:List UInt8} {n q:Int} (h:getV b 0 = (n,q,0)) (hn:1000 < n):takeF b = ([],3):=by unfold takeF;rw [h];dsimp only;rw [if_pos rfl,if_pos hn]
theorem takeF_no {b:List UInt8} {n q er:Int} (h:getV b 0 = (n,q,er)) (he:er ≠ 0):takeF b = ([],er):=by unfold takeF;rw [h];exact if_neg he
theorem num_b (g:Nat) (s:List UInt8) (p:Nat) (w:World) (h:Blk w g 145 (tk s (p:Nat))) (hs:s.length≤1000000) :
 Calls Tryz.prog 35 #[.pointer (some ⟨g,0,none⟩)] w fun e w'=>(∃ (v:Int) (q:Nat),e = .returned (.int .i64 v)∧getV s (p:Nat) = (v,((q:Nat):Int),0)∧TakW.Left w w' g s (q:Nat)) ∨
  (∃ v q er,e = .panicked (flt er p)∧getV s (p:Nat) = (v,q,er)∧er ≠ 0∧TakW.Left w w' g s (p:Nat)):=by
 rcases getV_three s p with ⟨v,q,h1⟩ | ⟨v,q,er,hx,her⟩
 ·exact (num_y g s p q v w h h1 hs).mono fun e w' ⟨h2,h3⟩=>.inl ⟨v,q,h2,h1,h3⟩
 ·exact (num_n g s p v q er w h hx her hs).mono fun e w' ⟨h2,h3⟩=>.inr ⟨v,q,er,h2,hx,her,h3⟩
def endF (b:List UInt8) (x:List Me × Int × Int):List Me × Int:=if x.2.2 = 0 then (if x.2.1 = b.length then (x.1,0) else ([],6)) else ([],x.2.2)
theorem takeF_go {b:List UInt8} {N:Nat} {q:Int} (h:getV b 0 = ((N:Int),q,0)) (hn:N≤1000):takeF b = endF b (metsV b N q):=by
 unfold takeF endF
 rw [h]
 dsimp only
 rw [if_pos rfl,if_neg (by omega),Int.toNat_natCast]
theorem gf_loop (b:List UInt8) (c:Nat) (w:World) (A0:Option Addr) (I0:Cl w w c (gfL c b 0 none 0 0)) (hs:b.length≤1000000) (N:Nat) (hN:N≤1000) (q0:Nat) (h0:getV b ((0:Nat):Int) = ((N:Int),((q0:Nat):Int),0)) :
 Calls Tryz.prog 52 (gfC c) w fun e w'=>GfEnd b w c e w':=by
 have hcw:=gf_lt I0
 have HT:=Lib.hid (takeF_go h0 hN)
 have HQ0:Hid (q0≤b.length):=Lib.hid (by
  have:=(getV_ok (s:=b) (a:=((0:Nat):Int)) (by rw [h0])).2.2.1
  rw [h0] at this
  dsimp only at this
  omega)
 have hcn:∀ args w,(callFunc 35 args).run Tryz.prog w = .ok (.enter 35 args) w:=fun args w=>run_enter Tryz.func35 (by kernel_rfl) rfl args w
 have cN:=gf_S I0
 have C:=num_y c b 0 q0 N w (gf_G I0) h0 hs
 have hI:¬ (1000:Int) < (N:Int):=by omega
 unfold gfC
 go_enter Tryz.func52,Tryz.ntmps52
 go_wp2_with fail
 refine C.mono ?_
 clear C cN
 rintro e w1 ⟨rfl,hL⟩
 have I1:=gf_left I0 hL
 clear hL I0 h0
 have HM0:Hid (takeF b = endF b (([]:List Me) ++ (metsV b (N - 0) (q0:Nat)).1,(metsV b (N - 0) (q0:Nat)).2)):=Lib.hid (by rw [HT.out];rfl)
 clear HT
 go_wp2_with fail
 go_loopw [13] (fun iv wr=>∃ (k q:Nat) (A:Option Addr) (c':Nat) (acc:List Me),iv = .int .i64 k∧k≤N∧Hid (q≤b.length)∧Hid (takeF b = endF b (acc ++ (metsV b (N - k) (q:Nat)).1,(metsV b (N - k) (q:Nat)).2))∧Cl w wr c (gfL c b (q:Nat) A k c')∧Own wr w.heap.size 33 7 A k c' (mcells acc)) (fun iv _=>N - (intOf iv).toNat)
 case atStart=>exact ⟨0,q0,none,0,[],rfl,by omega,HQ0,HM0,I1,Own.nil _ _ _ _⟩
 case round =>
  clear I1 HM0 HQ0
  obtain ⟨k,q,A,c',acc,rfl,hk,HQ,HM,I,own⟩:=hrel
  by_cases hlt:k < N
  ·have hkI:(k:Int) < (N:Int):=by omega
   have hk0:(0:Int)≤(k:Int):=by omega
   have hk1:IntKind.i64.wrap ((k:Int) + 1) = (k:Int) + 1:=w64s (by omega) (by omega)
   obtain ⟨m,hm⟩:∃ m,N - k = m + 1:=⟨N - k - 1,by omega⟩
   have HMM:=Lib.hid hm
   have HNO:Hid (∀ er p l,numsV b 7 (q:Nat) = (l,p,er) → er ≠ 0 → takeF b = ([],er)):=Lib.hid (by
    intro er p l h1 h2
    rw [HM.out,hm,metsV_no h1 h2]
    exact if_neg h2)
   have zI0:=I.size
   have HAK:=Lib.hid (fun j (e:blkOf A = some j)=>(own.blk j e).2)
   clear hm
   go_upto_region 5 with fail
   go_cut [4] from 15 to 27 (fun p4 wx=>∃ (v1 v2 v3 v4 v5 v6:Int) (q6 g:Nat),p4 = .pointer (some ⟨g,0,none⟩)∧w.heap.size≤g∧(∀ j,blkOf A = some j → j ≠ g)∧Blk wx g 33 #[.int .i64 v1,.int .i64 v2,.int .i64 v3,.int .i64 v4,.int .i64 v5,.int .i64 v6,.int .i64 0]∧Cl w wx c (gfL c b (q6:Nat) A k c')∧Own wx w.heap.size 33 7 A k c' (mcells acc)∧Hid (∀ v7 q7,getV b (q6:Nat) = (v7,((q7:Nat):Int),0) → numsV b 7 (q:Nat) = ([v1,v2,v3,v4,v5,v6,v7],((q7:Nat):Int),0))∧Hid (∀ v p er,getV b (q6:Nat) = (v,p,er) → er ≠ 0 → takeF b = ([],er))∧Hid (0≤v6∧v6≤9223372036854775807))
   case first =>
    clear HM
    refine wp_region_held_drew (S:=(fun w'=>w'.cell? ⟨c + 2,0,none⟩ = some (.func (.func 35) #[.pointer (some ⟨c,0,none⟩)] #[]))) (by kernel_rfl) ?_ (fun hHeld=>?_)
    ·replace own:=Own.drew own;replace I:=ClW.Cl.drew I;(try dsimp only);exact gf_S I
    replace own:=Own.drew own
    replace I:=ClW.Cl.drew I
    refine zO 0 (.load 80 (.tmp 0)) 80 ?_
    refine zO 2 (.load 80 (.tmp 0)) 80 ?_
    refine zO 4 (.load 80 (.tmp 0)) 80 ?_
    refine zO 6 (.load 80 (.tmp 0)) 80 ?_
    refine zO 8 (.load 80 (.tmp 0)) 80 ?_
    refine zO 10 (.load 80 (.tmp 0)) 80 ?_
    refine wpAnyH_ready (rs:=[1,13]) (by kernel_rfl) (by simp) (AllReadyH.cons rfl (fun K1 hK1=>?ku1x1) (AllReadyH.cons rfl (fun K13 hK13=>?ku1x13) AllReadyH.nil))
    case ku1x1 =>
     refine ClW.take_callb 1 35 #[.pointer (some ⟨c,0,none⟩)] (Op.call { callee:=Callee.value (Operand.tmp 15),args:=#[],argTypes:=#[] }) 3 rfl rfl rfl (by kernel_rfl) (ClW.exec_numv 15 _ _ _ _ c _ rfl) ?_
     refine (num_b c b q _ (gf_G I) hs).mono ?_
     rintro e w1 (⟨v1,q1,rfl,h1,hL⟩ | ⟨v,qq,er,rfl,hx,her,hL⟩)
     rotate_left
     ·refine .inr ⟨_,rfl,?_⟩
      try simp only [Exit.then,Exit.inBlock]
      exact ⟨rfl,GfEnd.no (HNO.out er _ _ (by rw [numsV_no hx her]) her) her (gf_left I hL)⟩
     have zL:=hL.2.size
     try simp only [World.size_drew] at zL
     replace own:=own_left own hL (by omega)
     replace I:=gf_left I hL
     try replace b13:=b13.grown hL.2 (by simp;omega)
     refine .inl ⟨_,rfl,?_⟩
     refine hK1.out _ _ ?su1xb1x1 (fun hHeld=>?ru1xb1x1)
     case su1xb1x1=>((try dsimp only);exact gf_S I)
     try simp only [zSa,zSb,zSc]
     refine wpAnyH_ready (rs:=[3,13]) (by kernel_rfl) (by simp) (AllReadyH.cons rfl (fun K3 hK3=>?ku1xb1x3) (AllReadyH.cons rfl (fun K13 hK13=>?ku1xb1x13) AllReadyH.nil))
     case ku1xb1x3 =>
      refine ClW.take_callb 3 35 #[.pointer (some ⟨c,0,none⟩)] (Op.call { callee:=Callee.value (Operand.tmp 17),args:=#[],argTypes:=#[] }) 3 rfl rfl rfl (by kernel_rfl) (ClW.exec_numv 17 _ _ _ _ c _ rfl) ?_
      refine (num_b c b q1 _ (gf_G I) hs).mono ?_
      rintro e w3 (⟨v2,q2,rfl,h2,hL⟩ | ⟨v,qq,er,rfl,hx,her,hL⟩)
      rotate_left
      ·refine .inr ⟨_,rfl,?_⟩
       try simp only [Exit.then,Exit.inBlock]
       exact ⟨rfl,GfEnd.no (HNO.out er _ _ (by rw [numsV_yes h1,numsV_no hx her]) her) her (gf_left I hL)⟩
      have zL:=hL.2.size
      try simp only [World.size_drew] at zL
      replace own:=own_left own hL (by omega)
      replace I:=gf_left I hL
      try replace b13:=b13.grown hL.2 (by simp;omega)
      refine .inl ⟨_,rfl,?_⟩
      refine hK3.out _ _ ?su1xb1xb2x3 (fun hHeld=>?ru1xb1xb2x3)
      case su1xb1xb2x3=>((try dsimp only);exact gf_S I)
      try simp only [zSa,zSb,zSc]
      refine wpAnyH_ready (rs:=[5,13]) (by kernel_rfl) (by simp) (AllReadyH.cons rfl (fun K5 hK5=>?ku1xb1xb2x5) (AllReadyH.cons rfl (fun K13 hK13=>?ku1xb1xb2x13) AllReadyH.nil))
      case ku1xb1xb2x5 =>
       refine ClW.take_callb 5 35 #[.pointer (some ⟨c,0,none⟩)] (Op.call { callee:=Callee.value (Operand.tmp 19),args:=#[],argTypes:=#[] }) 3 rfl rfl rfl (by kernel_rfl) (ClW.exec_numv 19 _ _ _ _ c _ rfl) ?_
       refine (num_b c b q2 _ (gf_G I) hs).mono ?_
       rintro e w5 (⟨v3,q3,rfl,h3,hL⟩ | ⟨v,qq,er,rfl,hx,her,hL⟩)
       rotate_left
       ·refine .inr ⟨_,rfl,?_⟩
        try simp only [Exit.then,Exit.inBlock]
        exact ⟨rfl,GfEnd.no (HNO.out er _ _ (by rw [numsV_yes h1,numsV_yes h2,numsV_no hx her]) her) her (gf_left I hL)⟩
       have zL:=hL.2.size
       try simp only [World.size_drew] at zL
       replace own:=own_left own hL (by omega)
       replace I:=gf_left I hL
       try replace b13:=b13.grown hL.2 (by simp;omega)
       refine .inl ⟨_,rfl,?_⟩
       refine hK5.out _ _ ?su1xb1xb2xb3x5 (fun hHeld=>?ru1xb1xb2xb3x5)
       case su1xb1xb2xb3x5=>((try dsimp only);exact gf_S I)
       try simp only [zSa,zSb,zSc]
       refine wpAnyH_ready (rs:=[7,13]) (by kernel_rfl) (by simp) (AllReadyH.cons rfl (fun K7 hK7=>?ku1xb1xb2xb3x7) (AllReadyH.cons rfl (fun K13 hK13=>?ku1xb1xb2xb3x13) AllReadyH.nil))
       case ku1xb1xb2xb3x7 =>
        refine ClW.take_callb 7 35 #[.pointer (some ⟨c,0,none⟩)] (Op.call { callee:=Callee.value (Operand.tmp 21),args:=#[],argTypes:=#[] }) 3 rfl rfl rfl (by kernel_rfl) (ClW.exec_numv 21 _ _ _ _ c _ rfl) ?_
        refine (num_b c b q3 _ (gf_G I) hs).mono ?_
        rintro e w7 (⟨v4,q4,rfl,h4,hL⟩ | ⟨v,qq,er,rfl,hx,her,hL⟩)
        rotate_left
        ·refine .inr ⟨_,rfl,?_⟩
         try simp only [Exit.then,Exit.inBlock]
         exact ⟨rfl,GfEnd.no (HNO.out er _ _ (by rw [numsV_yes h1,numsV_yes h2,numsV_yes h3,numsV_no hx her]) her) her (gf_left I hL)⟩
        have zL:=hL.2.size
        try simp only [World.size_drew] at zL
        replace own:=own_left own hL (by omega)
        replace I:=gf_left I hL
        try replace b13:=b13.grown hL.2 (by simp;omega)
        refine .inl ⟨_,rfl,?_⟩
        refine hK7.out _ _ ?su1xb1xb2xb3xb4x7 (fun hHeld=>?ru1xb1xb2xb3xb4x7)
        case su1xb1xb2xb3xb4x7=>((try dsimp only);exact gf_S I)
        try simp only [zSa,zSb,zSc]
        refine wpAnyH_ready (rs:=[9,13]) (by kernel_rfl) (by simp) (AllReadyH.cons rfl (fun K9 hK9=>?ku1xb1xb2xb3xb4x9) (AllReadyH.cons rfl (fun K13 hK13=>?ku1xb1xb2xb3xb4x13) AllReadyH.nil))
        case ku1xb1xb2xb3xb4x9 =>
         refine ClW.take_callb 9 35 #[.pointer (some ⟨c,0,none⟩)] (Op.call { callee:=Callee.value (Operand.tmp 23),args:=#[],argTypes:=#[] }) 3 rfl rfl rfl (by kernel_rfl) (ClW.exec_numv 23 _ _ _ _ c _ rfl) ?_
         refine (num_b c b q4 _ (gf_G I) hs).mono ?_
         rintro e w9 (⟨v5,q5,rfl,h5,hL⟩ | ⟨v,qq,er,rfl,hx,her,hL⟩)
         rotate_left
         ·refine .inr ⟨_,rfl,?_⟩
          try simp only [Exit.then,Exit.inBlock]
          exact ⟨rfl,GfEnd.no (HNO.out er _ _ (by rw [numsV_yes h1,numsV_yes h2,numsV_yes h3,numsV_yes h4,numsV_no hx her]) her) her (gf_left I hL)⟩
         have zL:=hL.2.size
         try simp only [World.size_drew] at zL
         replace own:=own_left own hL (by omega)
         replace I:=gf_left I hL
         try replace b13:=b13.grown hL.2 (by simp;omega)
         refine .inl ⟨_,rfl,?_⟩
         refine hK9.out _ _ ?su1xb1xb2xb3xb4xb5x9 (fun hHeld=>?ru1xb1xb2xb3xb4xb5x9)
         case su1xb1xb2xb3xb4xb5x9=>((try dsimp only);exact gf_S I)
         try simp only [zSa,zSb,zSc]
         refine wpAnyH_ready (rs:=[11,13]) (by kernel_rfl) (by simp) (AllReadyH.cons rfl (fun K11 hK11=>?ku1xb1xb2xb3xb4xb5x11) (AllReadyH.cons rfl (fun K13 hK13=>?ku1xb1xb2xb3xb4xb5x13) AllReadyH.nil))
         case ku1xb1xb2xb3xb4xb5x11 =>
          refine ClW.take_callb 11 35 #[.pointer (some ⟨c,0,none⟩)] (Op.call { callee:=Callee.value (Operand.tmp 25),args:=#[],argTypes:=#[] }) 3 rfl rfl rfl (by kernel_rfl) (ClW.exec_numv 25 _ _ _ _ c _ rfl) ?_
          refine (num_b c b q5 _ (gf_G I) hs).mono ?_
          rintro e w11 (⟨v6,q6,rfl,h6,hL⟩ | ⟨v,qq,er,rfl,hx,her,hL⟩)
          rotate_left
          ·refine .inr ⟨_,rfl,?_⟩
           try simp only [Exit.then,Exit.inBlock]
           exact ⟨rfl,GfEnd.no (HNO.out er _ _ (by rw [numsV_yes h1,numsV_yes h2,numsV_yes h3,numsV_yes h4,numsV_yes h5,numsV_no hx her]) her) her (gf_left I hL)⟩
          have zL:=hL.2.size
          try simp only [World.size_drew] at zL
          replace own:=own_left own hL (by omega)
          replace I:=gf_left I hL
          try replace b13:=b13.grown hL.2 (by simp;omega)
          refine .inl ⟨_,rfl,?_⟩
          refine hK11.out _ _ ?su1xb1xb2xb3xb4xb5xb6x11 (fun hHeld=>?ru1xb1xb2xb3xb4xb5xb6x11)
          case su1xb1xb2xb3xb4xb5xb6x11=>((try dsimp only);exact gf_S I)
          try simp only [zSa,zSb,zSc]
          refine zO 12 (.build 33 #[(0,.tmp 16),(1,.tmp 18),(2,.tmp 20),(3,.tmp 22),(4,.tmp 24),(5,.tmp 26)]) 33 ?_
          refine zR 13 (fun K13 hK13=>?_)
          refine take_new (t:=33) (cs:=#[.int .i64 0,.int .i64 0,.int .i64 0,.int .i64 0,.int .i64 0,.int .i64 0,.int .i64 0]) 13 (Op.alloc 33) 0 rfl rfl rfl (by kernel_rfl) ?eu1xb1xb2xb3xb4xb5xb6x13 ?_
          case eu1xb1xb2xb3xb4xb5xb6x13=>(go_simp;try (first | with_reducible rfl | rfl))
          intro g13 w13 b13 gr13 l13 m13
          have z13:=gr13.size
          try simp only [World.size_drew] at z13
          try simp only [World.size_drew,World.size_alloc] at l13
          replace own:=Own.grow0 own gr13
          replace I:=ClW.Cl.grow0 I gr13
          refine hK13.out _ _ ?su1xb1xb2xb3xb4xb5xb6x13 (fun hHeld=>?ru1xb1xb2xb3xb4xb5xb6x13)
          case su1xb1xb2xb3xb4xb5xb6x13=>((try dsimp only);exact gf_S I)
          try simp only [zSa,zSb,zSc]
          refine zR 14 (fun K14 hK14=>?_)
          refine take_store 14 (Op.store 33 (Operand.tmp 4) (Operand.tmp 27)) 0 rfl rfl rfl (by kernel_rfl) (w':=(((((((w13.setCell ⟨g13,0,none⟩ (.int .i64 v1)).setCell ⟨g13,1,none⟩ (.int .i64 v2)).setCell ⟨g13,2,none⟩ (.int .i64 v3)).setCell ⟨g13,3,none⟩ (.int .i64 v4)).setCell ⟨g13,4,none⟩ (.int .i64 v5)).setCell ⟨g13,5,none⟩ (.int .i64 v6)).setCell ⟨g13,6,none⟩ (.int .i64 0))) (by have b13':=b13;obtain ⟨⟨k0,k1,k2,k3,k4,k5,k6⟩,f0,f1,f2,f3,f4,f5,f6⟩:=blk7f b13';have lz:=b13.lt;go_simp;try (with_reducible rfl)) ?_
          refine hK14.out _ _ ((have hg13:w.heap.size≤g13:=(by omega);gf_S (Cl.far (Cl.far (Cl.far (Cl.far (Cl.far (Cl.far (Cl.far I hg13 0 (.int .i64 v1)) hg13 1 (.int .i64 v2)) hg13 2 (.int .i64 v3)) hg13 3 (.int .i64 v4)) hg13 4 (.int .i64 v5)) hg13 5 (.int .i64 v6)) hg13 6 (.int .i64 0)))) (fun hHeld=>?_)
          have hg13:w.heap.size≤g13:=(by omega)
          have hA13:blkOf A ≠ some g13:=(fun e=>by have:=HAK.out g13 e;omega)
          replace own:=(Own.far (Own.far (Own.far (Own.far (Own.far (Own.far (Own.far own (p:=⟨g13,0,none⟩) hA13 (.int .i64 v1)) (p:=⟨g13,1,none⟩) hA13 (.int .i64 v2)) (p:=⟨g13,2,none⟩) hA13 (.int .i64 v3)) (p:=⟨g13,3,none⟩) hA13 (.int .i64 v4)) (p:=⟨g13,4,none⟩) hA13 (.int .i64 v5)) (p:=⟨g13,5,none⟩) hA13 (.int .i64 v6)) (p:=⟨g13,6,none⟩) hA13 (.int .i64 0))
          replace I:=(Cl.far (Cl.far (Cl.far (Cl.far (Cl.far (Cl.far (Cl.far I hg13 0 (.int .i64 v1)) hg13 1 (.int .i64 v2)) hg13 2 (.int .i64 v3)) hg13 3 (.int .i64 v4)) hg13 4 (.int .i64 v5)) hg13 5 (.int .i64 v6)) hg13 6 (.int .i64 0))
          have b14:=SkpW.set7 b13 (.int .i64 v1) (.int .i64 v2) (.int .i64 v3) (.int .i64 v4) (.int .i64 v5) (.int .i64 v6) (.int .i64 0)
          generalize ((((((((w13.setCell ⟨g13,0,none⟩ (.int .i64 v1)).setCell ⟨g13,1,none⟩ (.int .i64 v2)).setCell ⟨g13,2,none⟩ (.int .i64 v3)).setCell ⟨g13,3,none⟩ (.int .i64 v4)).setCell ⟨g13,4,none⟩ (.int .i64 v5)).setCell ⟨g13,5,none⟩ (.int .i64 v6)).setCell ⟨g13,6,none⟩ (.int .i64 0))) = wq at *
          refine wpAnyH_done (by kernel_rfl) ?_ _
          go_wp2_with fail
          go_meet
          case rel=>exact ⟨v1,v2,v3,v4,v5,v6,q6,g13,rfl,hg13,fun j e e2=>hA13 (by rw [e,e2]),b14,I,own,Lib.hid (fun v7 q7 h7=>by rw [numsV_yes h1,numsV_yes h2,numsV_yes h3,numsV_yes h4,numsV_yes h5,numsV_yes h6,numsV_yes h7];rfl),Lib.hid (fun v p er hx her=>HNO.out er _ _ (by rw [numsV_yes h1,numsV_yes h2,numsV_yes h3,numsV_yes h4,numsV_yes h5,numsV_yes h6,numsV_no hx her]) her),Lib.hid (by have:=(getV_ok (s:=b) (a:=(q5:Nat)) (by rw [h6])).2.2.2;rw [h6] at this;exact this)⟩
         case ku1xb1xb2xb3xb4xb5x13 =>
          refine take_new (t:=33) (cs:=#[.int .i64 0,.int .i64 0,.int .i64 0,.int .i64 0,.int .i64 0,.int .i64 0,.int .i64 0]) 13 (Op.alloc 33) 0 rfl rfl rfl (by kernel_rfl) ?eu1xb1xb2xb3xb4xb5xb9x13 ?_
          case eu1xb1xb2xb3xb4xb5xb9x13=>(go_simp;try (first | with_reducible rfl | rfl))
          intro g13 w13 b13 gr13 l13 m13
          have z13:=gr13.size
          try simp only [World.size_drew] at z13
          try simp only [World.size_drew,World.size_alloc] at l13
          replace own:=Own.grow0 own gr13
          replace I:=ClW.Cl.grow0 I gr13
          refine hK13.out _ _ ?su1xb1xb2xb3xb4xb5xb9x13 (fun hHeld=>?ru1xb1xb2xb3xb4xb5xb9x13)
          case su1xb1xb2xb3xb4xb5xb9x13=>((try dsimp only);exact gf_S I)
          try simp only [zSa,zSb,zSc]
          refine zR 11 (fun K11 hK11=>?_)
          refine ClW.take_callb 11 35 #[.pointer (some ⟨c,0,none⟩)] (Op.call { callee:=Callee.value (Operand.tmp 25),args:=#[],argTypes:=#[] }) 3 rfl rfl rfl (by kernel_rfl) (ClW.exec_numv 25 _ _ _ _ c _ rfl) ?_
          refine (num_b c b q5 _ (gf_G I) hs).mono ?_
          rintro e w11 (⟨v6,q6,rfl,h6,hL⟩ | ⟨v,qq,er,rfl,hx,her,hL⟩)
          rotate_left
          ·refine .inr ⟨_,rfl,?_⟩
           try simp only [Exit.then,Exit.inBlock]
           exact ⟨rfl,GfEnd.no (HNO.out er _ _ (by rw [numsV_yes h1,numsV_yes h2,numsV_yes h3,numsV_yes h4,numsV_yes h5,numsV_no hx her]) her) her (gf_left I hL)⟩
          have zL:=hL.2.size
          try simp only [World.size_drew] at zL
          replace own:=own_left own hL (by omega)
          replace I:=gf_left I hL
          try replace b13:=b13.grown hL.2 (by simp;omega)
          refine .inl ⟨_,rfl,?_⟩
          refine hK11.out _ _ ?su1xb1xb2xb3xb4xb5xb9x11 (fun hHeld=>?ru1xb1xb2xb3xb4xb5xb9x11)
          case su1xb1xb2xb3xb4xb5xb9x11=>((try dsimp only);exact gf_S I)
          try simp only [zSa,zSb,zSc]
          refine zO 12 (.build 33 #[(0,.tmp 16),(1,.tmp 18),(2,.tmp 20),(3,.tmp 22),(4,.tmp 24),(5,.tmp 26)]) 33 ?_
          refine zR 14 (fun K14 hK14=>?_)
          refine take_store 14 (Op.store 33 (Operand.tmp 4) (Operand.tmp 27)) 0 rfl rfl rfl (by kernel_rfl) (w':=(((((((w11.setCell ⟨g13,0,none⟩ (.int .i64 v1)).setCell ⟨g13,1,none⟩ (.int .i64 v2)).setCell ⟨g13,2,none⟩ (.int .i64 v3)).setCell ⟨g13,3,none⟩ (.int .i64 v4)).setCell ⟨g13,4,none⟩ (.int .i64 v5)).setCell ⟨g13,5,none⟩ (.int .i64 v6)).setCell ⟨g13,6,none⟩ (.int .i64 0))) (by have b13':=b13;obtain ⟨⟨k0,k1,k2,k3,k4,k5,k6⟩,f0,f1,f2,f3,f4,f5,f6⟩:=blk7f b13';have lz:=b13.lt;go_simp;try (with_reducible rfl)) ?_
          refine hK14.out _ _ ((have hg13:w.heap.size≤g13:=(by omega);gf_S (Cl.far (Cl.far (Cl.far (Cl.far (Cl.far (Cl.far (Cl.far I hg13 0 (.int .i64 v1)) hg13 1 (.int .i64 v2)) hg13 2 (.int .i64 v3)) hg13 3 (.int .i64 v4)) hg13 4 (.int .i64 v5)) hg13 5 (.int .i64 v6)) hg13 6 (.int .i64 0)))) (fun hHeld=>?_)
          have hg13:w.heap.size≤g13:=(by omega)
          have hA13:blkOf A ≠ some g13:=(fun e=>by have:=HAK.out g13 e;omega)
          replace own:=(Own.far (Own.far (Own.far (Own.far (Own.far (Own.far (Own.far own (p:=⟨g13,0,none⟩) hA13 (.int .i64 v1)) (p:=⟨g13,1,none⟩) hA13 (.int .i64 v2)) (p:=⟨g13,2,none⟩) hA13 (.int .i64 v3)) (p:=⟨g13,3,none⟩) hA13 (.int .i64 v4)) (p:=⟨g13,4,none⟩) hA13 (.int .i64 v5)) (p:=⟨g13,5,none⟩) hA13 (.int .i64 v6)) (p:=⟨g13,6,none⟩) hA13 (.int .i64 0))
          replace I:=(Cl.far (Cl.far (Cl.far (Cl.far (Cl.far (Cl.far (Cl.far I hg13 0 (.int .i64 v1)) hg13 1 (.int .i64 v2)) hg13 2 (.int .i64 v3)) hg13 3 (.int .i64 v4)) hg13 4 (.int .i64 v5)) hg13 5 (.int .i64 v6)) hg13 6 (.int .i64 0))
          have b14:=SkpW.set7 b13 (.int .i64 v1) (.int .i64 v2) (.int .i64 v3) (.int .i64 v4) (.int .i64 v5) (.int .i64 v6) (.int .i64 0)
          generalize ((((((((w11.setCell ⟨g13,0,none⟩ (.int .i64 v1)).setCell ⟨g13,1,none⟩ (.int .i64 v2)).setCell ⟨g13,2,none⟩ (.int .i64 v3)).setCell ⟨g13,3,none⟩ (.int .i64 v4)).setCell ⟨g13,4,none⟩ (.int .i64 v5)).setCell ⟨g13,5,none⟩ (.int .i64 v6)).setCell ⟨g13,6,none⟩ (.int .i64 0))) = wq at *
          refine wpAnyH_done (by kernel_rfl) ?_ _
          go_wp2_with fail
          go_meet
          case rel=>exact ⟨v1,v2,v3,v4,v5,v6,q6,g13,rfl,hg13,fun j e e2=>hA13 (by rw [e,e2]),b14,I,own,Lib.hid (fun v7 q7 h7=>by rw [numsV_yes h1,numsV_yes h2,numsV_yes h3,numsV_yes h4,numsV_yes h5,numsV_yes h6,numsV_yes h7];rfl),Lib.hid (fun v p er hx her=>HNO.out er _ _ (by rw [numsV_yes h1,numsV_yes h2,numsV_yes h3,numsV_yes h4,numsV_yes h5,numsV_yes h6,numsV_no hx her]) her),Lib.hid (by have:=(getV_ok (s:=b) (a:=(q5:Nat)) (by rw [h6])).2.2.2;rw [h6] at this;exact this)⟩
        case ku1xb1xb2xb3xb4x13 =>
         refine take_new (t:=33) (cs:=#[.int .i64 0,.int .i64 0,.int .i64 0,.int .i64 0,.int .i64 0,.int .i64 0,.int .i64 0]) 13 (Op.alloc 33) 0 rfl rfl rfl (by kernel_rfl) ?eu1xb1xb2xb3xb4xb12x13 ?_
         case eu1xb1xb2xb3xb4xb12x13=>(go_simp;try (first | with_reducible rfl | rfl))
         intro g13 w13 b13 gr13 l13 m13
         have z13:=gr13.size
         try simp only [World.size_drew] at z13
         try simp only [World.size_drew,World.size_alloc] at l13
         replace own:=Own.grow0 own gr13
         replace I:=ClW.Cl.grow0 I gr13
         refine hK13.out _ _ ?su1xb1xb2xb3xb4xb12x13 (fun hHeld=>?ru1xb1xb2xb3xb4xb12x13)
         case su1xb1xb2xb3xb4xb12x13=>((try dsimp only);exact gf_S I)
         try simp only [zSa,zSb,zSc]
         refine zR 9 (fun K9 hK9=>?_)
         refine ClW.take_callb 9 35 #[.pointer (some ⟨c,0,none⟩)] (Op.call { callee:=Callee.value (Operand.tmp 23),args:=#[],argTypes:=#[] }) 3 rfl rfl rfl (by kernel_rfl) (ClW.exec_numv 23 _ _ _ _ c _ rfl) ?_
         refine (num_b c b q4 _ (gf_G I) hs).mono ?_
         rintro e w9 (⟨v5,q5,rfl,h5,hL⟩ | ⟨v,qq,er,rfl,hx,her,hL⟩)
         rotate_left
         ·refine .inr ⟨_,rfl,?_⟩
          try simp only [Exit.then,Exit.inBlock]
          exact ⟨rfl,GfEnd.no (HNO.out er _ _ (by rw [numsV_yes h1,numsV_yes h2,numsV_yes h3,numsV_yes h4,numsV_no hx her]) her) her (gf_left I hL)⟩
         have zL:=hL.2.size
         try simp only [World.size_drew] at zL
         replace own:=own_left own hL (by omega)
         replace I:=gf_left I hL
         try replace b13:=b13.grown hL.2 (by simp;omega)
         refine .inl ⟨_,rfl,?_⟩
         refine hK9.out _ _ ?su1xb1xb2xb3xb4xb12x9 (fun hHeld=>?ru1xb1xb2xb3xb4xb12x9)
         case su1xb1xb2xb3xb4xb12x9=>((try dsimp only);exact gf_S I)
         try simp only [zSa,zSb,zSc]
         refine zR 11 (fun K11 hK11=>?_)
         refine ClW.take_callb 11 35 #[.pointer (some ⟨c,0,none⟩)] (Op.call { callee:=Callee.value (Operand.tmp 25),args:=#[],argTypes:=#[] }) 3 rfl rfl rfl (by kernel_rfl) (ClW.exec_numv 25 _ _ _ _ c _ rfl) ?_
         refine (num_b c b q5 _ (gf_G I) hs).mono ?_
         rintro e w11 (⟨v6,q6,rfl,h6,hL⟩ | ⟨v,qq,er,rfl,hx,her,hL⟩)
         rotate_left
         ·refine .inr ⟨_,rfl,?_⟩
          try simp only [Exit.then,Exit.inBlock]
          exact ⟨rfl,GfEnd.no (HNO.out er _ _ (by rw [numsV_yes h1,numsV_yes h2,numsV_yes h3,numsV_yes h4,numsV_yes h5,numsV_no hx her]) her) her (gf_left I hL)⟩
         have zL:=hL.2.size
         try simp only [World.size_drew] at zL
         replace own:=own_left own hL (by omega)
         replace I:=gf_left I hL
         try replace b13:=b13.grown hL.2 (by simp;omega)
         refine .inl ⟨_,rfl,?_⟩
         refine hK11.out _ _ ?su1xb1xb2xb3xb4xb12x11 (fun hHeld=>?ru1xb1xb2xb3xb4xb12x11)
         case su1xb1xb2xb3xb4xb12x11=>((try dsimp only);exact gf_S I)
         try simp only [zSa,zSb,zSc]
         refine zO 12 (.build 33 #[(0,.tmp 16),(1,.tmp 18),(2,.tmp 20),(3,.tmp 22),(4,.tmp 24),(5,.tmp 26)]) 33 ?_
         refine zR 14 (fun K14 hK14=>?_)
         refine take_store 14 (Op.store 33 (Operand.tmp 4) (Operand.tmp 27)) 0 rfl rfl rfl (by kernel_rfl) (w':=(((((((w11.setCell ⟨g13,0,none⟩ (.int .i64 v1)).setCell ⟨g13,1,none⟩ (.int .i64 v2)).setCell ⟨g13,2,none⟩ (.int .i64 v3)).setCell ⟨g13,3,none⟩ (.int .i64 v4)).setCell ⟨g13,4,none⟩ (.int .i64 v5)).setCell ⟨g13,5,none⟩ (.int .i64 v6)).setCell ⟨g13,6,none⟩ (.int .i64 0))) (by have b13':=b13;obtain ⟨⟨k0,k1,k2,k3,k4,k5,k6⟩,f0,f1,f2,f3,f4,f5,f6⟩:=blk7f b13';have lz:=b13.lt;go_simp;try (with_reducible rfl)) ?_
         refine hK14.out _ _ ((have hg13:w.heap.size≤g13:=(by omega);gf_S (Cl.far (Cl.far (Cl.far (Cl.far (Cl.far (Cl.far (Cl.far I hg13 0 (.int .i64 v1)) hg13 1 (.int .i64 v2)) hg13 2 (.int .i64 v3)) hg13 3 (.int .i64 v4)) hg13 4 (.int .i64 v5)) hg13 5 (.int .i64 v6)) hg13 6 (.int .i64 0)))) (fun hHeld=>?_)
         have hg13:w.heap.size≤g13:=(by omega)
         have hA13:blkOf A ≠ some g13:=(fun e=>by have:=HAK.out g13 e;omega)
         replace own:=(Own.far (Own.far (Own.far (Own.far (Own.far (Own.far (Own.far own (p:=⟨g13,0,none⟩) hA13 (.int .i64 v1)) (p:=⟨g13,1,none⟩) hA13 (.int .i64 v2)) (p:=⟨g13,2,none⟩) hA13 (.int .i64 v3)) (p:=⟨g13,3,none⟩) hA13 (.int .i64 v4)) (p:=⟨g13,4,none⟩) hA13 (.int .i64 v5)) (p:=⟨g13,5,none⟩) hA13 (.int .i64 v6)) (p:=⟨g13,6,none⟩) hA13 (.int .i64 0))
         replace I:=(Cl.far (Cl.far (Cl.far (Cl.far (Cl.far (Cl.far (Cl.far I hg13 0 (.int .i64 v1)) hg13 1 (.int .i64 v2)) hg13 2 (.int .i64 v3)) hg13 3 (.int .i64 v4)) hg13 4 (.int .i64 v5)) hg13 5 (.int .i64 v6)) hg13 6 (.int .i64 0))
         have b14:=SkpW.set7 b13 (.int .i64 v1) (.int .i64 v2) (.int .i64 v3) (.int .i64 v4) (.int .i64 v5) (.int .i64 v6) (.int .i64 0)
         generalize ((((((((w11.setCell ⟨g13,0,none⟩ (.int .i64 v1)).setCell ⟨g13,1,none⟩ (.int .i64 v2)).setCell ⟨g13,2,none⟩ (.int .i64 v3)).setCell ⟨g13,3,none⟩ (.int .i64 v4)).setCell ⟨g13,4,none⟩ (.int .i64 v5)).setCell ⟨g13,5,none⟩ (.int .i64 v6)).setCell ⟨g13,6,none⟩ (.int .i64 0))) = wq at *
         refine wpAnyH_done (by kernel_rfl) ?_ _
         go_wp2_with fail
         go_meet
         case rel=>exact ⟨v1,v2,v3,v4,v5,v6,q6,g13,rfl,hg13,fun j e e2=>hA13 (by rw [e,e2]),b14,I,own,Lib.hid (fun v7 q7 h7=>by rw [numsV_yes h1,numsV_yes h2,numsV_yes h3,numsV_yes h4,numsV_yes h5,numsV_yes h6,numsV_yes h7];rfl),Lib.hid (fun v p er hx her=>HNO.out er _ _ (by rw [numsV_yes h1,numsV_yes h2,numsV_yes h3,numsV_yes h4,numsV_yes h5,numsV_yes h6,numsV_no hx her]) her),Lib.hid (by have:=(getV_ok (s:=b) (a:=(q5:Nat)) (by rw [h6])).2.2.2;rw [h6] at this;exact this)⟩
       case ku1xb1xb2xb3x13 =>
        refine take_new (t:=33) (cs:=#[.int .i64 0,.int .i64 0,.int .i64 0,.int .i64 0,.int .i64 0,.int .i64 0,.int .i64 0]) 13 (Op.alloc 33) 0 rfl rfl rfl (by kernel_rfl) ?eu1xb1xb2xb3xb16x13 ?_
        case eu1xb1xb2xb3xb16x13=>(go_simp;try (first | with_reducible rfl | rfl))
        intro g13 w13 b13 gr13 l13 m13
        have z13:=gr13.size
        try simp only [World.size_drew] at z13
        try simp only [World.size_drew,World.size_alloc] at l13
        replace own:=Own.grow0 own gr13
        replace I:=ClW.Cl.grow0 I gr13
        refine hK13.out _ _ ?su1xb1xb2xb3xb16x13 (fun hHeld=>?ru1xb1xb2xb3xb16x13)
        case su1xb1xb2xb3xb16x13=>((try dsimp only);exact gf_S I)
        try simp only [zSa,zSb,zSc]
        refine zR 7 (fun K7 hK7=>?_)
        refine ClW.take_callb 7 35 #[.pointer (some ⟨c,0,none⟩)] (Op.call { callee:=Callee.value (Operand.tmp 21),args:=#[],argTypes:=#[] }) 3 rfl rfl rfl (by kernel_rfl) (ClW.exec_numv 21 _ _ _ _ c _ rfl) ?_
        refine (num_b c b q3 _ (gf_G I) hs).mono ?_
        rintro e w7 (⟨v4,q4,rfl,h4,hL⟩ | ⟨v,qq,er,rfl,hx,her,hL⟩)
        rotate_left
        ·refine .inr ⟨_,rfl,?_⟩
         try simp only [Exit.then,Exit.inBlock]
         exact ⟨rfl,GfEnd.no (HNO.out er _ _ (by rw [numsV_yes h1,numsV_yes h2,numsV_yes h3,numsV_no hx her]) her) her (gf_left I hL)⟩
        have zL:=hL.2.size
        try simp only [World.size_drew] at zL
        replace own:=own_left own hL (by omega)
        replace I:=gf_left I hL
        try replace b13:=b13.grown hL.2 (by simp;omega)
        refine .inl ⟨_,rfl,?_⟩
        refine hK7.out _ _ ?su1xb1xb2xb3xb16x7 (fun hHeld=>?ru1xb1xb2xb3xb16x7)
        case su1xb1xb2xb3xb16x7=>((try dsimp only);exact gf_S I)
        try simp only [zSa,zSb,zSc]
        refine zR 9 (fun K9 hK9=>?_)
        refine ClW.take_callb 9 35 #[.pointer (some ⟨c,0,none⟩)] (Op.call { callee:=Callee.value (Operand.tmp 23),args:=#[],argTypes:=#[] }) 3 rfl rfl rfl (by kernel_rfl) (ClW.exec_numv 23 _ _ _ _ c _ rfl) ?_
        refine (num_b c b q4 _ (gf_G I) hs).mono ?_
        rintro e w9 (⟨v5,q5,rfl,h5,hL⟩ | ⟨v,qq,er,rfl,hx,her,hL⟩)
        rotate_left
        ·refine .inr ⟨_,rfl,?_⟩
         try simp only [Exit.then,Exit.inBlock]
         exact ⟨rfl,GfEnd.no (HNO.out er _ _ (by rw [numsV_yes h1,numsV_yes h2,numsV_yes h3,numsV_yes h4,numsV_no hx her]) her) her (gf_left I hL)⟩
        have zL:=hL.2.size
        try simp only [World.size_drew] at zL
        replace own:=own_left own hL (by omega)
        replace I:=gf_left I hL
        try replace b13:=b13.grown hL.2 (by simp;omega)
        refine .inl ⟨_,rfl,?_⟩
        refine hK9.out _ _ ?su1xb1xb2xb3xb16x9 (fun hHeld=>?ru1xb1xb2xb3xb16x9)
        case su1xb1xb2xb3xb16x9=>((try dsimp only);exact gf_S I)
        try simp only [zSa,zSb,zSc]
        refine zR 11 (fun K11 hK11=>?_)
        refine ClW.take_callb 11 35 #[.pointer (some ⟨c,0,none⟩)] (Op.call { callee:=Callee.value (Operand.tmp 25),args:=#[],argTypes:=#[] }) 3 rfl rfl rfl (by kernel_rfl) (ClW.exec_numv 25 _ _ _ _ c _ rfl) ?_
        refine (num_b c b q5 _ (gf_G I) hs).mono ?_
        rintro e w11 (⟨v6,q6,rfl,h6,hL⟩ | ⟨v,qq,er,rfl,hx,her,hL⟩)
        rotate_left
        ·refine .inr ⟨_,rfl,?_⟩
         try simp only [Exit.then,Exit.inBlock]
         exact ⟨rfl,GfEnd.no (HNO.out er _ _ (by rw [numsV_yes h1,numsV_yes h2,numsV_yes h3,numsV_yes h4,numsV_yes h5,numsV_no hx her]) her) her (gf_left I hL)⟩
        have zL:=hL.2.size
        try simp only [World.size_drew] at zL
        replace own:=own_left own hL (by omega)
        replace I:=gf_left I hL
        try replace b13:=b13.grown hL.2 (by simp;omega)
        refine .inl ⟨_,rfl,?_⟩
        refine hK11.out _ _ ?su1xb1xb2xb3xb16x11 (fun hHeld=>?ru1xb1xb2xb3xb16x11)
        case su1xb1xb2xb3xb16x11=>((try dsimp only);exact gf_S I)
        try simp only [zSa,zSb,zSc]
        refine zO 12 (.build 33 #[(0,.tmp 16),(1,.tmp 18),(2,.tmp 20),(3,.tmp 22),(4,.tmp 24),(5,.tmp 26)]) 33 ?_
        refine zR 14 (fun K14 hK14=>?_)
        refine take_store 14 (Op.store 33 (Operand.tmp 4) (Operand.tmp 27)) 0 rfl rfl rfl (by kernel_rfl) (w':=(((((((w11.setCell ⟨g13,0,none⟩ (.int .i64 v1)).setCell ⟨g13,1,none⟩ (.int .i64 v2)).setCell ⟨g13,2,none⟩ (.int .i64 v3)).setCell ⟨g13,3,none⟩ (.int .i64 v4)).setCell ⟨g13,4,none⟩ (.int .i64 v5)).setCell ⟨g13,5,none⟩ (.int .i64 v6)).setCell ⟨g13,6,none⟩ (.int .i64 0))) (by have b13':=b13;obtain ⟨⟨k0,k1,k2,k3,k4,k5,k6⟩,f0,f1,f2,f3,f4,f5,f6⟩:=blk7f b13';have lz:=b13.lt;go_simp;try (with_reducible rfl)) ?_
        refine hK14.out _ _ ((have hg13:w.heap.size≤g13:=(by omega);gf_S (Cl.far (Cl.far (Cl.far (Cl.far (Cl.far (Cl.far (Cl.far I hg13 0 (.int .i64 v1)) hg13 1 (.int .i64 v2)) hg13 2 (.int .i64 v3)) hg13 3 (.int .i64 v4)) hg13 4 (.int .i64 v5)) hg13 5 (.int .i64 v6)) hg13 6 (.int .i64 0)))) (fun hHeld=>?_)
        have hg13:w.heap.size≤g13:=(by omega)
        have hA13:blkOf A ≠ some g13:=(fun e=>by have:=HAK.out g13 e;omega)
        replace own:=(Own.far (Own.far (Own.far (Own.far (Own.far (Own.far (Own.far own (p:=⟨g13,0,none⟩) hA13 (.int .i64 v1)) (p:=⟨g13,1,none⟩) hA13 (.int .i64 v2)) (p:=⟨g13,2,none⟩) hA13 (.int .i64 v3)) (p:=⟨g13,3,none⟩) hA13 (.int .i64 v4)) (p:=⟨g13,4,none⟩) hA13 (.int .i64 v5)) (p:=⟨g13,5,none⟩) hA13 (.int .i64 v6)) (p:=⟨g13,6,none⟩) hA13 (.int .i64 0))
        replace I:=(Cl.far (Cl.far (Cl.far (Cl.far (Cl.far (Cl.far (Cl.far I hg13 0 (.int .i64 v1)) hg13 1 (.int .i64 v2)) hg13 2 (.int .i64 v3)) hg13 3 (.int .i64 v4)) hg13 4 (.int .i64 v5)) hg13 5 (.int .i64 v6)) hg13 6 (.int .i64 0))
        have b14:=SkpW.set7 b13 (.int .i64 v1) (.int .i64 v2) (.int .i64 v3) (.int .i64 v4) (.int .i64 v5) (.int .i64 v6) (.int .i64 0)
        generalize ((((((((w11.setCell ⟨g13,0,none⟩ (.int .i64 v1)).setCell ⟨g13,1,none⟩ (.int .i64 v2)).setCell ⟨g13,2,none⟩ (.int .i64 v3)).setCell ⟨g13,3,none⟩ (.int .i64 v4)).setCell ⟨g13,4,none⟩ (.int .i64 v5)).setCell ⟨g13,5,none⟩ (.int .i64 v6)).setCell ⟨g13,6,none⟩ (.int .i64 0))) = wq at *
        refine wpAnyH_done (by kernel_rfl) ?_ _
        go_wp2_with fail
        go_meet
        case rel=>exact ⟨v1,v2,v3,v4,v5,v6,q6,g13,rfl,hg13,fun j e e2=>hA13 (by rw [e,e2]),b14,I,own,Lib.hid (fun v7 q7 h7=>by rw [numsV_yes h1,numsV_yes h2,numsV_yes h3,numsV_yes h4,numsV_yes h5,numsV_yes h6,numsV_yes h7];rfl),Lib.hid (fun v p er hx her=>HNO.out er _ _ (by rw [numsV_yes h1,numsV_yes h2,numsV_yes h3,numsV_yes h4,numsV_yes h5,numsV_yes h6,numsV_no hx her]) her),Lib.hid (by have:=(getV_ok (s:=b) (a:=(q5:Nat)) (by rw [h6])).2.2.2;rw [h6] at this;exact this)⟩
      case ku1xb1xb2x13 =>
       refine take_new (t:=33) (cs:=#[.int .i64 0,.int .i64 0,.int .i64 0,.int .i64 0,.int .i64 0,.int .i64 0,.int .i64 0]) 13 (Op.alloc 33) 0 rfl rfl rfl (by kernel_rfl) ?eu1xb1xb2xb21x13 ?_
       case eu1xb1xb2xb21x13=>(go_simp;try (first | with_reducible rfl | rfl))
       intro g13 w13 b13 gr13 l13 m13
       have z13:=gr13.size
       try simp only [World.size_drew] at z13
       try simp only [World.size_drew,World.size_alloc] at l13
       replace own:=Own.grow0 own gr13
       replace I:=ClW.Cl.grow0 I gr13
       refine hK13.out _ _ ?su1xb1xb2xb21x13 (fun hHeld=>?ru1xb1xb2xb21x13)
       case su1xb1xb2xb21x13=>((try dsimp only);exact gf_S I)
       try simp only [zSa,zSb,zSc]
       refine zR 5 (fun K5 hK5=>?_)
       refine ClW.take_callb 5 35 #[.pointer (some ⟨c,0,none⟩)] (Op.call { callee:=Callee.value (Operand.tmp 19),args:=#[],argTypes:=#[] }) 3 rfl rfl rfl (by kernel_rfl) (ClW.exec_numv 19 _ _ _ _ c _ rfl) ?_
       refine (num_b c b q2 _ (gf_G I) hs).mono ?_
       rintro e w5 (⟨v3,q3,rfl,h3,hL⟩ | ⟨v,qq,er,rfl,hx,her,hL⟩)
       rotate_left
       ·refine .inr ⟨_,rfl,?_⟩
        try simp only [Exit.then,Exit.inBlock]
        exact ⟨rfl,GfEnd.no (HNO.out er _ _ (by rw [numsV_yes h1,numsV_yes h2,numsV_no hx her]) her) her (gf_left I hL)⟩
       have zL:=hL.2.size
       try simp only [World.size_drew] at zL
       replace own:=own_left own hL (by omega)
       replace I:=gf_left I hL
       try replace b13:=b13.grown hL.2 (by simp;omega)
       refine .inl ⟨_,rfl,?_⟩
       refine hK5.out _ _ ?su1xb1xb2xb21x5 (fun hHeld=>?ru1xb1xb2xb21x5)
       case su1xb1xb2xb21x5=>((try dsimp only);exact gf_S I)
       try simp only [zSa,zSb,zSc]
       refine zR 7 (fun K7 hK7=>?_)
       refine ClW.take_callb 7 35 #[.pointer (some ⟨c,0,none⟩)] (Op.call { callee:=Callee.value (Operand.tmp 21),args:=#[],argTypes:=#[] }) 3 rfl rfl rfl (by kernel_rfl) (ClW.exec_numv 21 _ _ _ _ c _ rfl) ?_
       refine (num_b c b q3 _ (gf_G I) hs).mono ?_
       rintro e w7 (⟨v4,q4,rfl,h4,hL⟩ | ⟨v,qq,er,rfl,hx,her,hL⟩)
       rotate_left
       ·refine .inr ⟨_,rfl,?_⟩
        try simp only [Exit.then,Exit.inBlock]
        exact ⟨rfl,GfEnd.no (HNO.out er _ _ (by rw [numsV_yes h1,numsV_yes h2,numsV_yes h3,numsV_no hx her]) her) her (gf_left I hL)⟩
       have zL:=hL.2.size
       try simp only [World.size_drew] at zL
       replace own:=own_left own hL (by omega)
       replace I:=gf_left I hL
       try replace b13:=b13.grown hL.2 (by simp;omega)
       refine .inl ⟨_,rfl,?_⟩
       refine hK7.out _ _ ?su1xb1xb2xb21x7 (fun hHeld=>?ru1xb1xb2xb21x7)
       case su1xb1xb2xb21x7=>((try dsimp only);exact gf_S I)
       try simp only [zSa,zSb,zSc]
       refine zR 9 (fun K9 hK9=>?_)
       refine ClW.take_callb 9 35 #[.pointer (some ⟨c,0,none⟩)] (Op.call { callee:=Callee.value (Operand.tmp 23),args:=#[],argTypes:=#[] }) 3 rfl rfl rfl (by kernel_rfl) (ClW.exec_numv 23 _ _ _ _ c _ rfl) ?_
       refine (num_b c b q4 _ (gf_G I) hs).mono ?_
       rintro e w9 (⟨v5,q5,rfl,h5,hL⟩ | ⟨v,qq,er,rfl,hx,her,hL⟩)
       rotate_left
       ·refine .inr ⟨_,rfl,?_⟩
        try simp only [Exit.then,Exit.inBlock]
        exact ⟨rfl,GfEnd.no (HNO.out er _ _ (by rw [numsV_yes h1,numsV_yes h2,numsV_yes h3,numsV_yes h4,numsV_no hx her]) her) her (gf_left I hL)⟩
       have zL:=hL.2.size
       try simp only [World.size_drew] at zL
       replace own:=own_left own hL (by omega)
       replace I:=gf_left I hL
       try replace b13:=b13.grown hL.2 (by simp;omega)
       refine .inl ⟨_,rfl,?_⟩
       refine hK9.out _ _ ?su1xb1xb2xb21x9 (fun hHeld=>?ru1xb1xb2xb21x9)
       case su1xb1xb2xb21x9=>((try dsimp only);exact gf_S I)
       try simp only [zSa,zSb,zSc]
       refine zR 11 (fun K11 hK11=>?_)
       refine ClW.take_callb 11 35 #[.pointer (some ⟨c,0,none⟩)] (Op.call { callee:=Callee.value (Operand.tmp 25),args:=#[],argTypes:=#[] }) 3 rfl rfl rfl (by kernel_rfl) (ClW.exec_numv 25 _ _ _ _ c _ rfl) ?_
       refine (num_b c b q5 _ (gf_G I) hs).mono ?_
       rintro e w11 (⟨v6,q6,rfl,h6,hL⟩ | ⟨v,qq,er,rfl,hx,her,hL⟩)
       rotate_left
       ·refine .inr ⟨_,rfl,?_⟩
        try simp only [Exit.then,Exit.inBlock]
        exact ⟨rfl,GfEnd.no (HNO.out er _ _ (by rw [numsV_yes h1,numsV_yes h2,numsV_yes h3,numsV_yes h4,numsV_yes h5,numsV_no hx her]) her) her (gf_left I hL)⟩
       have zL:=hL.2.size
       try simp only [World.size_drew] at zL
       replace own:=own_left own hL (by omega)
       replace I:=gf_left I hL
       try replace b13:=b13.grown hL.2 (by simp;omega)
       refine .inl ⟨_,rfl,?_⟩
       refine hK11.out _ _ ?su1xb1xb2xb21x11 (fun hHeld=>?ru1xb1xb2xb21x11)
       case su1xb1xb2xb21x11=>((try dsimp only);exact gf_S I)
       try simp only [zSa,zSb,zSc]
       refine zO 12 (.build 33 #[(0,.tmp 16),(1,.tmp 18),(2,.tmp 20),(3,.tmp 22),(4,.tmp 24),(5,.tmp 26)]) 33 ?_
       refine zR 14 (fun K14 hK14=>?_)
       refine take_store 14 (Op.store 33 (Operand.tmp 4) (Operand.tmp 27)) 0 rfl rfl rfl (by kernel_rfl) (w':=(((((((w11.setCell ⟨g13,0,none⟩ (.int .i64 v1)).setCell ⟨g13,1,none⟩ (.int .i64 v2)).setCell ⟨g13,2,none⟩ (.int .i64 v3)).setCell ⟨g13,3,none⟩ (.int .i64 v4)).setCell ⟨g13,4,none⟩ (.int .i64 v5)).setCell ⟨g13,5,none⟩ (.int .i64 v6)).setCell ⟨g13,6,none⟩ (.int .i64 0))) (by have b13':=b13;obtain ⟨⟨k0,k1,k2,k3,k4,k5,k6⟩,f0,f1,f2,f3,f4,f5,f6⟩:=blk7f b13';have lz:=b13.lt;go_simp;try (with_reducible rfl)) ?_
       refine hK14.out _ _ ((have hg13:w.heap.size≤g13:=(by omega);gf_S (Cl.far (Cl.far (Cl.far (Cl.far (Cl.far (Cl.far (Cl.far I hg13 0 (.int .i64 v1)) hg13 1 (.int .i64 v2)) hg13 2 (.int .i64 v3)) hg13 3 (.int .i64 v4)) hg13 4 (.int .i64 v5)) hg13 5 (.int .i64 v6)) hg13 6 (.int .i64 0)))) (fun hHeld=>?_)
       have hg13:w.heap.size≤g13:=(by omega)
       have hA13:blkOf A ≠ some g13:=(fun e=>by have:=HAK.out g13 e;omega)
       replace own:=(Own.far (Own.far (Own.far (Own.far (Own.far (Own.far (Own.far own (p:=⟨g13,0,none⟩) hA13 (.int .i64 v1)) (p:=⟨g13,1,none⟩) hA13 (.int .i64 v2)) (p:=⟨g13,2,none⟩) hA13 (.int .i64 v3)) (p:=⟨g13,3,none⟩) hA13 (.int .i64 v4)) (p:=⟨g13,4,none⟩) hA13 (.int .i64 v5)) (p:=⟨g13,5,none⟩) hA13 (.int .i64 v6)) (p:=⟨g13,6,none⟩) hA13 (.int .i64 0))
       replace I:=(Cl.far (Cl.far (Cl.far (Cl.far (Cl.far (Cl.far (Cl.far I hg13 0 (.int .i64 v1)) hg13 1 (.int .i64 v2)) hg13 2 (.int .i64 v3)) hg13 3 (.int .i64 v4)) hg13 4 (.int .i64 v5)) hg13 5 (.int .i64 v6)) hg13 6 (.int .i64 0))
       have b14:=SkpW.set7 b13 (.int .i64 v1) (.int .i64 v2) (.int .i64 v3) (.int .i64 v4) (.int .i64 v5) (.int .i64 v6) (.int .i64 0)
       generalize ((((((((w11.setCell ⟨g13,0,none⟩ (.int .i64 v1)).setCell ⟨g13,1,none⟩ (.int .i64 v2)).setCell ⟨g13,2,none⟩ (.int .i64 v3)).setCell ⟨g13,3,none⟩ (.int .i64 v4)).setCell ⟨g13,4,none⟩ (.int .i64 v5)).setCell ⟨g13,5,none⟩ (.int .i64 v6)).setCell ⟨g13,6,none⟩ (.int .i64 0))) = wq at *
       refine wpAnyH_done (by kernel_rfl) ?_ _
       go_wp2_with fail
       go_meet
       case rel=>exact ⟨v1,v2,v3,v4,v5,v6,q6,g13,rfl,hg13,fun j e e2=>hA13 (by rw [e,e2]),b14,I,own,Lib.hid (fun v7 q7 h7=>by rw [numsV_yes h1,numsV_yes h2,numsV_yes h3,numsV_yes h4,numsV_yes h5,numsV_yes h6,numsV_yes h7];rfl),Lib.hid (fun v p er hx her=>HNO.out er _ _ (by rw [numsV_yes h1,numsV_yes h2,numsV_yes h3,numsV_yes h4,numsV_yes h5,numsV_yes h6,numsV_no hx her]) her),Lib.hid (by have:=(getV_ok (s:=b) (a:=(q5:Nat)) (by rw [h6])).2.2.2;rw [h6] at this;exact this)⟩
     case ku1xb1x13 =>
      refine take_new (t:=33) (cs:=#[.int .i64 0,.int .i64 0,.int .i64 0,.int .i64 0,.int .i64 0,.int .i64 0,.int .i64 0]) 13 (Op.alloc 33) 0 rfl rfl rfl (by kernel_rfl) ?eu1xb1xb27x13 ?_
      case eu1xb1xb27x13=>(go_simp;try (first | with_reducible rfl | rfl))
      intro g13 w13 b13 gr13 l13 m13
      have z13:=gr13.size
      try simp only [World.size_drew] at z13
      try simp only [World.size_drew,World.size_alloc] at l13
      replace own:=Own.grow0 own gr13
      replace I:=ClW.Cl.grow0 I gr13
      refine hK13.out _ _ ?su1xb1xb27x13 (fun hHeld=>?ru1xb1xb27x13)
      case su1xb1xb27x13=>((try dsimp only);exact gf_S I)
      try simp only [zSa,zSb,zSc]
      refine zR 3 (fun K3 hK3=>?_)
      refine ClW.take_callb 3 35 #[.pointer (some ⟨c,0,none⟩)] (Op.call { callee:=Callee.value (Operand.tmp 17),args:=#[],argTypes:=#[] }) 3 rfl rfl rfl (by kernel_rfl) (ClW.exec_numv 17 _ _ _ _ c _ rfl) ?_
      refine (num_b c b q1 _ (gf_G I) hs).mono ?_
      rintro e w3 (⟨v2,q2,rfl,h2,hL⟩ | ⟨v,qq,er,rfl,hx,her,hL⟩)
      rotate_left
      ·refine .inr ⟨_,rfl,?_⟩
       try simp only [Exit.then,Exit.inBlock]
       exact ⟨rfl,GfEnd.no (HNO.out er _ _ (by rw [numsV_yes h1,numsV_no hx her]) her) her (gf_left I hL)⟩
      have zL:=hL.2.size
      try simp only [World.size_drew] at zL
      replace own:=own_left own hL (by omega)
      replace I:=gf_left I hL
      try replace b13:=b13.grown hL.2 (by simp;omega)
      refine .inl ⟨_,rfl,?_⟩
      refine hK3.out _ _ ?su1xb1xb27x3 (fun hHeld=>?ru1xb1xb27x3)
      case su1xb1xb27x3=>((try dsimp only);exact gf_S I)
      try simp only [zSa,zSb,zSc]
      refine zR 5 (fun K5 hK5=>?_)
      refine ClW.take_callb 5 35 #[.pointer (some ⟨c,0,none⟩)] (Op.call { callee:=Callee.value (Operand.tmp 19),args:=#[],argTypes:=#[] }) 3 rfl rfl rfl (by kernel_rfl) (ClW.exec_numv 19 _ _ _ _ c _ rfl) ?_
      refine (num_b c b q2 _ (gf_G I) hs).mono ?_
      rintro e w5 (⟨v3,q3,rfl,h3,hL⟩ | ⟨v,qq,er,rfl,hx,her,hL⟩)
      rotate_left
      ·refine .inr ⟨_,rfl,?_⟩
       try simp only [Exit.then,Exit.inBlock]
       exact ⟨rfl,GfEnd.no (HNO.out er _ _ (by rw [numsV_yes h1,numsV_yes h2,numsV_no hx her]) her) her (gf_left I hL)⟩
      have zL:=hL.2.size
      try simp only [World.size_drew] at zL
      replace own:=own_left own hL (by omega)
      replace I:=gf_left I hL
      try replace b13:=b13.grown hL.2 (by simp;omega)
      refine .inl ⟨_,rfl,?_⟩
      refine hK5.out _ _ ?su1xb1xb27x5 (fun hHeld=>?ru1xb1xb27x5)
      case su1xb1xb27x5=>((try dsimp only);exact gf_S I)
      try simp only [zSa,zSb,zSc]
      refine zR 7 (fun K7 hK7=>?_)
      refine ClW.take_callb 7 35 #[.pointer (some ⟨c,0,none⟩)] (Op.call { callee:=Callee.value (Operand.tmp 21),args:=#[],argTypes:=#[] }) 3 rfl rfl rfl (by kernel_rfl) (ClW.exec_numv 21 _ _ _ _ c _ rfl) ?_
      refine (num_b c b q3 _ (gf_G I) hs).mono ?_
      rintro e w7 (⟨v4,q4,rfl,h4,hL⟩ | ⟨v,qq,er,rfl,hx,her,hL⟩)
      rotate_left
      ·refine .inr ⟨_,rfl,?_⟩
       try simp only [Exit.then,Exit.inBlock]
       exact ⟨rfl,GfEnd.no (HNO.out er _ _ (by rw [numsV_yes h1,numsV_yes h2,numsV_yes h3,numsV_no hx her]) her) her (gf_left I hL)⟩
      have zL:=hL.2.size
      try simp only [World.size_drew] at zL
      replace own:=own_left own hL (by omega)
      replace I:=gf_left I hL
      try replace b13:=b13.grown hL.2 (by simp;omega)
      refine .inl ⟨_,rfl,?_⟩
      refine hK7.out _ _ ?su1xb1xb27x7 (fun hHeld=>?ru1xb1xb27x7)
      case su1xb1xb27x7=>((try dsimp only);exact gf_S I)
      try simp only [zSa,zSb,zSc]
      refine zR 9 (fun K9 hK9=>?_)
      refine ClW.take_callb 9 35 #[.pointer (some ⟨c,0,none⟩)] (Op.call { callee:=Callee.value (Operand.tmp 23),args:=#[],argTypes:=#[] }) 3 rfl rfl rfl (by kernel_rfl) (ClW.exec_numv 23 _ _ _ _ c _ rfl) ?_
      refine (num_b c b q4 _ (gf_G I) hs).mono ?_
      rintro e w9 (⟨v5,q5,rfl,h5,hL⟩ | ⟨v,qq,er,rfl,hx,her,hL⟩)
      rotate_left
      ·refine .inr ⟨_,rfl,?_⟩
       try simp only [Exit.then,Exit.inBlock]
       exact ⟨rfl,GfEnd.no (HNO.out er _ _ (by rw [numsV_yes h1,numsV_yes h2,numsV_yes h3,numsV_yes h4,numsV_no hx her]) her) her (gf_left I hL)⟩
      have zL:=hL.2.size
      try simp only [World.size_drew] at zL
      replace own:=own_left own hL (by omega)
      replace I:=gf_left I hL
      try replace b13:=b13.grown hL.2 (by simp;omega)
      refine .inl ⟨_,rfl,?_⟩
      refine hK9.out _ _ ?su1xb1xb27x9 (fun hHeld=>?ru1xb1xb27x9)
      case su1xb1xb27x9=>((try dsimp only);exact gf_S I)
      try simp only [zSa,zSb,zSc]
      refine zR 11 (fun K11 hK11=>?_)
      refine ClW.take_callb 11 35 #[.pointer (some ⟨c,0,none⟩)] (Op.call { callee:=Callee.value (Operand.tmp 25),args:=#[],argTypes:=#[] }) 3 rfl rfl rfl (by kernel_rfl) (ClW.exec_numv 25 _ _ _ _ c _ rfl) ?_
      refine (num_b c b q5 _ (gf_G I) hs).mono ?_
      rintro e w11 (⟨v6,q6,rfl,h6,hL⟩ | ⟨v,qq,er,rfl,hx,her,hL⟩)
      rotate_left
      ·refine .inr ⟨_,rfl,?_⟩
       try simp only [Exit.then,Exit.inBlock]
       exact ⟨rfl,GfEnd.no (HNO.out er _ _ (by rw [numsV_yes h1,numsV_yes h2,numsV_yes h3,numsV_yes h4,numsV_yes h5,numsV_no hx her]) her) her (gf_left I hL)⟩
      have zL:=hL.2.size
      try simp only [World.size_drew] at zL
      replace own:=own_left own hL (by omega)
      replace I:=gf_left I hL
      try replace b13:=b13.grown hL.2 (by simp;omega)
      refine .inl ⟨_,rfl,?_⟩
      refine hK11.out _ _ ?su1xb1xb27x11 (fun hHeld=>?ru1xb1xb27x11)
      case su1xb1xb27x11=>((try dsimp only);exact gf_S I)
      try simp only [zSa,zSb,zSc]
      refine zO 12 (.build 33 #[(0,.tmp 16),(1,.tmp 18),(2,.tmp 20),(3,.tmp 22),(4,.tmp 24),(5,.tmp 26)]) 33 ?_
      refine zR 14 (fun K14 hK14=>?_)
      refine take_store 14 (Op.store 33 (Operand.tmp 4) (Operand.tmp 27)) 0 rfl rfl rfl (by kernel_rfl) (w':=(((((((w11.setCell ⟨g13,0,none⟩ (.int .i64 v1)).setCell ⟨g13,1,none⟩ (.int .i64 v2)).setCell ⟨g13,2,none⟩ (.int .i64 v3)).setCell ⟨g13,3,none⟩ (.int .i64 v4)).setCell ⟨g13,4,none⟩ (.int .i64 v5)).setCell ⟨g13,5,none⟩ (.int .i64 v6)).setCell ⟨g13,6,none⟩ (.int .i64 0))) (by have b13':=b13;obtain ⟨⟨k0,k1,k2,k3,k4,k5,k6⟩,f0,f1,f2,f3,f4,f5,f6⟩:=blk7f b13';have lz:=b13.lt;go_simp;try (with_reducible rfl)) ?_
      refine hK14.out _ _ ((have hg13:w.heap.size≤g13:=(by omega);gf_S (Cl.far (Cl.far (Cl.far (Cl.far (Cl.far (Cl.far (Cl.far I hg13 0 (.int .i64 v1)) hg13 1 (.int .i64 v2)) hg13 2 (.int .i64 v3)) hg13 3 (.int .i64 v4)) hg13 4 (.int .i64 v5)) hg13 5 (.int .i64 v6)) hg13 6 (.int .i64 0)))) (fun hHeld=>?_)
      have hg13:w.heap.size≤g13:=(by omega)
      have hA13:blkOf A ≠ some g13:=(fun e=>by have:=HAK.out g13 e;omega)
      replace own:=(Own.far (Own.far (Own.far (Own.far (Own.far (Own.far (Own.far own (p:=⟨g13,0,none⟩) hA13 (.int .i64 v1)) (p:=⟨g13,1,none⟩) hA13 (.int .i64 v2)) (p:=⟨g13,2,none⟩) hA13 (.int .i64 v3)) (p:=⟨g13,3,none⟩) hA13 (.int .i64 v4)) (p:=⟨g13,4,none⟩) hA13 (.int .i64 v5)) (p:=⟨g13,5,none⟩) hA13 (.int .i64 v6)) (p:=⟨g13,6,none⟩) hA13 (.int .i64 0))
      replace I:=(Cl.far (Cl.far (Cl.far (Cl.far (Cl.far (Cl.far (Cl.far I hg13 0 (.int .i64 v1)) hg13 1 (.int .i64 v2)) hg13 2 (.int .i64 v3)) hg13 3 (.int .i64 v4)) hg13 4 (.int .i64 v5)) hg13 5 (.int .i64 v6)) hg13 6 (.int .i64 0))
      have b14:=SkpW.set7 b13 (.int .i64 v1) (.int .i64 v2) (.int .i64 v3) (.int .i64 v4) (.int .i64 v5) (.int .i64 v6) (.int .i64 0)
      generalize ((((((((w11.setCell ⟨g13,0,none⟩ (.int .i64 v1)).setCell ⟨g13,1,none⟩ (.int .i64 v2)).setCell ⟨g13,2,none⟩ (.int .i64 v3)).setCell ⟨g13,3,none⟩ (.int .i64 v4)).setCell ⟨g13,4,none⟩ (.int .i64 v5)).setCell ⟨g13,5,none⟩ (.int .i64 v6)).setCell ⟨g13,6,none⟩ (.int .i64 0))) = wq at *
      refine wpAnyH_done (by kernel_rfl) ?_ _
      go_wp2_with fail
      go_meet
      case rel=>exact ⟨v1,v2,v3,v4,v5,v6,q6,g13,rfl,hg13,fun j e e2=>hA13 (by rw [e,e2]),b14,I,own,Lib.hid (fun v7 q7 h7=>by rw [numsV_yes h1,numsV_yes h2,numsV_yes h3,numsV_yes h4,numsV_yes h5,numsV_yes h6,numsV_yes h7];rfl),Lib.hid (fun v p er hx her=>HNO.out er _ _ (by rw [numsV_yes h1,numsV_yes h2,numsV_yes h3,numsV_yes h4,numsV_yes h5,numsV_yes h6,numsV_no hx her]) her),Lib.hid (by have:=(getV_ok (s:=b) (a:=(q5:Nat)) (by rw [h6])).2.2.2;rw [h6] at this;exact this)⟩
    case ku1x13 =>
     refine take_new (t:=33) (cs:=#[.int .i64 0,.int .i64 0,.int .i64 0,.int .i64 0,.int .i64 0,.int .i64 0,.int .i64 0]) 13 (Op.alloc 33) 0 rfl rfl rfl (by kernel_rfl) ?eu1xb34x13 ?_
     case eu1xb34x13=>(go_simp;try (first | with_reducible rfl | rfl))
     intro g13 w13 b13 gr13 l13 m13
     have z13:=gr13.size
     try simp only [World.size_drew] at z13
     try simp only [World.size_drew,World.size_alloc] at l13
     replace own:=Own.grow0 own gr13
     replace I:=ClW.Cl.grow0 I gr13
     refine hK13.out _ _ ?su1xb34x13 (fun hHeld=>?ru1xb34x13)
     case su1xb34x13=>((try dsimp only);exact gf_S I)
     try simp only [zSa,zSb,zSc]
     refine zR 1 (fun K1 hK1=>?_)
     refine ClW.take_callb 1 35 #[.pointer (some ⟨c,0,none⟩)] (Op.call { callee:=Callee.value (Operand.tmp 15),args:=#[],argTypes:=#[] }) 3 rfl rfl rfl (by kernel_rfl) (ClW.exec_numv 15 _ _ _ _ c _ rfl) ?_
     refine (num_b c b q _ (gf_G I) hs).mono ?_
     rintro e w1 (⟨v1,q1,rfl,h1,hL⟩ | ⟨v,qq,er,rfl,hx,her,hL⟩)
     rotate_left
     ·refine .inr ⟨_,rfl,?_⟩
      try simp only [Exit.then,Exit.inBlock]
      exact ⟨rfl,GfEnd.no (HNO.out er _ _ (by rw [numsV_no hx her]) her) her (gf_left I hL)⟩
     have zL:=hL.2.size
     try simp only [World.size_drew] at zL
     replace own:=own_left own hL (by omega)
     replace I:=gf_left I hL
     try replace b13:=b13.grown hL.2 (by simp;omega)
     refine .inl ⟨_,rfl,?_⟩
     refine hK1.out _ _ ?su1xb34x1 (fun hHeld=>?ru1xb34x1)
     case su1xb34x1=>((try dsimp only);exact gf_S I)
     try simp only [zSa,zSb,zSc]
     refine zR 3 (fun K3 hK3=>?_)
     refine ClW.take_callb 3 35 #[.pointer (some ⟨c,0,none⟩)] (Op.call { callee:=Callee.value (Operand.tmp 17),args:=#[],argTypes:=#[] }) 3 rfl rfl rfl (by kernel_rfl) (ClW.exec_numv 17 _ _ _ _ c _ rfl) ?_
     refine (num_b c b q1 _ (gf_G I) hs).mono ?_
     rintro e w3 (⟨v2,q2,rfl,h2,hL⟩ | ⟨v,qq,er,rfl,hx,her,hL⟩)
     rotate_left
     ·refine .inr ⟨_,rfl,?_⟩
      try simp only [Exit.then,Exit.inBlock]
      exact ⟨rfl,GfEnd.no (HNO.out er _ _ (by rw [numsV_yes h1,numsV_no hx her]) her) her (gf_left I hL)⟩
     have zL:=hL.2.size
     try simp only [World.size_drew] at zL
     replace own:=own_left own hL (by omega)
     replace I:=gf_left I hL
     try replace b13:=b13.grown hL.2 (by simp;omega)
     refine .inl ⟨_,rfl,?_⟩
     refine hK3.out _ _ ?su1xb34x3 (fun hHeld=>?ru1xb34x3)
     case su1xb34x3=>((try dsimp only);exact gf_S I)
     try simp only [zSa,zSb,zSc]
     refine zR 5 (fun K5 hK5=>?_)
     refine ClW.take_callb 5 35 #[.pointer (some ⟨c,0,none⟩)] (Op.call { callee:=Callee.value (Operand.tmp 19),args:=#[],argTypes:=#[] }) 3 rfl rfl rfl (by kernel_rfl) (ClW.exec_numv 19 _ _ _ _ c _ rfl) ?_
     refine (num_b c b q2 _ (gf_G I) hs).mono ?_
     rintro e w5 (⟨v3,q3,rfl,h3,hL⟩ | ⟨v,qq,er,rfl,hx,her,hL⟩)
     rotate_left
     ·refine .inr ⟨_,rfl,?_⟩
      try simp only [Exit.then,Exit.inBlock]
      exact ⟨rfl,GfEnd.no (HNO.out er _ _ (by rw [numsV_yes h1,numsV_yes h2,numsV_no hx her]) her) her (gf_left I hL)⟩
     have zL:=hL.2.size
     try simp only [World.size_drew] at zL
     replace own:=own_left own hL (by omega)
     replace I:=gf_left I hL
     try replace b13:=b13.grown hL.2 (by simp;omega)
     refine .inl ⟨_,rfl,?_⟩
     refine hK5.out _ _ ?su1xb34x5 (fun hHeld=>?ru1xb34x5)
     case su1xb34x5=>((try dsimp only);exact gf_S I)
     try simp only [zSa,zSb,zSc]
     refine zR 7 (fun K7 hK7=>?_)
     refine ClW.take_callb 7 35 #[.pointer (some ⟨c,0,none⟩)] (Op.call { callee:=Callee.value (Operand.tmp 21),args:=#[],argTypes:=#[] }) 3 rfl rfl rfl (by kernel_rfl) (ClW.exec_numv 21 _ _ _ _ c _ rfl) ?_
     refine (num_b c b q3 _ (gf_G I) hs).mono ?_
     rintro e w7 (⟨v4,q4,rfl,h4,hL⟩ | ⟨v,qq,er,rfl,hx,her,hL⟩)
     rotate_left
     ·refine .inr ⟨_,rfl,?_⟩
      try simp only [Exit.then,Exit.inBlock]
      exact ⟨rfl,GfEnd.no (HNO.out er _ _ (by rw [numsV_yes h1,numsV_yes h2,numsV_yes h3,numsV_no hx her]) her) her (gf_left I hL)⟩
     have zL:=hL.2.size
     try simp only [World.size_drew] at zL
     replace own:=own_left own hL (by omega)
     replace I:=gf_left I hL
     try replace b13:=b13.grown hL.2 (by simp;omega)
     refine .inl ⟨_,rfl,?_⟩
     refine hK7.out _ _ ?su1xb34x7 (fun hHeld=>?ru1xb34x7)
     case su1xb34x7=>((try dsimp only);exact gf_S I)
     try simp only [zSa,zSb,zSc]
     refine zR 9 (fun K9 hK9=>?_)
     refine ClW.take_callb 9 35 #[.pointer (some ⟨c,0,none⟩)] (Op.call { callee:=Callee.value (Operand.tmp 23),args:=#[],argTypes:=#[] }) 3 rfl rfl rfl (by kernel_rfl) (ClW.exec_numv 23 _ _ _ _ c _ rfl) ?_
     refine (num_b c b q4 _ (gf_G I) hs).mono ?_
     rintro e w9 (⟨v5,q5,rfl,h5,hL⟩ | ⟨v,qq,er,rfl,hx,her,hL⟩)
     rotate_left
     ·refine .inr ⟨_,rfl,?_⟩
      try simp only [Exit.then,Exit.inBlock]
      exact ⟨rfl,GfEnd.no (HNO.out er _ _ (by rw [numsV_yes h1,numsV_yes h2,numsV_yes h3,numsV_yes h4,numsV_no hx her]) her) her (gf_left I hL)⟩
     have zL:=hL.2.size
     try simp only [World.size_drew] at zL
     replace own:=own_left own hL (by omega)
     replace I:=gf_left I hL
     try replace b13:=b13.grown hL.2 (by simp;omega)
     refine .inl ⟨_,rfl,?_⟩
     refine hK9.out _ _ ?su1xb34x9 (fun hHeld=>?ru1xb34x9)
     case su1xb34x9=>((try dsimp only);exact gf_S I)
     try simp only [zSa,zSb,zSc]
     refine zR 11 (fun K11 hK11=>?_)
     refine ClW.take_callb 11 35 #[.pointer (some ⟨c,0,none⟩)] (Op.call { callee:=Callee.value (Operand.tmp 25),args:=#[],argTypes:=#[] }) 3 rfl rfl rfl (by kernel_rfl) (ClW.exec_numv 25 _ _ _ _ c _ rfl) ?_
     refine (num_b c b q5 _ (gf_G I) hs).mono ?_
     rintro e w11 (⟨v6,q6,rfl,h6,hL⟩ | ⟨v,qq,er,rfl,hx,her,hL⟩)
     rotate_left
     ·refine .inr ⟨_,rfl,?_⟩
      try simp only [Exit.then,Exit.inBlock]
      exact ⟨rfl,GfEnd.no (HNO.out er _ _ (by rw [numsV_yes h1,numsV_yes h2,numsV_yes h3,numsV_yes h4,numsV_yes h5,numsV_no hx her]) her) her (gf_left I hL)⟩
     have zL:=hL.2.size
     try simp only [World.size_drew] at zL
     replace own:=own_left own hL (by omega)
     replace I:=gf_left I hL
     try replace b13:=b13.grown hL.2 (by simp;omega)
     refine .inl ⟨_,rfl,?_⟩
     refine hK11.out _ _ ?su1xb34x11 (fun hHeld=>?ru1xb34x11)
     case su1xb34x11=>((try dsimp only);exact gf_S I)
     try simp only [zSa,zSb,zSc]
     refine zO 12 (.build 33 #[(0,.tmp 16),(1,.tmp 18),(2,.tmp 20),(3,.tmp 22),(4,.tmp 24),(5,.tmp 26)]) 33 ?_
     refine zR 14 (fun K14 hK14=>?_)
     refine take_store 14 (Op.store 33 (Operand.tmp 4) (Operand.tmp 27)) 0 rfl rfl rfl (by kernel_rfl) (w':=(((((((w11.setCell ⟨g13,0,none⟩ (.int .i64 v1)).setCell ⟨g13,1,none⟩ (.int .i64 v2)).setCell ⟨g13,2,none⟩ (.int .i64 v3)).setCell ⟨g13,3,none⟩ (.int .i64 v4)).setCell ⟨g13,4,none⟩ (.int .i64 v5)).setCell ⟨g13,5,none⟩ (.int .i64 v6)).setCell ⟨g13,6,none⟩ (.int .i64 0))) (by have b13':=b13;obtain ⟨⟨k0,k1,k2,k3,k4,k5,k6⟩,f0,f1,f2,f3,f4,f5,f6⟩:=blk7f b13';have lz:=b13.lt;go_simp;try (with_reducible rfl)) ?_
     refine hK14.out _ _ ((have hg13:w.heap.size≤g13:=(by omega);gf_S (Cl.far (Cl.far (Cl.far (Cl.far (Cl.far (Cl.far (Cl.far I hg13 0 (.int .i64 v1)) hg13 1 (.int .i64 v2)) hg13 2 (.int .i64 v3)) hg13 3 (.int .i64 v4)) hg13 4 (.int .i64 v5)) hg13 5 (.int .i64 v6)) hg13 6 (.int .i64 0)))) (fun hHeld=>?_)
     have hg13:w.heap.size≤g13:=(by omega)
     have hA13:blkOf A ≠ some g13:=(fun e=>by have:=HAK.out g13 e;omega)
     replace own:=(Own.far (Own.far (Own.far (Own.far (Own.far (Own.far (Own.far own (p:=⟨g13,0,none⟩) hA13 (.int .i64 v1)) (p:=⟨g13,1,none⟩) hA13 (.int .i64 v2)) (p:=⟨g13,2,none⟩) hA13 (.int .i64 v3)) (p:=⟨g13,3,none⟩) hA13 (.int .i64 v4)) (p:=⟨g13,4,none⟩) hA13 (.int .i64 v5)) (p:=⟨g13,5,none⟩) hA13 (.int .i64 v6)) (p:=⟨g13,6,none⟩) hA13 (.int .i64 0))
     replace I:=(Cl.far (Cl.far (Cl.far (Cl.far (Cl.far (Cl.far (Cl.far I hg13 0 (.int .i64 v1)) hg13 1 (.int .i64 v2)) hg13 2 (.int .i64 v3)) hg13 3 (.int .i64 v4)) hg13 4 (.int .i64 v5)) hg13 5 (.int .i64 v6)) hg13 6 (.int .i64 0))
     have b14:=SkpW.set7 b13 (.int .i64 v1) (.int .i64 v2) (.int .i64 v3) (.int .i64 v4) (.int .i64 v5) (.int .i64 v6) (.int .i64 0)
     generalize ((((((((w11.setCell ⟨g13,0,none⟩ (.int .i64 v1)).setCell ⟨g13,1,none⟩ (.int .i64 v2)).setCell ⟨g13,2,none⟩ (.int .i64 v3)).setCell ⟨g13,3,none⟩ (.int .i64 v4)).setCell ⟨g13,4,none⟩ (.int .i64 v5)).setCell ⟨g13,5,none⟩ (.int .i64 v6)).setCell ⟨g13,6,none⟩ (.int .i64 0))) = wq at *
     refine wpAnyH_done (by kernel_rfl) ?_ _
     go_wp2_with fail
     go_meet
     case rel=>exact ⟨v1,v2,v3,v4,v5,v6,q6,g13,rfl,hg13,fun j e e2=>hA13 (by rw [e,e2]),b14,I,own,Lib.hid (fun v7 q7 h7=>by rw [numsV_yes h1,numsV_yes h2,numsV_yes h3,numsV_yes h4,numsV_yes h5,numsV_yes h6,numsV_yes h7];rfl),Lib.hid (fun v p er hx her=>HNO.out er _ _ (by rw [numsV_yes h1,numsV_yes h2,numsV_yes h3,numsV_yes h4,numsV_yes h5,numsV_yes h6,numsV_no hx her]) her),Lib.hid (by have:=(getV_ok (s:=b) (a:=(q5:Nat)) (by rw [h6])).2.2.2;rw [h6] at this;exact this)⟩
   case rest =>
    obtain ⟨v1,v2,v3,v4,v5,v6,q6,g,rfl,hgw,hAg,bV,I,own,HN6,HX6,HV6⟩:=hcut
    have zI1:=I.size
    have cN:=gf_S I
    rcases getV_three b q6 with ⟨v7,q7,h7⟩ | ⟨v,qq,er,hx,her⟩
    ·have HNV:=Lib.hid (HN6.out v7 q7 h7)
     have HQ7:Hid (q7≤b.length):=Lib.hid (by
      have:=(getV_ok (s:=b) (a:=(q6:Nat)) (by rw [h7])).2.2.1
      rw [h7] at this
      dsimp only at this
      omega)
     have hv7:0≤v7∧v7≤9223372036854775807:=by
      have:=(getV_ok (s:=b) (a:=(q6:Nat)) (by rw [h7])).2.2.2
      rw [h7] at this
      exact this
     have hv6:=HV6.out
     have HM2:Hid (takeF b = endF b ((acc ++ [meOf [v1,v2,v3,v4,v5,v6,v7]]) ++ (metsV b (N - (k + 1)) (q7:Nat)).1,(metsV b (N - (k + 1)) (q7:Nat)).2)):=Lib.hid (by
      have hm:=HMM.out
      rw [HM.out,hm,metsV_yes HNV.out,show N - (k + 1) = m by omega]
      simp)
     have C:=num_y c b q6 q7 v7 _ (gf_G I) h7 hs
     clear HM HN6 HX6 HNV HV6 h7
     go_wp2_with fail
     refine C.mono ?_
     clear C cN
     rintro e w7 ⟨rfl,hL⟩
     have zL:=hL.2.size
     replace own:=own_left own hL (by omega)
     replace I:=gf_left I hL
     replace bV:=bV.grown hL.2 (by simp;omega)
     clear hL
     obtain ⟨⟨k0,k1,k2,k3,k4,k5,k6⟩,f0,f1,f2,f3,f4,f5,f6⟩:=blk7f bV
     have lz:=bV.lt
     go_upto_region 8 with fail
     have hA13:blkOf A ≠ some g:=fun e=>hAg g e rfl
     replace own:=own.far (p:=⟨g,6,none⟩) hA13 (.int .i64 9223372036854775807)
     replace I:=I.far hgw 6 (.int .i64 9223372036854775807)
     have bW:=bV.set 6 (.int .i64 9223372036854775807)
     clear k0 k1 k2 k3 k4 k5 k6 f0 f1 f2 f3 f4 f5 f6 lz bV
     generalize w7.setCell ⟨g,6,none⟩ (.int .i64 9223372036854775807) = w8 at *
     have bW:Blk w8 g 33 #[.int .i64 v1,.int .i64 v2,.int .i64 v3,.int .i64 v4,.int .i64 v5,.int .i64 v6,.int .i64 9223372036854775807]:=bW
     have hw1:IntKind.i64.wrap (9223372036854775807 - v6) = 9223372036854775807 - v6:=by rw [IntKind.wrap_i64];omega
     obtain ⟨⟨k0,k1,k2,k3,k4,k5,k6⟩,f0,f1,f2,f3,f4,f5,f6⟩:=blk7f bW
     have lz:=bW.lt
     by_cases hc7:v7≤9223372036854775807 - v6
     ·have HLT:Hid (meOf [v1,v2,v3,v4,v5,v6,v7] = ⟨v1,v2,v3,v4,v5,v6,v6 + v7⟩):=Lib.hid (by
       show Me.mk v1 v2 v3 v4 v5 v6 (lateV v6 v7) = _
       unfold lateV
       rw [if_pos hc7])
      have hw2:IntKind.i64.wrap (v6 + v7) = v6 + v7:=by rw [IntKind.wrap_i64];omega
      clear hv6 hv7
      go_upto_region 10 with fail
      replace own:=own.far (p:=⟨g,6,none⟩) hA13 (.int .i64 (v6 + v7))
      replace I:=I.far hgw 6 (.int .i64 (v6 + v7))
      have bX:=bW.set 6 (.int .i64 (v6 + v7))
      clear k0 k1 k2 k3 k4 k5 k6 f0 f1 f2 f3 f4 f5 f6 lz bW
      generalize w8.setCell ⟨g,6,none⟩ (.int .i64 (v6 + v7)) = w9 at *
      have bX:Blk w9 g 33 #[.int .i64 v1,.int .i64 v2,.int .i64 v3,.int .i64 v4,.int .i64 v5,.int .i64 v6,.int .i64 (v6 + v7)]:=bX
      obtain ⟨⟨k0,k1,k2,k3,k4,k5,k6⟩,f0,f1,f2,f3,f4,f5,f6⟩:=blk7f bX
      have cO:=(gf_O I).cell_ 0 rfl
      have oA:=own.alloc (.cells #[.int .i64 v1,.int .i64 v2,.int .i64 v3,.int .i64 v4,.int .i64 v5,.int .i64 v6,.int .i64 (v6 + v7)] 33)
      have IA:=I.alloc (.cells #[.int .i64 v1,.int .i64 v2,.int .i64 v3,.int .i64 v4,.int .i64 v5,.int .i64 v6,.int .i64 (v6 + v7)] 33)
      have hrn:Rd (w9.alloc (.cells #[.int .i64 v1,.int .i64 v2,.int .i64 v3,.int .i64 v4,.int .i64 v5,.int .i64 v6,.int .i64 (v6 + v7)] 33)) (w9.heap.size + 1) 7 (some ⟨w9.heap.size,0,none⟩) 1 (mcells [⟨v1,v2,v3,v4,v5,v6,v6 + v7⟩]):=rd_new (W0:=w9) (t:=33) (cs:=mcells [⟨v1,v2,v3,v4,v5,v6,v6 + v7⟩]) (size:=7) (m:=1) rfl rfl
      have zI2:=I.size
      have hbl:=fun j e=>(own.blk j e).1
      go_wp2_with (at_builtin;with_reducible refine wp_append El_met rfl (s:=.tmp 41) (x:=.tmp 43) rfl rfl oA rfl hrn (mcells_one _) (by unfold maxLen;omega) (by omega) (by simp;omega) ?_;intro A5 c5 w5 o5 hg5 hat5;clear hrn;have I5:=IA.grown hg5 hbl;have bO5:=gf_O I5;have cO5:=bO5.cell_ 0 rfl;have fO5:=bO5.frozen 0;have lO5:=bO5.lt)
      have zI5:=I5.size
      have hne:blkOf A5 ≠ some (c + 3):=fun e=>by have:=(o5.blk _ e).1;omega
      have o6:=o5.far (p:=⟨c + 3,0,none⟩) hne (.slice A5 (k + 1) c5)
      have I6:=gf_set (A2:=A5) (n2:=k + 1) (c2:=c5) I5
      have e1:mcells acc ++ mcells [⟨v1,v2,v3,v4,v5,v6,v6 + v7⟩] = mcells (acc ++ [meOf [v1,v2,v3,v4,v5,v6,v7]]):=by rw [HLT.out];simp [mcells]
      rw [e1] at o6
      go_roundw
      case rel=>exact ⟨k + 1,q7,A5,c5,_,by go_num,by omega,HQ7,HM2,I6,o6⟩
      case measure=>simp [intOf];omega
     ·have HLT:Hid (meOf [v1,v2,v3,v4,v5,v6,v7] = ⟨v1,v2,v3,v4,v5,v6,9223372036854775807⟩):=Lib.hid (by
       show Me.mk v1 v2 v3 v4 v5 v6 (lateV v6 v7) = _
       unfold lateV
       rw [if_neg hc7])
      clear hv6 hv7
      go_upto_region 10 with fail
      clear k0 k1 k2 k3 k4 k5 k6 f0 f1 f2 f3 f4 f5 f6 lz
      have bX:=bW
      clear bW
      obtain ⟨w9,hw9⟩:∃ w9,w9 = w8:=⟨w8,rfl⟩
      subst hw9
      obtain ⟨⟨k0,k1,k2,k3,k4,k5,k6⟩,f0,f1,f2,f3,f4,f5,f6⟩:=blk7f bX
      have cO:=(gf_O I).cell_ 0 rfl
      have oA:=own.alloc (.cells #[.int .i64 v1,.int .i64 v2,.int .i64 v3,.int .i64 v4,.int .i64 v5,.int .i64 v6,.int .i64 (9223372036854775807)] 33)
      have IA:=I.alloc (.cells #[.int .i64 v1,.int .i64 v2,.int .i64 v3,.int .i64 v4,.int .i64 v5,.int .i64 v6,.int .i64 (9223372036854775807)] 33)
      have hrn:Rd (w9.alloc (.cells #[.int .i64 v1,.int .i64 v2,.int .i64 v3,.int .i64 v4,.int .i64 v5,.int .i64 v6,.int .i64 (9223372036854775807)] 33)) (w9.heap.size + 1) 7 (some ⟨w9.heap.size,0,none⟩) 1 (mcells [⟨v1,v2,v3,v4,v5,v6,9223372036854775807⟩]):=rd_new (W0:=w9) (t:=33) (cs:=mcells [⟨v1,v2,v3,v4,v5,v6,9223372036854775807⟩]) (size:=7) (m:=1) rfl rfl
      have zI2:=I.size
      have hbl:=fun j e=>(own.blk j e).1
      go_wp2_with (at_builtin;with_reducible refine wp_append El_met rfl (s:=.tmp 41) (x:=.tmp 43) rfl rfl oA rfl hrn (mcells_one _) (by unfold maxLen;omega) (by omega) (by simp;omega) ?_;intro A5 c5 w5 o5 hg5 hat5;clear hrn;have I5:=IA.grown hg5 hbl;have bO5:=gf_O I5;have cO5:=bO5.cell_ 0 rfl;have fO5:=bO5.frozen 0;have lO5:=bO5.lt)
      have zI5:=I5.size
      have hne:blkOf A5 ≠ some (c + 3):=fun e=>by have:=(o5.blk _ e).1;omega
      have o6:=o5.far (p:=⟨c + 3,0,none⟩) hne (.slice A5 (k + 1) c5)
      have I6:=gf_set (A2:=A5) (n2:=k + 1) (c2:=c5) I5
      have e1:mcells acc ++ mcells [⟨v1,v2,v3,v4,v5,v6,9223372036854775807⟩] = mcells (acc ++ [meOf [v1,v2,v3,v4,v5,v6,v7]]):=by rw [HLT.out];simp [mcells]
      rw [e1] at o6
      go_roundw
      case rel=>exact ⟨k + 1,q7,A5,c5,_,by go_num,by omega,HQ7,HM2,I6,o6⟩
      case measure=>simp [intOf];omega
    ·have HE:=Lib.hid (HX6.out v qq er hx her)
     have C:=num_n c b q6 v qq er _ (gf_G I) hx her hs
     clear HM HN6 HX6 HV6 hx
     go_wp2_with fail
     refine C.mono ?_
     clear C cN
     rintro e w7 ⟨rfl,hL⟩
     replace I:=gf_left I hL
     clear hL
     go_wp2_with fail
     simp [bodyPost]
     exact GfEnd.no HE.out her I
  ·have hkN:N - k = 0:=by omega
   have hkI:¬ (k:Int) < (N:Int):=by omega
   have hM:=HM.out
   rw [hkN] at hM
   have hM2:takeF b = endF b (acc,((q:Nat):Int),0):=by
    rw [hM]
    simp [metsV]
   have cT:=(gf_T I).cell_ 0 rfl
   clear hkN hM HM
   by_cases hq:q = b.length
   ·have HE:Hid (takeF b = (acc,0)):=Lib.hid (by rw [hM2];unfold endF;rw [if_pos rfl,if_pos (by rw [hq])])
    have C:=end_yes c b q wr (gf_G I) (by omega) (by omega) (by omega)
    clear hM2 hq HQ
    go_wp2_with fail
    refine C.mono ?_
    rintro e w9 ⟨rfl,hL⟩
    replace own:=own_left own hL (by omega)
    replace I:=gf_left I hL
    clear hL cT C
    go_wp2_with fail
    refine bodyPost_ret (results_none rfl _ _ _) rfl ?_
    refine Or.inl ⟨by rw [HE.out],rfl,((q:Nat):Int),A,k,c',I,?_⟩
    rw [HE.out]
    exact own
   ·have HE:Hid (takeF b = ([],6)):=Lib.hid (by rw [hM2];unfold endF;rw [if_pos rfl,if_neg (by dsimp only;omega)])
    have C:=end_bad c b q wr (gf_G I) (by have:=HQ.out;omega) (by omega)
    clear hM2 hq HQ
    go_wp2_with fail
    refine C.mono ?_
    rintro e w9 ⟨rfl,hL⟩
    replace I:=gf_left I hL
    clear hL cT C
    go_wp2_with fail
    simp [bodyPost]
    exact GfEnd.no HE.out (by decide) I
end HedW
end Go.Proofs.YtnpncpoiiikafaaGreat
