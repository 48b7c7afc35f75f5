/- ZrW -/
import Derived.Test.YtnpncpoiiikafaaGreatZruPQt
import Derived.Test.YtnpncpoiiikafaaGreatSuWQt
import Derived.Test.YtnpncpoiiikafaaGreatFrontWQt
import Derived.WalkMore
import Derived.ScopeJumps
import Derived.Deep.LoopGhost
import Derived.Test.YtnpncpoiiikafaaGreatSqPQt
import Derived.Test.YtnpncpoiiikafaaGreatSuEQt
import Derived.Test.YtnpncpoiiikafaaGreatHufPQt
import Derived.Test.YtnpncpoiiikafaaGreatAppQt
set_option linter.unusedVariables false
set_option linter.unusedSimpArgs false
set_option linter.unnecessarySimpa false
set_option maxRecDepth 100000
set_option maxHeartbeats 32000000
namespace Go.Proofs.YtnpncpoiiikafaaGreat
open Go.RowKit
namespace ZruW
open SufW (nt nt_len nt_at w64s)
open FrontW (wp_make El_int)
def up1 (l:List Nat):List Nat:=l.map (· + 1)
theorem digits_any (n:Nat) (hn:n≤1000000) (w:World) :
 Calls Tryz.prog 151 #[.int .i64 n] w fun e w'=>∃ A m c,e = .returned (.slice A m c)∧(syZ (n + 1)).length = m∧Own w' w.heap.size 3 1 A m c (nt (up1 (syZ (n + 1))))∧Below w.heap.size w w':=by
 by_cases h0:n < 1
 ·have e:n = 0:=by omega
  subst e
  go_enter Tryz.func151,Tryz.ntmps151
  go_wp2_with fail
  go_ret
  exact ⟨none,0,0,rfl,by rw [syZ_one _ (by omega)];rfl,by rw [syZ_one _ (by omega)];exact Own.nil _ _ _ _,Below.refl _ _⟩
 ·have h1:¬ (n:Int) < 1:=by omega
  go_enter Tryz.func151,Tryz.ntmps151
  go_wp2_with fail
  go_loopw [3,4] (fun v3 v4 wr=>∃ (A:Option Addr) (k c mm:Nat) (D:List Nat),v3 = .slice A k c∧v4 = .int .u64 (mm:Nat)∧1≤mm∧mm≤1000001∧D.length = k∧D ++ syZ mm = syZ (n + 1)∧Own wr w.heap.size 3 1 A k c (nt (up1 D))∧Below w.heap.size w wr) (fun _ v4 _=>(intOf v4).toNat)
  case atStart=>exact ⟨none,0,0,n + 1,[],rfl,by go_num,by omega,by omega,rfl,rfl,Own.nil _ _ _ _,Below.refl _ _⟩
  case round =>
   obtain ⟨A,k,c,mm,D,rfl,rfl,hm1,hm2,hk,hD,ho,hb⟩:=hrel
   have HK:=Lib.hid hk
   have HD:=Lib.hid hD
   have hkb:k≤1000000:=by
    have h1:=sy_len (n + 1) (by omega)
    have h2:=congrArg List.length hD
    simp only [List.length_append] at h2
    omega
   clear hk hD
   by_cases hlt:1 < mm
   ·have hI:(1:Int) < (mm:Int):=by omega
    have HS:=Lib.hid (syZ_two mm (by omega))
    obtain ⟨b,hb2⟩:∃ b,mm % 2 = b:=⟨_,rfl⟩
    have hb1:b≤1:=by omega
    have hand:bits BinOp.and IntKind.u64 (mm:Int) 1 = (b:Int):=by
     have:=bits_nat_and .u64 mm 1 (by simp [IntKind.bits];omega) (by decide)
     rw [Nat.and_one_is_mod,hb2,IntKind.wrap_u64] at this
     rw [show (1:Int) = ((1:Nat):Int) from rfl,this]
     omega
    have hw1:wrap64 (b:Int) = (b:Int):=by unfold wrap64;omega
    have hw2:wrap64 ((b:Int) + 1) = (b:Int) + 1:=by unfold wrap64;omega
    rw [hb2] at HS
    clear hb2
    go_wp2_with (at_builtin;refine wp_append El_int rfl rfl rfl (ho.alloc _) rfl (Rd.of_blk (m:=1) (cs:=[.int .i64 ((b:Int) + 1)]) (Blk.new wr _ _) rfl) (by simp [Value.oneCell']) (by unfold maxLen;omega) (by omega) (by have:=hb.size;simp;omega) ?_;intro A4 c4 w4 o4 hg4 hat4)
    go_roundw
    case rel =>
     refine ⟨A4,k + 1,c4,mm / 2,D ++ [b],rfl,by go_num,by omega,by omega,by rw [List.length_append,HK.out];rfl,?_,?_,?_⟩
     ·rw [← HD.out,HS.out,List.append_assoc];rfl
     ·simpa [up1,nt,ints] using o4
     ·exact (hb.alloc hb.size _).grown hg4 (by have:=hb.size;simp;omega) (fun j hj=>by have:=ho.blk j hj;omega)
    case measure=>simp [intOf];omega
   ·have hI:¬ (1:Int) < (mm:Int):=by omega
    have HE:=Lib.hid (syZ_one mm (by omega))
    go_wp2_with fail
    go_ret
    have e:D = syZ (n + 1):=by rw [← HD.out,HE.out,List.append_nil]
    exact ⟨A,k,c,rfl,by rw [← e];exact HK.out,by rw [← e];exact ho,hb⟩
theorem up1_at (l:List Nat) (j:Nat) (h:j < l.length):(up1 l)[j]? = some (l[j] + 1):=by simp [up1,h]
def FlushP (w0:World) (bR bO base most:Nat) (D:List Nat) (run:Nat) (w:World):Prop:=∃ (X:Option Addr) (k c:Nat),k≤most∧Blk w bR 3 #[.int .i64 (run:Nat)]∧Blk w bO 84 #[.slice X k c]∧Own w base 3 1 X k c (nt D)∧blkOf X ≠ some bR∧blkOf X ≠ some bO∧Below w0.heap.size w0 w
theorem flush_any (w0:World) (bR bO base run k c:Nat) (X:Option Addr) (D:List Nat) (w:World) (hb0:Below w0.heap.size w0 w) (h1:w0.heap.size≤base) (h2:w0.heap.size≤bR) (h3:w0.heap.size≤bO) (hRO:bR ≠ bO)
 (hR:Blk w bR 3 #[.int .i64 (run:Nat)]) (hO:Blk w bO 84 #[.slice X k c]) (ho:Own w base 3 1 X k c (nt D)) (hX:blkOf X ≠ some bR) (hX2:blkOf X ≠ some bO) (hbs:base≤w.heap.size) (hk:k + run≤1000000) :
 Calls Tryz.prog 150 #[.pointer (some ⟨bR,0,none⟩),.pointer (some ⟨bO,0,none⟩)] w fun e w'=>e = .returned (.tuple #[])∧FlushP w0 bR bO base (k + run) (D ++ syZ (run + 1)) 0 w'∧w.heap.size≤w'.heap.size:=by
 obtain ⟨c0,_,_⟩:=blk1 hR
 have hrl:=hR.lt
 have hol:=hO.lt
 go_enter Tryz.func150,Tryz.ntmps150
 go_wp2_with fail
 refine (digits_any run (by omega) w).mono ?_
 rintro e w1 ⟨A,m,cm,rfl,hm,oA,hb1⟩
 have hml:m≤run:=by have:=sy_len (run + 1) (by omega);omega
 have R1:=hR.below hb1 hrl
 have O1:=hO.below hb1 hol
 have o1:=ho.below hb1
 have B1:=hb0.trans (hb1.mono hb0.size)
 have hAX:∀ j,blkOf A = some j → blkOf X ≠ some j:=fun j hj e=>by have:=(ho.blk j e).2;have:=(oA.blk j hj).1;omega
 have hz1:=hb1.size
 have HM:=Lib.hid hm
 clear hR hO ho hb0 c0 hb1
 go_wp2_with fail
 go_loopw [7] (fun iv wr=>∃ (j kx cx:Nat) (Y:Option Addr),iv = .int .i64 j∧j≤m∧kx = k + j∧Blk wr bR 3 #[.int .i64 (run:Nat)]∧Blk wr bO 84 #[.slice Y kx cx]∧Own wr base 3 1 Y kx cx (nt (D ++ (syZ (run + 1)).take j))∧Own wr w.heap.size 3 1 A m cm (nt (up1 (syZ (run + 1)))) ∧
  blkOf Y ≠ some bR∧blkOf Y ≠ some bO∧(∀ j,blkOf A = some j → blkOf Y ≠ some j)∧Below w0.heap.size w0 wr∧w.heap.size≤wr.heap.size) (fun iv _=>m - (intOf iv).toNat)
 case atStart=>exact ⟨0,k,c,X,rfl,by omega,rfl,R1,O1,by simpa using o1,oA,hX,hX2,hAX,B1,hz1⟩
 case round =>
  clear R1 O1 o1 oA hX hX2 hAX B1 hz1
  obtain ⟨j,kx,cx,Y,rfl,hj,hkx,R1,O1,o1,oA,hX,hX2,hAX,B1,hz1⟩:=hrel
  obtain ⟨cO,fO,lO⟩:=blk1 O1
  obtain ⟨cR,fR,lR⟩:=blk1 R1
  have hkb:kx≤1000000:=by omega
  have HKX:=Lib.hid hkx
  clear hkx
  by_cases hlt:j < m
  ·have hjl:j < (syZ (run + 1)).length:=by rw [HM.out];exact hlt
   obtain ⟨x,hx⟩:∃ x,(syZ (run + 1))[j] = x:=⟨_,rfl⟩
   have hxb:x≤1:=by rw [← hx];exact sy_bit _ _ (List.getElem_mem _)
   have hcx:(nt (up1 (syZ (run + 1))))[j]? = some (.int .i64 ((x + 1:Nat):Int)):=nt_at _ _ _ (by rw [up1_at _ _ hjl,hx])
   have HTK:=Lib.hid (show (syZ (run + 1)).take (j + 1) = (syZ (run + 1)).take j ++ [x] by rw [List.take_succ_eq_append_getElem hjl,hx])
   obtain ⟨b,o,rfl,hbb,hcc⟩:=oA.rd.at_ (by omega)
   have cA:wr.cell? ⟨b,o + j,none⟩ = some (.int .i64 ((x + 1:Nat):Int)):=by
    obtain ⟨hj2,hj3⟩:=List.getElem?_eq_some_iff.1 hcx
    rw [hcc j hj2,hj3]
   have hjI:(j:Int) < (m:Int):=by omega
   have hj0:(0:Int)≤(j:Int):=by omega
   have hj1:IntKind.i64.wrap ((j:Int) + 1) = (j:Int) + 1:=w64s (by omega) (by omega)
   have hxw:IntKind.i64.wrap (x:Int) = (x:Int):=w64s (by omega) (by omega)
   clear hcc hcx hx hjl
   go_wp2_with (at_builtin;refine wp_append El_int rfl rfl rfl (o1.alloc _) rfl (Rd.of_blk (m:=1) (cs:=[.int .i64 (x:Int)]) (Blk.new wr _ _) rfl) (by simp [Value.oneCell']) (by unfold maxLen;omega) (by omega) (by simp;omega) ?_;intro A4 c4 w4 o4 hg4 hat4;have O4:=(O1.alloc (.cells #[.int .i64 (x:Int)] 3)).grown hg4 (fun e=>hX2 e.symm);obtain ⟨cO4,fO4,lO4⟩:=blk1 O4)
   go_roundw
   case rel =>
    have hYO:blkOf A4 ≠ some bO:=by
     rcases hat4 with e | e
     ·rw [e];exact hX2
     ·rw [e];intro e2;simp at e2;omega
    have hYR:blkOf A4 ≠ some bR:=by
     rcases hat4 with e | e
     ·rw [e];exact hX
     ·rw [e];intro e2;simp at e2;omega
    have hlb:=oA.blk b rfl
    have hYA:∀ j,blkOf (some ⟨b,o,none⟩) = some j → blkOf A4 ≠ some j:=by
     intro j hj
     rcases hat4 with e | e
     ·rw [e];exact hAX j hj
     ·rw [e];intro e2;simp [blkOf] at e2 hj;omega
    have R4:=(R1.alloc (.cells #[.int .i64 (x:Int)] 3)).grown hg4 (fun e=>hX e.symm)
    have oA4:=Own.other (B:=Y) (oA.alloc (.cells #[.int .i64 (x:Int)] 3)) hg4 hAX
    have B4:Below w0.heap.size w0 w4:=(B1.alloc B1.size _).grown hg4 (by have:=B1.size;simp;omega) (fun j hj=>by have:=o1.blk j hj;omega)
    have hz4:=hg4.size
    simp only [World.size_alloc] at hz4
    refine ⟨j + 1,kx + 1,c4,A4,by go_num,by omega,by have:=HKX.out;omega,R4.far (p:=⟨bO,0,none⟩) hRO _,blk_eq (O4.set 0 _) (by simp),?_,oA4.far (p:=⟨bO,0,none⟩) (by simp [blkOf];omega) _,hYR,hYO,hYA,B4.setCell (p:=⟨bO,0,none⟩) h3 _,by rw [World.size_setCell];omega⟩
    refine Own.far ?_ (p:=⟨bO,0,none⟩) hYO _
    rw [HTK.out,← List.append_assoc]
    simpa [nt,ints] using o4
   case measure=>simp [intOf];omega
  ·have hjm:j = m:=by omega
   have HT:=Lib.hid (show (syZ (run + 1)).take j = syZ (run + 1) by rw [List.take_of_length_le (by rw [HM.out];omega)])
   have hI:¬ (j:Int) < (m:Int):=by omega
   clear hjm
   go_wp2_with fail
   go_end0
   refine ⟨rfl,⟨Y,kx,cx,by have:=HKX.out;omega,blk_eq (R1.set 0 (.int .i64 0)) (by simp),O1.far (p:=⟨bR,0,none⟩) (fun e=>hRO e.symm) _,?_,hX,hX2,B1.setCell (p:=⟨bR,0,none⟩) h2 _⟩,by rw [World.size_setCell];exact hz1⟩
   have:=o1
   rw [HT.out] at this
   exact this.far (p:=⟨bR,0,none⟩) hX _
end ZruW
end Go.Proofs.YtnpncpoiiikafaaGreat
namespace Go.Proofs.YtnpncpoiiikafaaGreat
open Go.RowKit
namespace ZruW
open SufW (nt nt_len nt_at w64s)
open FrontW (wp_make El_int)
theorem pack_zero (r:List Nat) (j k:Nat) (h:j < r.length) (h0:r[j] = 0):packZ (r.drop j) k = packZ (r.drop (j + 1)) (k + 1):=by
 rw [List.drop_eq_getElem_cons h,h0,packZ]
theorem pack_one (r:List Nat) (j k y:Nat) (h:j < r.length) (h0:r[j] = y + 1):packZ (r.drop j) k = syZ (k + 1) ++ (y + 2) :: packZ (r.drop (j + 1)) 0:=by
 rw [List.drop_eq_getElem_cons h,h0,packZ]
theorem pack_any (A:Option Addr) (n c:Nat) (r:List Nat) (w:World) (h:Rd w w.heap.size 1 A n (nt r)) (hn:n≤100000) (hr:∀ x ∈ r,x≤255) :
 Calls Tryz.prog 97 #[.slice A n c] w fun e w'=>∃ X k c',e = .returned (.tuple #[.slice X k c',.int .i64 0])∧k≤n∧Rd w' w'.heap.size 1 X k (nt (packZ r 0))∧Below w.heap.size w w':=by
 have hmf:∀ (fn:Fn) (first cap:Array Value) (w:World),(Instr.makeFunc fn first cap).run Tryz.prog w = .ok (.func fn first cap) w:=fun _ _ _ _=>rfl
 have hrl:r.length = n:=by have:=h.len;rw [nt_len] at this;omega
 have HR:=Lib.hid hr
 have HRL:=Lib.hid hrl
 clear hr hrl
 go_enter Tryz.func97,Tryz.ntmps97
 go_wp2_with fail
 go_step3
 go_wp2_with (at_make;refine wp_make El_int rfl rfl w.heap.size n rfl rfl (by simp) (by omega) (by unfold maxLen;omega) (Nat.le_refl _) ?_;intro w2 o2 hg2)
 have hb2:Below w.heap.size w w2:=below_grow (Below.refl _ _) hg2
 obtain ⟨bO,hbO⟩:∃ bO,w2.heap.size = bO:=⟨_,rfl⟩
 have hwO:w.heap.size < bO:=by rw [← hbO];exact (o2.blk w.heap.size rfl).2
 obtain ⟨w3,hw3⟩:∃ w3,(w2.alloc (.cells #[.slice (some ⟨w.heap.size,0,none⟩) 0 n] 84)).alloc (.cells #[.int .i64 0] 3) = w3:=⟨_,rfl⟩
 have F0:FlushP w (bO + 1) bO w.heap.size 0 [] 0 w3:=by
  refine ⟨some ⟨w.heap.size,0,none⟩,0,n,by omega,?_,?_,?_,by simp [blkOf];omega,by simp [blkOf];omega,?_⟩
  ·have:=Blk.new (w2.alloc (.cells #[.slice (some ⟨w.heap.size,0,none⟩) 0 n] 84)) 3 #[.int .i64 0]
   rw [World.size_alloc,hbO,hw3] at this
   exact this
  ·have:=(Blk.new w2 84 #[.slice (some ⟨w.heap.size,0,none⟩) 0 n]).alloc (.cells #[.int .i64 0] 3)
   rw [hbO,hw3] at this
   exact this
  ·rw [← hw3];exact (o2.alloc _).alloc _
  ·rw [← hw3];exact (hb2.alloc hb2.size _).alloc (by have:=hb2.size;simp;omega) _
 rw [hbO,hw3]
 go_step3
 go_wp2_with fail
 clear hw3 hbO o2 hg2 hb2 hmf
 have hz0:w.heap.size≤bO:=by omega
 go_loopw [15] (fun iv wr=>∃ (j run most:Nat) (D:List Nat),iv = .int .i64 j∧j≤n∧most + run≤j∧FlushP w (bO + 1) bO w.heap.size most D run wr∧D ++ packZ (r.drop j) run = packZ r 0) (fun iv _=>n - (intOf iv).toNat)
 case atStart=>exact ⟨0,0,0,[],rfl,by omega,by omega,F0,rfl⟩
 case round =>
  clear F0
  obtain ⟨j,run,most,D,rfl,hj,hmr,F,hD⟩:=hrel
  obtain ⟨X,k,ck,hkm,bR,bOx,oX,hX1,hX2,HB⟩:=F
  obtain ⟨cR,fR,lR⟩:=blk1 bR
  obtain ⟨cO,fO,lO⟩:=blk1 bOx
  have HD:=Lib.hid hD
  clear hD
  by_cases hlt:j < n
  ·have hjr:j < r.length:=by rw [HRL.out];exact hlt
   obtain ⟨x,hx⟩:∃ x,r[j] = x:=⟨_,rfl⟩
   have hx255:x≤255:=by rw [← hx];exact HR.out _ (List.getElem_mem _)
   obtain ⟨b,o,rfl,hbb,hcc⟩:=(h.below HB).at_ (by omega)
   have cx:wr.cell? ⟨b,o + j,none⟩ = some (.int .i64 (x:Nat)):=by
    have hjn:j < (nt r).length:=by rw [nt_len];exact hjr
    have h2:=nt_at r j x (by rw [List.getElem?_eq_getElem hjr,hx])
    obtain ⟨_,h3⟩:=List.getElem?_eq_some_iff.1 h2
    rw [hcc j hjn,h3]
   have hjI:(j:Int) < (n:Int):=by omega
   have hj0:(0:Int)≤(j:Int):=by omega
   have hj1:IntKind.i64.wrap ((j:Int) + 1) = (j:Int) + 1:=w64s (by omega) (by omega)
   have hx0:¬ (x:Int) < 0:=by omega
   have hxb:¬ (255:Int) < (x:Int):=by omega
   clear hcc
   cases x with
   | zero =>
    have HS:=Lib.hid (pack_zero r j run hjr hx)
    have hrw:IntKind.i64.wrap ((run:Int) + 1) = (run:Int) + 1:=w64s (by omega) (by omega)
    clear hx hjr
    go_wp2_with fail
    go_roundw
    case rel=>exact ⟨j + 1,run + 1,most,D,by go_num,by omega,by omega,⟨X,k,ck,hkm,blk_eq (bR.set 0 _) (by simp),bOx.far (p:=⟨bO + 1,0,none⟩) (by dsimp only;omega) _,oX.far (p:=⟨bO + 1,0,none⟩) hX1 _,hX1,hX2,HB.setCell (p:=⟨bO + 1,0,none⟩) (by dsimp only;omega) _⟩,by rw [← HS.out];exact HD.out⟩
    case measure=>simp [intOf];omega
   | succ y =>
    have HS:=Lib.hid (pack_one r j run y hjr hx)
    have hne:¬ (y:Int) + 1 = 0:=by omega
    have hyw:IntKind.i64.wrap ((y:Int) + 1 + 1) = (y:Int) + 1 + 1:=w64s (by omega) (by omega)
    have C:=flush_any w (bO + 1) bO w.heap.size run k ck X D wr HB (Nat.le_refl _) (by omega) (by omega) (by omega) bR bOx oX hX1 hX2 HB.size (by omega)
    clear hx hjr cR fR lR cO fO lO bR bOx oX hX1 hX2 HB
    go_wp2_with fail
    refine C.mono ?_
    clear C
    rintro e w5 ⟨rfl,⟨Y,m,cm,hm,bR,bOx,oX,hX1,hX2,HB⟩,hz5⟩
    obtain ⟨cO,fO,lO⟩:=blk1 bOx
    go_wp2_with (at_builtin;refine wp_append El_int rfl rfl rfl (oX.alloc _) rfl (Rd.of_blk (m:=1) (cs:=[.int .i64 ((y:Int) + 1 + 1)]) (Blk.new w5 _ _) rfl) (by simp [Value.oneCell']) (by unfold maxLen;omega) (by omega) (by have:=HB.size;simp;omega) ?_;intro A4 c4 w4 o4 hg4 hat4;have O4:=(bOx.alloc (.cells #[.int .i64 ((y:Int) + 1 + 1)] 3)).grown hg4 (fun e=>hX2 e.symm);obtain ⟨cO4,fO4,lO4⟩:=blk1 O4)
    go_roundw
    case rel =>
     have lR:=bR.lt
     have hYO:blkOf A4 ≠ some bO:=by
      rcases hat4 with e | e
      ·rw [e];exact hX2
      ·rw [e];intro e2;simp at e2;omega
     have hYR:blkOf A4 ≠ some (bO + 1):=by
      rcases hat4 with e | e
      ·rw [e];exact hX1
      ·rw [e];intro e2;simp at e2;omega
     have R4:=(bR.alloc (.cells #[.int .i64 ((y:Int) + 1 + 1)] 3)).grown hg4 (fun e=>hX1 e.symm)
     have B4:Below w.heap.size w w4:=(HB.alloc HB.size _).grown hg4 (by have:=HB.size;simp;omega) (fun j hj=>by have:=oX.blk j hj;omega)
     refine ⟨j + 1,0,k + run + 1,D ++ syZ (run + 1) ++ [y + 2],by go_num,by omega,by omega,⟨A4,m + 1,c4,by omega,R4.far (p:=⟨bO,0,none⟩) (by dsimp only;omega) _,blk_eq (O4.set 0 _) (by simp),Own.far (p:=⟨bO,0,none⟩) ?_ hYO _,hYR,hYO,B4.setCell (p:=⟨bO,0,none⟩) (by dsimp only;omega) _⟩,?_⟩
     ·have e:nt (D ++ syZ (run + 1) ++ [y + 2]) = nt (D ++ syZ (run + 1)) ++ [.int .i64 ((y:Int) + 1 + 1)]:=by
       simp [nt,ints];omega
      rw [e];exact o4
     ·rw [← HD.out,HS.out];simp
    case measure=>simp [intOf];omega
  ·have hI:¬ (j:Int) < (n:Int):=by omega
   have HE:Hid (D ++ syZ (run + 1) = packZ r 0):=Lib.hid (by
    have:=HD.out
    rw [List.drop_eq_nil_of_le (by rw [HRL.out];omega),packZ] at this
    exact this)
   have C:=flush_any w (bO + 1) bO w.heap.size run k ck X D wr HB (Nat.le_refl _) (by omega) (by omega) (by omega) bR bOx oX hX1 hX2 HB.size (by omega)
   clear cR fR lR cO fO lO bR bOx oX hX1 hX2 HB
   go_wp2_with fail
   refine C.mono ?_
   clear C
   rintro e w5 ⟨rfl,⟨Y,m,cm,hm,bR,bOx,oX,hX1,hX2,HB⟩,hz5⟩
   obtain ⟨cO,fO,lO⟩:=blk1 bOx
   go_wp2_with fail
   try rw [Exit.noGoto_ret]
   go_ret2
   exact ⟨Y,m,cm,rfl,by omega,by rw [← HE.out];exact oX.rd,HB⟩
end ZruW
end Go.Proofs.YtnpncpoiiikafaaGreat
namespace Go.Proofs.YtnpncpoiiikafaaGreat
open Go.RowKit
namespace SqW
open SufW (nt nt_len Sa letters bwtL w64s bwt_len prim_in)
open FrontW (runR ranks_any runR_len runR_ok)
open HufW (encV encode_any)
theorem hufB_le (r:List Int) (h:r.length≤20000) (hb:r.any HufW.badS = false):(HufW.hufB r).length≤750000:=by
 have hk:=HufW.bL_chk r (by omega)
 have h1:=TabW.tabB_len hk
 have h2:=LenW.symsB_len (HufW.bL r) hk r (HufW.bL_ok r (by omega) hb)
 unfold HufW.hufB
 rw [List.length_append]
 omega
theorem nt_natL (l:List Int) (h:∀ x ∈ l,0≤x):nt (natL l) = ints l:=by
 show ints (intL (natL l)) = ints l
 rw [intL_nat l h]
theorem symbols_any (s:List UInt8) (w:World) (hs:s.length≤20000) :
 Calls Tryz.prog 41 #[str s] w fun e w'=>∃ (A:List Nat) (pr:Nat) (X:Option Addr) (k c:Nat),e = .returned (.tuple #[.slice X k c,.int .i64 (pr:Nat),.int .i64 0])∧Sa (letters s) A∧A[pr]? = some 0∧Rd w' w'.heap.size 1 X k (ints (symsOf s A))∧Below w.heap.size w w':=by
 go_enter Tryz.func41,Tryz.ntmps41
 go_wp2_with fail
 refine (BwW.forward_any s w hs).mono ?_
 rintro e w1 ⟨A,pr,rfl,sa,hpr,hb1⟩
 have hbl:=bwt_len s A sa
 have HSA:=Lib.hid sa
 have HPR:=Lib.hid hpr
 have HOK:=Lib.hid (runR_in (bwtL s A))
 obtain ⟨L,hL⟩:∃ L,bwtL s A = L:=⟨_,rfl⟩
 have HSY:=Lib.hid (show ints (symsOf s A) = nt (ZruW.packZ (natL (runR L).2) 0) by rw [← hL];rfl)
 rw [hL] at hbl HOK
 rw [hL]
 have hLl:L.length≤20000:=by omega
 clear sa hpr hbl hL
 have C:=ranks_any L w1 (by omega)
 go_wp2_with fail
 refine C.mono ?_
 clear C
 rintro e w2 ⟨X,c,rfl,o2,hb2⟩
 have r2:Rd w2 w2.heap.size 1 X L.length (nt (natL (runR L).2)):=by rw [nt_natL _ (fun x hx=>(HOK.out x hx).1)];exact o2.rd
 have C:=ZruW.pack_any X L.length c (natL (runR L).2) w2 r2 (by omega) (fun x hx=>by
  simp only [natL,List.mem_map] at hx
  obtain ⟨y,hy,rfl⟩:=hx
  have:=HOK.out y hy
  omega)
 have HB2:=hb1.trans (hb2.mono hb1.size)
 clear r2 o2 hb2 hb1
 go_wp2_with fail
 refine C.mono ?_
 clear C
 rintro e w3 ⟨Y,k,c2,rfl,hk,r3,hb3⟩
 have HB3:=HB2.trans (hb3.mono HB2.size)
 go_wp2_with fail
 go_ret3
 exact ⟨A,pr,Y,k,c2,rfl,HSA.out,HPR.out,by rw [HSY.out];exact r3,HB3⟩
theorem pack_any (s:List UInt8) (w:World) (hs:s.length≤20000) :
 Calls Tryz.prog 11 #[str s] w fun e w'=>∃ (A:List Nat) (pr:Nat),e = .returned (.tuple #[str (packB s A pr),.int .i64 0])∧Sa (letters s) A∧A[pr]? = some 0∧Below w.heap.size w w':=by
 go_enter Tryz.func11,Tryz.ntmps11
 go_wp2_with fail
 refine (symbols_any s w hs).mono ?_
 rintro e w1 ⟨A,pr,X,k,c,rfl,sa,hpr,r1,hb1⟩
 have hsl:=syms_len s A sa
 have hkl:(symsOf s A).length = k:=rd_len r1
 obtain ⟨hp1,_,_⟩:=prim_in s A sa pr hpr
 have HSI:=Lib.hid (syms_in s A)
 have HEN:=Lib.hid (enc_syms s A sa hs)
 have HPB:=Lib.hid (show packB s A pr = lput [(s.length:Int),(pr:Int),(k:Int)] ++ textB (HufW.hufB (symsOf s A)) by rw [← hkl];rfl)
 have HSA:=Lib.hid sa
 have HPR:=Lib.hid hpr
 obtain ⟨Y,hY⟩:∃ Y,symsOf s A = Y:=⟨_,rfl⟩
 rw [hY] at HSI HEN HPB r1 hsl hkl
 have hk2:k≤20000:=by omega
 clear sa hpr hkl hsl hY
 obtain ⟨l3,hl3⟩:∃ l3,[(s.length:Int),(pr:Int),(k:Int)] = l3:=⟨_,rfl⟩
 have hlen:l3.length = 3:=by rw [← hl3];rfl
 have hIn:∀ j (h:j < l3.length),∃ x:Nat,l3[j] = (x:Int)∧x≤20000:=by
  subst hl3
  intro j h
  match j,h with
  | 0,_=>exact ⟨s.length,rfl,hs⟩
  | 1,_=>exact ⟨pr,rfl,by omega⟩
  | 2,_=>exact ⟨k,rfl,hk2⟩
 have hbs:w1.alloc (.cells #[.int .i64 (s.length:Int),.int .i64 (pr:Int),.int .i64 (k:Int)] 3) = w1.alloc (.cells (ints l3).toArray 3):=by rw [← hl3];rfl
 rw [hl3] at HPB
 have HBS:=Lib.hid hbs
 have HLE:=Lib.hid hlen
 have HIN:=Lib.hid hIn
 clear hbs hlen hIn hl3
 have rN:Rd (w1.alloc (.cells (ints l3).toArray 3)) (w1.heap.size + 1) 1 (some ⟨w1.heap.size,0,none⟩) 3 (ints l3):=rd_new rfl (by rw [ints_len,HLE.out])
 have HB1:Below w.heap.size w (w1.alloc (.cells (ints l3).toArray 3)):=hb1.alloc hb1.size _
 have hzz:w1.heap.size + 1≤(w1.alloc (.cells (ints l3).toArray 3)).heap.size:=by simp
 have r1':=(r1.below ((Below.refl _ _).alloc (Nat.le_refl _) (.cells (ints l3).toArray 3))).more (show w1.heap.size≤w1.heap.size + 1 by omega)
 go_wp2_with fail
 rw [HBS.out]
 generalize w1.alloc (.cells (ints l3).toArray 3) = w2 at *
 have hz1:w.heap.size≤w1.heap.size + 1:=by have:=hb1.size;omega
 go_loopw [7,29] (fun v7 iv wr=>∃ j:Nat,iv = .int .i64 j∧j≤3∧v7 = str (lput (l3.take j))∧(lput (l3.take j)).length≤9 * j∧Below (w1.heap.size + 1) w2 wr) (fun _ iv _=>3 - (intOf iv).toNat)
 case atStart=>exact ⟨0,rfl,by omega,rfl,by simp [lput],Below.refl _ _⟩
 case round =>
  obtain ⟨j,rfl,hj,rfl,hjl,HB⟩:=hrel
  by_cases hlt:j < 3
  ·have hjl3:j < l3.length:=by rw [HLE.out];exact hlt
   obtain ⟨x,hx,hxb⟩:=HIN.out j hjl3
   have HS:=Lib.hid (lput_snoc l3 j hjl3)
   rw [hx,Int.toNat_natCast] at HS
   have cx:wr.cell? ⟨w1.heap.size,j,none⟩ = some (.int .i64 (x:Nat)):=by
    obtain ⟨b,o,e,hbb,hcc⟩:=(rN.below HB).at_ (by omega)
    simp only [Option.some.injEq,Addr.mk.injEq] at e
    obtain ⟨rfl,rfl,_⟩:=e
    have:=hcc j (by rw [ints_len];exact hjl3)
    simp only [Nat.zero_add] at this
    rw [this]
    simp [ints,hx]
   have hjI:(j:Int) < 3:=by omega
   have hj0:(0:Int)≤(j:Int):=by omega
   have hj1:IntKind.i64.wrap ((j:Int) + 1) = (j:Int) + 1:=w64s (by omega) (by omega)
   have hvl:=vlen_le x
   have hvb:=vbytes_len x
   have hvl2:(vbytes x).length≤9:=by omega
   have hl27:(lput (l3.take j)).length≤27:=by omega
   have C:=VarW.put_yes x wr (by omega)
   clear hvb hvl hx
   go_wp2_with fail
   refine C.mono ?_
   clear C
   rintro e w5 ⟨rfl,hb5⟩
   have HB5:=HB.trans (hb5.mono (Nat.le_trans hzz HB.size))
   go_wp2_with fail
   go_roundw
   case rel=>exact ⟨j + 1,by go_num,by omega,by rw [HS.out];exact congrArg Value.string (str_cat _ _),by rw [HS.out,List.length_append];omega,HB5⟩
   case measure=>simp [intOf];omega
  ·have hj3:j = 3:=by omega
   have HT:=Lib.hid (show l3.take j = l3 by rw [List.take_of_length_le (by rw [HLE.out];omega)])
   have hl27:(lput l3).length≤27:=by have:=hjl;rw [HT.out] at this;omega
   have hYl:Y.length = k:=rd_len r1
   have hbl:=hufB_le Y (by omega) (by rw [List.any_eq_false];intro x hx;have:=HSI.out x hx;simp [HufW.badS];omega)
   have htl:(textB (HufW.hufB Y)).length≤100000:=by rw [textB_len];omega
   have HB2:=HB1.trans (HB.mono hz1)
   have C:=encode_any X k c Y wr ((r1'.below HB).more (Nat.le_trans hzz HB.size)) hk2 (fun x hx=>by have:=HSI.out x hx;unfold I64;omega) _ HEN.out
   dsimp only at C
   clear hYl hbl HEN HSI hj3 rN r1 r1' HB1 HB
   go_wp2_with fail
   refine C.mono ?_
   clear C
   rintro e w5 ⟨rfl,hb5⟩
   have HB5:=HB2.trans (hb5.mono HB2.size)
   rw [HT.out]
   go_wp2_with fail
   go_ret2
   exact ⟨A,pr,by rw [HPB.out];rfl,HSA.out,HPR.out,HB5⟩
end SqW
end Go.Proofs.YtnpncpoiiikafaaGreat
