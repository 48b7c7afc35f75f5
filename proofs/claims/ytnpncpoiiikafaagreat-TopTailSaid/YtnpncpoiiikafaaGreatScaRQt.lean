/- ScaR -/
import Derived.Test.YtnpncpoiiikafaaGreatScaAQt
import Derived.Test.YtnpncpoiiikafaaGreatDecWQt
import Derived.Test.YtnpncpoiiikafaaGreatSqUQt
import Derived.Test.YtnpncpoiiikafaaGreatScaTQt
import Derived.Test.YtnpncpoiiikafaaGreatMemQt
set_option linter.unusedVariables false
set_option linter.unusedSimpArgs false
set_option linter.unnecessarySimpa false
set_option maxRecDepth 100000
set_option maxHeartbeats 32000000
namespace Go.Proofs.YtnpncpoiiikafaaGreat
open Go.RowKit
namespace ScaW
open SkpW (Me mc blk7f set7 low7)
open SufW (w64s)
open HedW (mcells mcells_len rd_mlen rd_mets Blocks_any blocksV blocksV_ok aloneB aloneB_iff)
open FraW (Fr frZ frA sumV getF getF_ok Get_any)
open BloW (decB Decode_any)
theorem loadV_parts {s:List UInt8} {m:Me} (h:(loadV sumV s m).2 = 0) :
 (getF sumV s m.at_).2 = 0∧(getF sumV s m.at_).1.kind = 2∧(decB (getF sumV s m.at_).1.body).2 = 0∧isMeta (getF sumV s m.at_).1 = true∧metaF (getF sumV s m.at_).1 = m∧loadV sumV s m = decB (getF sumV s m.at_).1.body:=by
 unfold loadV at h ⊢
 by_cases h1:(getF sumV s m.at_).2 = 0
 ·rw [if_pos h1] at h ⊢
  by_cases h2:(getF sumV s m.at_).1.kind = 2∧(getF sumV s m.at_).1.tz - (getF sumV s m.at_).1.at_ = m.size
  ·rw [if_pos h2] at h ⊢
   by_cases h3:(decB (getF sumV s m.at_).1.body).2 = 0
   ·rw [if_pos h3] at h ⊢
    by_cases h4:isMeta (getF sumV s m.at_).1 = true∧metaF (getF sumV s m.at_).1 = m
    ·rw [if_pos h4];exact ⟨h1,h2.1,h3,h4.1,h4.2,rfl⟩
    ·rw [if_neg h4] at h;simp at h
   ·rw [if_neg h3] at h;exact absurd h h3
  ·rw [if_neg h2] at h;simp at h
 ·rw [if_neg h1] at h;exact absurd h h1
theorem Load_ok (s:List UInt8) (m:Me) (w:World) (hs:s.length≤100000) (ha:0≤m.at_) (h:(loadV sumV s m).2 = 0) :
 Calls Tryz.prog 33 #[str s,.agg (mc m)] w fun e w'=>∃ A n c,e = .returned (.tuple #[.slice A n c,.int .i64 0])∧n≤c∧Rd w' w'.heap.size 3 A n (rcells (loadV sumV s m).1)∧Below w.heap.size w w':=by
 obtain ⟨h1,h2,h3,h4,h5,h6⟩:=loadV_parts h
 rw [h6]
 obtain ⟨a,hae⟩:=Int.eq_ofNat_of_zero_le ha
 rw [hae] at h1 h2 h3 h4 h5 ⊢
 obtain ⟨k1,k2,k3,_,_,k6,_⟩:=getF_ok h1
 obtain ⟨w0,hw0⟩:∃ w0,w.alloc (.cells (mc m) 33) = w0:=⟨_,rfl⟩
 have bm:Blk w0 w.heap.size 33 (mc m):=by rw [← hw0];exact Blk.new _ _ _
 have HB:Below w.heap.size w w0:=by rw [← hw0];exact (Below.refl w.heap.size w).alloc (Nat.le_refl _) _
 have C:=Get_any s a w0 (by omega) _ rfl
 obtain ⟨y,hy⟩:∃ y,getF sumV s a = y:=⟨_,rfl⟩
 rw [hy] at h1 h2 h3 h4 h5 k1 k2 k3 k6 C ⊢
 obtain ⟨fr,er⟩:=y
 dsimp only at h1 h2 h3 h4 h5 k1 k2 k3 k6 C ⊢
 subst h1
 have CD:=fun w=>Decode_any fr.body w (by omega) _ rfl
 have CM:=fun w=>meta_any fr w (by omega) (by omega) (by omega) (by omega) (m,true) (by unfold metaV;rw [if_pos h4,h5])
 obtain ⟨dd,hdd⟩:∃ dd,decB fr.body = dd:=⟨_,rfl⟩
 rw [hdd] at h3 CD ⊢
 obtain ⟨dl,de⟩:=dd
 dsimp only at h3 CD ⊢
 subst h3
 obtain ⟨m0,m1,m2,m3,m4,m5,m6⟩:=m
 obtain ⟨fk,fb,fa,ft⟩:=fr
 dsimp only at h2 k1 k2 k3 k6 CD hae
 have hm1:ft - fa = m1:=by have:=congrArg Me.size h5;exact this
 have hm0:m0 = (a:Int):=hae
 have hsub:IntKind.i64.wrap (ft - fa) = m1:=by rw [w64s (by omega) (by omega)];exact hm1
 have hfa:frA ⟨fk,fb,fa,ft⟩ = #[.int .i64 fk,str fb,.int .i64 fa,.int .i64 ft]:=rfl
 have hmc:mc ⟨m0,m1,m2,m3,m4,m5,m6⟩ = #[.int .i64 m0,.int .i64 m1,.int .i64 m2,.int .i64 m3,.int .i64 m4,.int .i64 m5,.int .i64 m6]:=rfl
 rw [hfa] at C CM
 rw [hmc] at CM bm hw0 ⊢
 have HW:=Lib.hid hw0
 have HCM:=Lib.hid CM
 have HCD:=Lib.hid CD
 subst h2
 subst hm0
 clear h h4 h5 h6 hy hdd hae k1 k2 k3 k6 hfa hmc hw0 CM CD hm1 ha
 obtain ⟨⟨c0,_⟩,_⟩:=blk7f bm
 go_enter Tryz.func33,Tryz.ntmps33
 go_upto_region 1 with fail
 rw [HW.out]
 go_wp2_with fail
 refine C.mono ?_
 clear C
 rintro e w1 ⟨rfl,hb1⟩
 obtain ⟨w2,hw2⟩:∃ w2,w1.alloc (.cells #[.int .i64 2,str fb,.int .i64 fa,.int .i64 ft] 74) = w2:=⟨_,rfl⟩
 obtain ⟨gX,hgX⟩:∃ gX,w1.heap.size = gX:=⟨_,rfl⟩
 have HW2:=Lib.hid hw2
 have HGX:=Lib.hid hgX
 have hb2:Below w0.heap.size w0 w2:=by rw [← hw2];exact hb1.alloc hb1.size _
 have bX:Blk w2 gX 74 #[.int .i64 2,str fb,.int .i64 fa,.int .i64 ft]:=by rw [← hw2,← hgX];exact Blk.new _ _ _
 replace bm:=bm.below hb2 bm.lt
 replace HB:=HB.trans (hb2.mono HB.size)
 clear hw2 hgX hb2 hb1 c0
 go_upto_region 2 with fail
 rw [HW2.out,HGX.out]
 obtain ⟨x0,x1,x2,x3,_,_,_,_,_⟩:=blk4 bX
 obtain ⟨⟨c0,c1,c2,c3,c4,c5,c6⟩,_⟩:=blk7f bm
 go_wp2_with fail
 refine (HCD.out _).mono ?_
 clear HCD x0 x1 x2 x3 c0 c1 c2 c3 c4 c5 c6
 rintro e w3 ⟨A,n,c,rfl,hnc,R,hb3⟩
 replace bm:=bm.below hb3 bm.lt
 replace bX:=bX.below hb3 bX.lt
 replace HB:=HB.trans (hb3.mono HB.size)
 obtain ⟨x0,x1,x2,x3,_,_,_,_,_⟩:=blk4 bX
 clear hb3
 go_wp2_with fail
 refine (HCM.out _).mono ?_
 clear HCM x0 x1 x2 x3
 rintro e w4 ⟨rfl,hb4⟩
 obtain ⟨w5,hw5⟩:∃ w5,w4.alloc (.cells #[.int .i64 (a:Int),.int .i64 m1,.int .i64 m2,.int .i64 m3,.int .i64 m4,.int .i64 m5,.int .i64 m6] 33) = w5:=⟨_,rfl⟩
 obtain ⟨gM,hgM⟩:∃ gM,w4.heap.size = gM:=⟨_,rfl⟩
 have HW5:=Lib.hid hw5
 have HGM:=Lib.hid hgM
 have hb5:Below w3.heap.size w3 w5:=by rw [← hw5];exact hb4.alloc hb4.size _
 have bM:Blk w5 gM 33 #[.int .i64 (a:Int),.int .i64 m1,.int .i64 m2,.int .i64 m3,.int .i64 m4,.int .i64 m5,.int .i64 m6]:=by rw [← hw5,← hgM];exact Blk.new _ _ _
 replace bm:=bm.below hb5 bm.lt
 have R5:=(R.below hb5).more hb5.size
 replace HB:=HB.trans (hb5.mono HB.size)
 clear hw5 hgM hb5 hb4 R bX
 go_upto_region 10 with fail
 rw [HW5.out,HGM.out]
 obtain ⟨⟨c0,c1,c2,c3,c4,c5,c6⟩,_⟩:=blk7f bm
 obtain ⟨⟨y0,y1,y2,y3,y4,y5,y6⟩,_⟩:=blk7f bM
 go_wp2_with fail
 go_ret2
 exact ⟨_,_,_,rfl,hnc,R5,HB⟩
def sumC (l:List Me):Int:=(l.map Me.count).sum
theorem sumC_snoc (l:List Me) (k:Nat) (h:k < l.length):sumC (l.take (k + 1)) = sumC (l.take k) + l[k].count:=by
 unfold sumC
 rw [List.take_succ_eq_append_getElem h,List.map_append,List.sum_append]
 simp
theorem El_rc:El Tryz.prog 29 98 3 32:=El.mk' Tryz.underlying29 (z:=.agg #[.int .i64 0,.int .i64 0,.string ⟨#[]⟩]) (by kernel_rfl) rfl (by decide)
theorem rcells_app (a b:List Rc):rcells a ++ rcells b = rcells (a ++ b):=by simp [rcells]
theorem Records_ok (s:List UInt8) (A:Option Addr) (n c:Nat) (l:List Me) (w:World) (hs:s.length≤100000) (h:Rd w w.heap.size 7 A n (mcells l)) (hv:blocksV l = 0) (hld:∀ m ∈ l,(loadV sumV s m).2 = 0∧((loadV sumV s m).1.length:Int) = m.count∧0≤m.at_) :
 Calls Tryz.prog 8 #[str s,.slice A n c] w fun e w'=>∃ X N c',e = .returned (.tuple #[.slice X N c',.int .i64 0])∧(N:Int) = sumC l∧Below w.heap.size w w':=by
 have hl:=rd_mlen h
 obtain ⟨h1,_,h3⟩:=blocksV_ok hv
 have hn:n≤1000:=by omega
 have C:=Blocks_any A n c l w h (by omega) 0 hv
 have HAL:=Lib.hid h3
 have HLD:=Lib.hid hld
 have HL:=Lib.hid hl
 clear hv h3 h1 hl hld
 go_enter Tryz.func8,Tryz.ntmps8
 go_wp2_with fail
 refine C.mono ?_
 clear C
 rintro e w1 ⟨rfl,hb1⟩
 go_wp2_with fail
 go_loopw [7,19] (fun ov iv wr=>∃ (k:Nat) (X:Option Addr) (N c':Nat) (rs:List Rc),iv = .int .i64 k∧ov = .slice X N c'∧k≤n∧N≤20000 * k∧Hid ((N:Int) = sumC (l.take k))∧Own wr w.heap.size 98 3 X N c' (rcells rs)∧Below w.heap.size w wr) (fun _ iv _=>n - (intOf iv).toNat)
 case atStart=>exact ⟨0,none,0,0,[],rfl,rfl,by omega,by omega,Lib.hid (by simp [sumC]),Own.nil _ _ _ _,hb1⟩
 case round =>
  clear hb1
  obtain ⟨k,X,N,c',rs,rfl,rfl,hk,hN,HS,own,HB⟩:=hrel
  by_cases hlt:k < n
  ·have hkl:k < l.length:=by rw [HL.out];exact hlt
   obtain ⟨b,o,rfl,hb,hcc⟩:=rd_mets (h.below HB) (by omega)
   obtain ⟨q0,q1,q2,q3,q4,q5,q6⟩:=hcc k hkl
   obtain ⟨ld1,ld2,ld3⟩:=HLD.out l[k] (List.getElem_mem hkl)
   have hal:=HAL.out l[k] (List.getElem_mem hkl)
   rw [aloneB_iff] at hal
   have HSN:=Lib.hid (sumC_snoc l k hkl)
   have hkI:(k:Int) < (n:Int):=by omega
   have hk0:(0:Int)≤(k:Int):=by omega
   have hk1:IntKind.i64.wrap ((k:Int) + 1) = (k:Int) + 1:=w64s (by omega) (by omega)
   obtain ⟨m,hm⟩:∃ m,l[k] = m:=⟨_,rfl⟩
   rw [hm] at q0 q1 q2 q3 q4 q5 q6 ld1 ld2 ld3 hal HSN
   have CL:=fun w=>Load_ok s m w hs ld3 ld1
   obtain ⟨rl,hrl⟩:∃ rl,(loadV sumV s m).1 = rl:=⟨_,rfl⟩
   rw [hrl] at CL ld2
   have hrc:rl.length≤20000:=by omega
   have HLN:=Lib.hid ld2
   have HCL:=Lib.hid CL
   obtain ⟨m0,m1,m2,m3,m4,m5,m6⟩:=m
   dsimp only at q0 q1 q2 q3 q4 q5 q6 HSN HLN
   have hmc:mc ⟨m0,m1,m2,m3,m4,m5,m6⟩ = #[.int .i64 m0,.int .i64 m1,.int .i64 m2,.int .i64 m3,.int .i64 m4,.int .i64 m5,.int .i64 m6]:=rfl
   rw [hmc] at HCL
   have HBA:=HB.alloc HB.size (.cells #[.int .i64 m0,.int .i64 m1,.int .i64 m2,.int .i64 m3,.int .i64 m4,.int .i64 m5,.int .i64 m6] 33)
   have ownA:=own.alloc (.cells #[.int .i64 m0,.int .i64 m1,.int .i64 m2,.int .i64 m3,.int .i64 m4,.int .i64 m5,.int .i64 m6] 33)
   clear hcc hm hmc hrl ld1 ld2 ld3 hal CL
   go_wp2_with fail
   refine (HCL.out _).mono ?_
   clear HCL q0 q1 q2 q3 q4 q5 q6
   rintro e w3 ⟨A3,n3,c3,rfl,hnc3,R3,hb3⟩
   have hn3:rl.length = n3:=rd_rlen R3
   have own3:=ownA.below hb3
   have HB3:=HBA.trans (hb3.mono HBA.size)
   have hn3b:n3≤20000:=by omega
   have HN3:=Lib.hid hn3
   have hz3:=HB3.size
   clear hb3 ownA HBA own HB hn3 hrc
   go_wp2_with (at_builtin;go_loud (with_reducible refine wp_append El_rc rfl (s:=.tmp 32) (x:=.tmp 33) rfl rfl own3 rfl R3 (rcells_one _) (by unfold maxLen;omega) (by omega) hz3 ?_;intro A5 c5 w5 o5 hg5 hat5;clear R3))
   have HB5:=below_row HB3 hg5 (fun b e=>(own3.blk b e).1) (Nat.le_refl _)
   go_roundw
   case rel=>exact ⟨k + 1,A5,N + n3,c5,rs ++ rl,by go_num,rfl,by omega,by omega,Lib.hid (by rw [HSN.out];have h1:=HS.out;have h2:=HLN.out;have h3:=HN3.out;omega),by rw [← rcells_app];exact o5,HB5⟩
   case measure=>simp [intOf];omega
  ·have hkI:¬ (k:Int) < (n:Int):=by omega
   have hT:l.take k = l:=List.take_of_length_le (by rw [HL.out];omega)
   have HT:=Lib.hid hT
   clear hT
   go_wp2_with fail
   go_ret2
   exact ⟨X,N,⟨c',rfl⟩,by rw [HS.out,HT.out],HB⟩
end ScaW
end Go.Proofs.YtnpncpoiiikafaaGreat
namespace Go.Proofs.YtnpncpoiiikafaaGreat
open Go.RowKit
namespace TopW
open SkpW (Me mc)
open SufW (w64s)
open SqW (packed_any)
open HedW (mcells rd_mlen rd_mets blocksV blocksV_ok aloneB aloneB_iff)
open FraW (sumV ext_s)
open ScaW (tailV Tail_any tail_cut load_cut Records_ok Same_any sumC sumC_snoc)
theorem tail_law (s:List UInt8) (i g f:Int) (w:World) :
 Calls Tryz.prog 3 #[str s,.agg #[.int .i64 i,.int .i64 g,.int .i64 f]] w fun e w'=>e = .returned (.bool true)∧Below w.heap.size w w':=by
 obtain ⟨w0,hw0⟩:∃ w0,w.alloc (.cells #[.int .i64 i,.int .i64 g,.int .i64 f] 23) = w0:=⟨_,rfl⟩
 have bh:Blk w0 w.heap.size 23 #[.int .i64 i,.int .i64 g,.int .i64 f]:=by rw [← hw0];exact Blk.new _ _ _
 have HB:Below w.heap.size w w0:=by rw [← hw0];exact (Below.refl w.heap.size w).alloc (Nat.le_refl _) _
 have HP:=Lib.hid packed_any
 have HW:=Lib.hid hw0
 by_cases hbig:3000 < s.length
 ·have hI:(3000:Int) < (s.length:Int):=by omega
  clear hw0 bh
  go_enter Tryz.func3,Tryz.ntmps3
  go_wp2_with fail
  rw [HW.out]
  refine (HP.out _).mono ?_
  rintro e w1 ⟨rfl,hb1⟩
  go_wp2_with fail
  go_ret
  exact ⟨rfl,HB.trans (hb1.mono HB.size)⟩
 ·have hI:¬ (3000:Int) < (s.length:Int):=by omega
  have hs:s.length≤3000:=by omega
  have C:=Tail_any s i g f w0 (by omega) _ rfl
  have hcut:=tail_cut (S:=sumV) (s:=s) (i:=i) (g:=g) (f:=f)
  obtain ⟨x,hx⟩:∃ x,tailV sumV s i g f = x:=⟨_,rfl⟩
  rw [hx] at C hcut
  obtain ⟨⟨l,en⟩,er⟩:=x
  dsimp only at C hcut
  clear hw0 hbig hx
  by_cases he:er = 0
  ·subst he
   obtain ⟨n,rfl,hns,hx2,t,I⟩:=hcut rfl
   have hlc:=load_cut I hns
   have hrow:=I.row
   have hext:str (s.take n) = .string ((⟨s.toArray⟩:ByteArray).extract 0 n):=by rw [ext_s];rfl
   have CT:=fun w=>Tail_any (s.take n) i g f w (by rw [List.length_take];omega) _ hx2
   have CR:=fun A nA c w h=>Records_ok (s.take n) A nA c l w (by rw [List.length_take];omega) h hrow hlc
   rw [hext] at CT CR
   dsimp only at CT
   have HCT:=Lib.hid CT
   have HCR:=Lib.hid CR
   have HRO:=Lib.hid hrow
   have hn0:¬ (n:Int) < 0:=by omega
   have hn00:(0:Int)≤(n:Int):=by omega
   have hnl:¬ (s.length:Int) < (n:Int):=by omega
   have hnl2:(n:Int)≤(s.length:Int):=by omega
   clear hcut hx2 I hlc hrow hext CT CR
   go_enter Tryz.func3,Tryz.ntmps3
   go_wp2_with fail
   rw [HW.out]
   refine C.mono ?_
   clear C
   rintro e w1 ⟨A1,n1,c1,rfl,hR,hb1⟩
   replace bh:=bh.below hb1 bh.lt
   replace HB:=HB.trans (hb1.mono HB.size)
   obtain ⟨B1,hB1e⟩:∃ B1,w1.heap.size = B1:=⟨_,rfl⟩
   rw [hB1e] at hR
   have hB1:B1≤w1.heap.size:=by omega
   have hlh:=bh.lt
   have hz1:=HB.size
   clear hB1e hb1
   go_upto_region 6 with fail
   refine wp_region_held_drew (S:=(fun w'=>w'.cell? ⟨w.heap.size,0,none⟩ = some (.int .i64 i)∧w'.cell? ⟨w.heap.size,1,none⟩ = some (.int .i64 g)∧w'.cell? ⟨w.heap.size,2,none⟩ = some (.int .i64 f))) (by kernel_rfl) ?_ (fun hHeld=>?_)
   ·replace bh:=Blk.drew bh;replace hR:=Rd.drew hR;replace HB:=Below.drew HB;(try dsimp only);exact ⟨bh.cell_ 0 rfl,bh.cell_ 1 rfl,bh.cell_ 2 rfl⟩
   replace bh:=Blk.drew bh
   replace hR:=Rd.drew hR
   replace HB:=Below.drew HB
   have zHB:=HB.size
   refine zM 0 (.tmp 0) ?_
   refine zM 1 (.tmp 6) ?_
   refine zO 2 (.slice 9 (.tmp 44) none (some (.tmp 45)) none) 9 ?_
   refine zO 3 (.load 23 (.tmp 3)) 23 ?_
   refine zR 4 (fun K4 hK4=>?_)
   refine take_calls 4 7 [Operand.tmp 46,Operand.tmp 47] #[9,23] rfl rfl (by kernel_rfl) (fun args w=>run_enter Tryz.func7 (by kernel_rfl) rfl args w) ?_
   refine (HCT.out _).mono ?_
   rintro e w4 ⟨A4,n4,c4,rfl,hR4,hb4⟩
   refine ⟨_,rfl,?_⟩
   have z4:=hb4.size
   try simp only [World.size_drew] at z4
   replace bh:=Blk.below bh hb4 (by first | exact Nat.le_refl _ | (simp only [World.size_alloc,World.size_setCell,World.size_drew] at *;omega) | omega)
   replace hR:=Rd.below hR (hb4.mono (by first | exact Nat.le_refl _ | (simp only [World.size_alloc,World.size_setCell,World.size_drew] at *;omega) | omega))
   replace HB:=HB.trans (hb4.mono (by first | exact HB.size | omega))
   have zHB4:=HB.size
   refine hK4.out _ _ ?su1x4 (fun hHeld=>?ru1x4)
   case su1x4=>((try dsimp only);exact ⟨bh.cell_ 0 rfl,bh.cell_ 1 rfl,bh.cell_ 2 rfl⟩)
   try simp only [zSa,zSb,zSc]
   refine zM 5 (.tmp 48) ?_
   refine zO 6 (.extract (.tmp 43) 0) 25 ?_
   refine zO 7 (.extract (.tmp 43) 1) 3 ?_
   refine zO 8 (.extract (.tmp 43) 2) 26 ?_
   refine zO 9 (.assign (.tmp 49)) 25 ?_
   refine zO 10 (.assign (.tmp 50)) 3 ?_
   refine zO 11 (.assign (.tmp 51)) 26 ?_
   refine wpAnyH_done (by kernel_rfl) ?_ _
   clear hHeld bh
   have hzw:B1≤w4.heap.size:=by have h1:w1.drew.heap.size = w1.heap.size:=rfl;omega
   have hln1:l.length = n1:=rd_mlen hR
   have hln4:l.length = n4:=rd_mlen hR4
   have hn14:n4 = n1:=by omega
   subst hn14
   have hn1k:n4≤1000:=by have:=(blocksV_ok HRO.out).1;omega
   have CR:=HCR.out A1 n4 c1 w4 (hR.more hzw)
   have HLN:=Lib.hid hln1
   clear HCR HCT hb4 hln1 hln4
   go_wp2_with fail
   refine CR.mono ?_
   clear CR
   rintro e w5 ⟨X,N,c5,rfl,hN,hb5⟩
   have hR5:=hR.below (hb5.mono hzw)
   have hR45:=(hR4.below hb5).more hb5.size
   have hR55:=hR5.more (Nat.le_trans hzw hb5.size)
   replace HB:=HB.trans (hb5.mono HB.size)
   have hz5:=hb5.size
   have HNS:=Lib.hid hN
   clear hb5 hR hR4 hN
   go_wp2_with fail
   have HAL:=Lib.hid (blocksV_ok HRO.out).2.2
   clear hz1 hzw hz5
   go_loopw [13,14] (fun nv iv wr=>∃ (k:Nat) (v:Int),iv = .int .i64 k∧nv = .int .i64 v∧k≤n4∧0≤v∧v≤20000 * (k:Int)∧Hid (v = sumC (l.take k))∧wr = w5) (fun _ iv _=>n4 - (intOf iv).toNat)
   case atStart=>exact ⟨0,0,rfl,rfl,by omega,by omega,by omega,Lib.hid (by simp [sumC]),rfl⟩
   case round =>
    obtain ⟨k,v,rfl,rfl,hk,hv0,hv1,HV,hwr⟩:=hrel
    subst hwr
    by_cases hlt:k < n4
    ·have hkl:k < l.length:=by rw [HLN.out];exact hlt
     obtain ⟨b,o,rfl,hb,hcc⟩:=rd_mets hR5 (by omega)
     obtain ⟨_,_,_,q3,_,_,_⟩:=hcc k hkl
     have hal:=HAL.out l[k] (List.getElem_mem hkl)
     rw [aloneB_iff] at hal
     have HSN:=Lib.hid (sumC_snoc l k hkl)
     have hkI:(k:Int) < (n4:Int):=by omega
     have hk0:(0:Int)≤(k:Int):=by omega
     have hk1:IntKind.i64.wrap ((k:Int) + 1) = (k:Int) + 1:=w64s (by omega) (by omega)
     obtain ⟨y,hy⟩:∃ y,l[k].count = y:=⟨_,rfl⟩
     rw [hy] at q3 hal HSN
     have hy1:0≤y∧y≤20000:=by omega
     have hvy:IntKind.i64.wrap (v + y) = v + y:=w64s (by omega) (by omega)
     have HV2:Hid (v + y = sumC (l.take (k + 1))):=Lib.hid (by rw [HSN.out,HV.out])
     clear hcc hy hal
     go_wp2_with fail
     go_roundw
     case rel=>exact ⟨k + 1,v + y,by go_num,rfl,by omega,by omega,by omega,HV2,by first | rfl | trivial⟩
     case measure=>simp [intOf];omega
    ·have hkI:¬ (k:Int) < (n4:Int):=by omega
     have hvN:v = (N:Int):=by rw [HV.out,HNS.out,List.take_of_length_le (by rw [HLN.out];omega)]
     subst hvN
     have CS:=Same_any A1 A4 n4 c1 c4 l wr hR55 hR45 (by omega)
     go_wp2_with fail
     refine CS.mono ?_
     clear CS
     rintro e w6 ⟨rfl,hb6⟩
     have HB6:=HB.trans (hb6.mono HB.size)
     clear hb6
     go_wp2_with fail
     refine (HP.out _).mono ?_
     rintro e w7 ⟨rfl,hb7⟩
     go_wp2_with fail
     go_ret
     exact ⟨rfl,HB6.trans (hb7.mono HB6.size)⟩
  ·have heb:(er != 0) = true:=by simp [he]
   clear hcut he
   go_enter Tryz.func3,Tryz.ntmps3
   go_wp2_with fail
   rw [HW.out]
   refine C.mono ?_
   clear C
   rintro e w1 ⟨A1,n1,c1,rfl,_,hb1⟩
   replace HB:=HB.trans (hb1.mono HB.size)
   clear hb1 bh
   go_wp2_with fail
   refine (HP.out _).mono ?_
   rintro e w2 ⟨rfl,hb2⟩
   go_wp2_with fail
   go_ret
   exact ⟨rfl,HB.trans (hb2.mono HB.size)⟩
theorem tail_str (s:ByteArray) (i g f:Int) (w:World) :
 Calls Tryz.prog 3 #[.string s,.agg #[.int .i64 i,.int .i64 g,.int .i64 f]] w fun e w'=>e = .returned (.bool true)∧Below w.heap.size w w':=by
 obtain ⟨l,rfl,_⟩:=str_of s
 exact tail_law l i g f w
end TopW
end Go.Proofs.YtnpncpoiiikafaaGreat
