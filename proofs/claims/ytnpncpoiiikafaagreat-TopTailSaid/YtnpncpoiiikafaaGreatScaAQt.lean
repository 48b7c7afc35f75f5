/- ScaA -/
import Derived.Test.YtnpncpoiiikafaaGreatDecPQt
import Derived.Test.YtnpncpoiiikafaaGreatFraWQt
import Derived.Test.YtnpncpoiiikafaaGreatBloQQt
import Derived.Deep.DeepCutAuto
set_option linter.unusedVariables false
set_option linter.unusedSimpArgs false
set_option linter.unnecessarySimpa false
set_option maxRecDepth 100000
set_option maxHeartbeats 32000000
namespace Go.Proofs.YtnpncpoiiikafaaGreat
open Go.RowKit
namespace ScaW
open SkpW (Me mc blk7f set7 low7)
open SufW (w64s)
open HedW (headB Put_yes Put_no)
open LenW (results_row2)
open FraW (Fr frZ frA putF sumV Put_any prefix_any inU notU_in)
open BloW (peekV Peek_any mcs Hd hdZ)
theorem head_len (i g f:Int):(lput [i,g,f]).length≤1000:=by
 have h1:=vlen_le i.toNat
 have h2:=vlen_le g.toNat
 have h3:=vlen_le f.toNat
 simp only [lput,List.flatMap_cons,List.flatMap_nil,List.length_append,List.length_nil,vbytes_len]
 omega
theorem begun_any (s:List UInt8) (i g f:Int) (w:World) (x:Int × Bool) (hx:begV sumV s i g f = x) :
 Calls Tryz.prog 27 #[str s,.agg #[.int .i64 i,.int .i64 g,.int .i64 f]] w fun e w'=>e = .returned (.tuple #[.int .i64 x.1,.bool x.2])∧Below w.heap.size w w':=by
 have hw0:Below w.heap.size w (w.alloc (.cells #[.int .i64 i,.int .i64 g,.int .i64 f] 23)):=(Below.refl w.heap.size w).alloc (Nat.le_refl _) _
 unfold begV at hx
 cases hh:headB i g f with
 | false =>
  rw [hh,if_neg (by decide)] at hx
  subst hx
  have C:=Put_no i g f (w.alloc (.cells #[.int .i64 i,.int .i64 g,.int .i64 f] 23)) hh
  clear hh
  go_enter Tryz.func27,Tryz.ntmps27
  go_wp2_with fail
  refine C.mono ?_
  rintro e w1 ⟨rfl,hb1⟩
  have HB:=hw0.trans (hb1.mono hw0.size)
  go_wp2_with fail
  go_ret2
  exact ⟨rfl,HB⟩
 | true =>
  rw [hh,if_pos rfl] at hx
  have C:=Put_yes i g f (w.alloc (.cells #[.int .i64 i,.int .i64 g,.int .i64 f] 23)) hh
  have CP:=fun w=>Put_any (lput [i,g,f]) w (head_len i g f)
  generalize lput [i,g,f] = body at *
  obtain ⟨p,hp⟩:∃ p,putF sumV 1 body = p:=⟨_,rfl⟩
  rw [hp] at hx CP
  obtain ⟨fb,er⟩:=p
  dsimp only at hx CP
  have HCP:=Lib.hid CP
  clear CP hp hh
  by_cases he:er = 0
  ·subst he
   obtain ⟨v,hv⟩:∃ v,decide (fb <+: s) = v:=⟨_,rfl⟩
   have CX:=fun w=>prefix_any s fb w v hv
   have hx2:(if v = true then ((fb.length:Int),true) else ((0:Int),false)) = x:=by
    rw [← hx]
    cases v with
    | true=>rw [if_pos rfl,if_pos ⟨rfl,of_decide_eq_true hv⟩]
    | false=>rw [if_neg (by decide),if_neg (fun h=>by have:=of_decide_eq_false hv;exact this h.2)]
   have HCX:=Lib.hid CX
   clear CX hx hv
   cases v with
   | true =>
    rw [if_pos rfl] at hx2
    subst hx2
    go_enter Tryz.func27,Tryz.ntmps27
    go_wp2_with fail
    refine C.mono ?_
    rintro e w1 ⟨rfl,hb1⟩
    have HB:=hw0.trans (hb1.mono hw0.size)
    clear C hb1
    go_wp2_with fail
    refine (HCP.out _).mono ?_
    rintro e w2 ⟨rfl,hb2⟩
    replace HB:=HB.trans (hb2.mono HB.size)
    clear hb2
    go_wp2_with fail
    refine (HCX.out _).mono ?_
    rintro e w3 ⟨rfl,rfl⟩
    go_wp2_with fail
    go_ret2
    exact ⟨rfl,HB⟩
   | false =>
    rw [if_neg (by decide)] at hx2
    subst hx2
    go_enter Tryz.func27,Tryz.ntmps27
    go_wp2_with fail
    refine C.mono ?_
    rintro e w1 ⟨rfl,hb1⟩
    have HB:=hw0.trans (hb1.mono hw0.size)
    clear C hb1
    go_wp2_with fail
    refine (HCP.out _).mono ?_
    rintro e w2 ⟨rfl,hb2⟩
    replace HB:=HB.trans (hb2.mono HB.size)
    clear hb2
    go_wp2_with fail
    refine (HCX.out _).mono ?_
    rintro e w3 ⟨rfl,rfl⟩
    go_wp2_with fail
    go_ret2
    exact ⟨rfl,HB⟩
  ·rw [if_neg (fun h=>he h.1)] at hx
   subst hx
   have heb:(er != 0) = true:=by simp [he]
   clear he
   go_enter Tryz.func27,Tryz.ntmps27
   go_wp2_with fail
   refine C.mono ?_
   rintro e w1 ⟨rfl,hb1⟩
   have HB:=hw0.trans (hb1.mono hw0.size)
   clear C hb1
   go_wp2_with fail
   refine (HCP.out _).mono ?_
   rintro e w2 ⟨rfl,hb2⟩
   replace HB:=HB.trans (hb2.mono HB.size)
   clear hb2
   go_wp2_with fail
   go_ret2
   exact ⟨rfl,HB⟩
def metaV (f:Fr):Me × Bool:=if isMeta f = true then (metaF f,true) else (meZ,false)
theorem meta_any (f:Fr) (w:World) (hs:f.body.length≤1000000) (ha:0≤f.at_) (hat:f.at_≤f.tz) (ht:f.tz≤2000000) (x:Me × Bool) (hx:metaV f = x) :
 Calls Tryz.prog 32 #[.agg (frA f)] w fun e w'=>e = .returned (.tuple #[.agg (mc x.1),.bool x.2])∧Below w.heap.size w w':=by
 obtain ⟨w0,hw0⟩:∃ w0,(w.alloc (.cells (frA f) 74)).alloc (.cells (mc meZ) 33) = w0:=⟨_,rfl⟩
 have bF:Blk w0 w.heap.size 74 (frA f):=by rw [← hw0];exact (Blk.new _ _ _).alloc _
 have bR:Blk w0 (w.heap.size + 1) 33 (mc meZ):=by
  rw [← hw0]
  have:=Blk.new (w.alloc (.cells (frA f) 74)) 33 (mc meZ)
  rwa [World.size_alloc] at this
 have HB:Below w.heap.size w w0:=by rw [← hw0];exact ((Below.refl w.heap.size w).alloc (Nat.le_refl _) _).alloc (by simp) _
 have C:=Peek_any f.body w0 hs _ rfl
 unfold metaV isMeta metaF at hx
 obtain ⟨p,hp⟩:∃ p,peekV f.body = p:=⟨_,rfl⟩
 rw [hp] at hx C
 obtain ⟨fk,fb,fa,ft⟩:=f
 obtain ⟨⟨h1,h2,h3,h4,h5,h6,h7⟩,er⟩:=p
 dsimp only at hx C ha hat ht hs
 have hmc:mcs ⟨h1,h2,h3,h4,h5,h6,h7⟩ = #[.int .i64 0,.int .i64 0,.int .i64 h2,.int .i64 h3,.int .i64 h4,.int .i64 h5,.int .i64 h6]:=rfl
 rw [hmc] at C
 have hw0':(w.alloc (.cells #[.int .i64 fk,str fb,.int .i64 fa,.int .i64 ft] 74)).alloc (.cells #[.int .i64 0,.int .i64 0,.int .i64 0,.int .i64 0,.int .i64 0,.int .i64 0,.int .i64 0] 33) = w0:=hw0
 have HW:=Lib.hid hw0'
 have hsub:IntKind.i64.wrap (ft - fa) = ft - fa:=w64s (by omega) (by omega)
 have hfa:frA ⟨fk,fb,fa,ft⟩ = #[.int .i64 fk,str fb,.int .i64 fa,.int .i64 ft]:=rfl
 rw [hfa] at bF ⊢
 clear hw0 hw0' hmc hp hfa
 go_enter Tryz.func32,Tryz.ntmps32
 go_wp2_with fail
 rw [HW.out]
 refine C.mono ?_
 clear C
 rintro e w1 ⟨rfl,hb1⟩
 obtain ⟨w2,hw2⟩:∃ w2,w1.alloc (.cells #[.int .i64 0,.int .i64 0,.int .i64 h2,.int .i64 h3,.int .i64 h4,.int .i64 h5,.int .i64 h6] 33) = w2:=⟨_,rfl⟩
 have bM:Blk w2 w1.heap.size 33 #[.int .i64 0,.int .i64 0,.int .i64 h2,.int .i64 h3,.int .i64 h4,.int .i64 h5,.int .i64 h6]:=by rw [← hw2];exact Blk.new _ _ _
 have hz1:=hb1.size
 have hzF:=bF.lt
 have hzR:=bR.lt
 replace bF:=(bF.below hb1 bF.lt).alloc (.cells #[.int .i64 0,.int .i64 0,.int .i64 h2,.int .i64 h3,.int .i64 h4,.int .i64 h5,.int .i64 h6] 33)
 replace bR:=(bR.below hb1 bR.lt).alloc (.cells #[.int .i64 0,.int .i64 0,.int .i64 h2,.int .i64 h3,.int .i64 h4,.int .i64 h5,.int .i64 h6] 33)
 rw [hw2] at bF bR
 replace HB:=HB.trans (hb1.mono HB.size)
 replace HB:Below w.heap.size w w2:=by rw [← hw2];exact HB.alloc HB.size _
 have HW2:=Lib.hid hw2
 have hgM:w.heap.size + 1 < w1.heap.size:=by omega
 obtain ⟨gM,hgMe⟩:∃ gM,w1.heap.size = gM:=⟨_,rfl⟩
 rw [hgMe] at bM hgM
 have HGM:=Lib.hid hgMe
 clear hgMe hw2 hb1 hz1 hzF hzR HW
 obtain ⟨c0,c1,c2,c3,_,_,_,_,_⟩:=blk4 bF
 obtain ⟨⟨d0,d1,d2,d3,d4,d5,d6⟩,e0,e1,e2,e3,e4,e5,e6⟩:=blk7f bR
 by_cases hk:fk = 2
 ·by_cases he:er = 0
  ·rw [if_pos (by rw [hk,he];rfl)] at hx
   subst hx
   subst he
   have hkb:(fk != 2) = false:=by simp [hk]
   clear hk
   have hgF:w.heap.size < w2.heap.size:=bF.lt
   go_upto_region 2 with fail
   rw [HW2.out,HGM.out]
   go_upto_region 4 with fail
   have bM0:=bM
   clear c0 c1 c2 c3 d0 d1 d2 d3 d4 d5 d6 e0 e1 e2 e3 e4 e5 e6
   refine wp_region_held_drew (S:=(fun w'=>w'.cell? ⟨w.heap.size,2,none⟩ = some (.int .i64 fa)∧w'.cell? ⟨w.heap.size,3,none⟩ = some (.int .i64 ft))) (by kernel_rfl) ?_ (fun hHeld=>?_)
   ·replace bF:=Blk.drew bF;replace bR:=Blk.drew bR;replace bM:=Blk.drew bM;replace HB:=Below.drew HB;(try dsimp only);exact ⟨bF.cell_ 2 rfl,bF.cell_ 3 rfl⟩
   replace bF:=Blk.drew bF
   replace bR:=Blk.drew bR
   replace bM:=Blk.drew bM
   replace HB:=Below.drew HB
   have zHB:=HB.size
   refine zO 0 (.fieldAddr 74 (.tmp 1) 2) 0 ?_
   refine zO 1 (.load 3 (.tmp 20)) 3 ?_
   refine zO 2 (.fieldAddr 74 (.tmp 1) 3) 0 ?_
   refine zO 3 (.load 3 (.tmp 22)) 3 ?_
   refine zO 4 (.fieldAddr 74 (.tmp 1) 2) 0 ?_
   refine zO 5 (.load 3 (.tmp 24)) 3 ?_
   refine zO 6 (.binOp .sub 3 (.tmp 23) (.tmp 25) 3) 3 ?_
   refine zO 7 (.fieldAddr 33 (.tmp 4) 0) 0 ?_
   refine zR 8 (fun K8 hK8=>?_)
   refine take_store 8 (Op.store 3 (Operand.tmp 27) (Operand.tmp 21)) 0 rfl rfl rfl (by kernel_rfl) (w':=w2.drew.setCell ⟨gM,0,none⟩ (.int .i64 fa)) (by obtain ⟨⟨k0,k1,_⟩,f0,f1,_⟩:=blk7f bM0;go_simp;try (with_reducible rfl)) ?_
   refine hK8.out _ _ (⟨(bF.far (p:=⟨gM,0,none⟩) (by dsimp only;omega) _).cell_ 2 rfl,(bF.far (p:=⟨gM,0,none⟩) (by dsimp only;omega) _).cell_ 3 rfl⟩) (fun hHeld=>?_)
   replace bF:=bF.far (p:=⟨gM,0,none⟩) (by dsimp only;omega) (.int .i64 fa)
   replace bR:=bR.far (p:=⟨gM,0,none⟩) (by dsimp only;omega) (.int .i64 fa)
   replace HB:=HB.setCell (p:=⟨gM,0,none⟩) (by dsimp only;omega) (.int .i64 fa)
   replace bM:=bM.set 0 (.int .i64 fa)
   refine zO 9 (.fieldAddr 33 (.tmp 4) 1) 0 ?_
   refine zR 10 (fun K10 hK10=>?_)
   refine take_store 10 (Op.store 3 (Operand.tmp 28) (Operand.tmp 26)) 0 rfl rfl rfl (by kernel_rfl) (w':=(w2.drew.setCell ⟨gM,0,none⟩ (.int .i64 fa)).setCell ⟨gM,1,none⟩ (.int .i64 (ft - fa))) (by obtain ⟨⟨k0,k1,_⟩,f0,f1,_⟩:=blk7f bM0;go_simp;try (with_reducible rfl)) ?_
   refine hK10.out _ _ (⟨(bF.far (p:=⟨gM,1,none⟩) (by dsimp only;omega) _).cell_ 2 rfl,(bF.far (p:=⟨gM,1,none⟩) (by dsimp only;omega) _).cell_ 3 rfl⟩) (fun hHeld=>?_)
   replace bR:=bR.far (p:=⟨gM,1,none⟩) (by dsimp only;omega) (.int .i64 (ft - fa))
   replace HB:=HB.setCell (p:=⟨gM,1,none⟩) (by dsimp only;omega) (.int .i64 (ft - fa))
   replace bM:=bM.set 1 (.int .i64 (ft - fa))
   refine wpAnyH_done (by kernel_rfl) ?_ _
   have bM5:=blk_eq bM (cs':=#[.int .i64 fa,.int .i64 (ft - fa),.int .i64 h2,.int .i64 h3,.int .i64 h4,.int .i64 h5,.int .i64 h6]) (by simp)
   generalize (w2.drew.setCell ⟨gM,0,none⟩ (.int .i64 fa)).setCell ⟨gM,1,none⟩ (.int .i64 (ft - fa)) = w5 at *
   obtain ⟨⟨k0,k1,k2,k3,k4,k5,k6⟩,_⟩:=blk7f bM5
   obtain ⟨⟨d0,d1,d2,d3,d4,d5,d6⟩,e0,e1,e2,e3,e4,e5,e6⟩:=blk7f bR
   clear bM bM5 bM0 hHeld bF
   go_wp2_with fail
   refine bodyPost_ret (results_row2 rfl _ _ (w.heap.size + 1) 33 (mc ⟨fa,ft - fa,h2,h3,h4,h5,h6⟩) (0,0) _ rfl (set7 bR _ _ _ _ _ _ _) Tryz.underlying33 rfl (by kernel_rfl)) rfl ?_
   exact ⟨rfl,low7 HB (by omega) _ _ _ _ _ _ _⟩
  ·rw [if_neg (by simp [he])] at hx
   subst hx
   have hkb:(fk != 2) = false:=by simp [hk]
   have heb:(er != 0) = true:=by simp [he]
   clear hk he
   go_upto_region 2 with fail
   rw [HW2.out]
   go_wp2_with fail
   refine bodyPost_ret (results_row2 rfl _ _ (w.heap.size + 1) 33 (mc meZ) (0,0) _ rfl (set7 bR _ _ _ _ _ _ _) Tryz.underlying33 rfl (by kernel_rfl)) rfl ?_
   exact ⟨rfl,low7 HB (by omega) _ _ _ _ _ _ _⟩
 ·rw [if_neg (by simp [hk])] at hx
  subst hx
  have hkb:(fk != 2) = true:=by simp [hk]
  clear hk
  go_upto_region 2 with fail
  rw [HW2.out]
  go_wp2_with fail
  refine bodyPost_ret (results_row2 rfl _ _ (w.heap.size + 1) 33 (mc meZ) (0,0) _ rfl (set7 bR _ _ _ _ _ _ _) Tryz.underlying33 rfl (by kernel_rfl)) rfl ?_
  exact ⟨rfl,low7 HB (by omega) _ _ _ _ _ _ _⟩
end ScaW
end Go.Proofs.YtnpncpoiiikafaaGreat
