/- ScaT -/
import Derived.Test.YtnpncpoiiikafaaGreatScaGQt
import Derived.Test.YtnpncpoiiikafaaGreatFraSQt
import Derived.Test.YtnpncpoiiikafaaGreatDecWQt
import Derived.WalkMore
import Derived.ScopeJumps
import Derived.Deep.LoopGhost
import Derived.Deep.DeepCutAuto
import Derived.Test.YtnpncpoiiikafaaGreatMemQt
set_option linter.unusedVariables false
set_option linter.unusedSimpArgs false
set_option linter.unnecessarySimpa false
set_option maxRecDepth 100000
set_option maxHeartbeats 32000000
namespace Go.Proofs.YtnpncpoiiikafaaGreat
open Go.RowKit
namespace ScaW
open SkpW (Me mc blk7f set7 low7)
open SufW (w64s)
open HedW (mcells mcells_len mcells_one rd_mlen blocksV)
open FraW (Fr frZ frA putF sumV getF getF_ok framesF framesV framesF_yes framesF_no frCells frCells_len Scan_any frames_len)
open BloW (decB Decode_any)
theorem frames_in {s:List UInt8}:∀ (n a:Nat),∀ f ∈ framesF sumV s n (a:Int),f.body.length≤60000∧0≤f.at_∧f.at_≤f.tz∧f.tz≤s.length
 | 0,_,f,h=>by simp [framesF] at h
 | n + 1,a,f,h=>by
  by_cases hf:(getF sumV s a).2 = 0
  ·obtain ⟨k1,k2,k3,k4,k5,k6,k7,k8⟩:=getF_ok hf
   obtain ⟨t,ht⟩:=Int.eq_ofNat_of_zero_le (show 0≤(getF sumV s a).1.tz by omega)
   rw [framesF_yes hf,ht] at h
   rcases List.mem_cons.1 h with rfl | h
   ·exact ⟨k6,by omega,by omega,k3⟩
   ·exact frames_in n t f h
  ·rw [framesF_no hf] at h;simp at h
theorem own_cells {w:World} {base e size n c:Nat} {A:Option Addr} {xs:List Value} (h:Own w base e size A n c xs) (hn:0 < n) :
 ∃ g cur,A = some ⟨g,0,none⟩∧base≤g∧g < w.heap.size∧Blk w g e cur∧∀ j (hj:j < xs.length),cur[j]? = some xs[j]:=by
 have hr:=h.rd
 rcases h.2 with ⟨_,h0⟩ | ⟨g,cap,cur,hv,hb,hg,r⟩
 ·omega
 ·simp only [Value.slice.injEq] at hv
  obtain ⟨rfl,_,rfl⟩:=hv
  obtain ⟨b,o,e1,_,hc⟩:=hr.at_ hn
  obtain ⟨rfl,rfl⟩:g = b∧0 = o:=by simpa using e1
  refine ⟨g,cur,rfl,hb,(Array.getElem?_eq_some_iff.1 hg).1,hg,fun j hj=>?_⟩
  have:=hc j hj
  rw [Nat.zero_add,cell_of_row w g j cur e (0,0) hg] at this
  exact this
theorem El_me:El Tryz.prog 25 33 7 56:=El.mk' Tryz.underlying25 (z:=.agg (mc meZ)) (by kernel_rfl) rfl (by omega)
theorem mcells_snoc (l:List Me) (m:Me):mcells (l ++ [m]) = mcells l ++ mcells [m]:=by simp [mcells]
theorem mcells_snoc' (l:List Me) (m0 m1 m2 m3 m4 m5 m6:Int):mcells (l ++ [⟨m0,m1,m2,m3,m4,m5,m6⟩]) = mcells l ++ [.int .i64 m0,.int .i64 m1,.int .i64 m2,.int .i64 m3,.int .i64 m4,.int .i64 m5,.int .i64 m6]:=mcells_snoc l _
theorem fr_cells {w:World} {b:Nat} {t:TypeId} {cur:Array Value} {frs:List Fr} (h:Blk w b t cur) (hc:∀ j (hj:j < (frCells frs).length),cur[j]? = some (frCells frs)[j]) (k:Nat) (hk:k < frs.length) :
 w.cell? ⟨b,k * 4,none⟩ = some (.int .i64 frs[k].kind)∧w.cell? ⟨b,k * 4 + 1,none⟩ = some (str frs[k].body)∧w.cell? ⟨b,k * 4 + 2,none⟩ = some (.int .i64 frs[k].at_)∧w.cell? ⟨b,k * 4 + 3,none⟩ = some (.int .i64 frs[k].tz):=by
 have key:∀ j v,j < 4 → (frA frs[k]).toList[j]? = some v → w.cell? ⟨b,k * 4 + j,none⟩ = some v:=by
  intro j v hj hv
  have hg:=flatG_get (fun m:Fr=>(frA m).toList) 4 (fun _=>rfl) frs k hk j hj
  rw [hv] at hg
  obtain ⟨h1,h2⟩:=List.getElem?_eq_some_iff.1 hg
  rw [h.cell,hc (k * 4 + j) h1]
  exact congrArg some h2
 exact ⟨key 0 _ (by omega) rfl,key 1 _ (by omega) rfl,key 2 _ (by omega) rfl,key 3 _ (by omega) rfl⟩
theorem tailGo_yes {f:Int} {fr:Fr} {fs:List Fr} {l:List Me} {e t:Int} (h:goodB f l t fr = true):tailGo f (fr :: fs) l e t = tailGo f fs (l ++ [metaF fr]) fr.tz (metaF fr).late:=by rw [tailGo,if_pos h]
theorem tailGo_no {f:Int} {fr:Fr} {fs:List Fr} {l:List Me} {e t:Int} (h:goodB f l t fr = false):tailGo f (fr :: fs) l e t = (l,e):=by rw [tailGo,if_neg (by rw [h];decide)]
theorem tail_results (tmps:Array Value) (w:World) (g:Nat) (v:Value) (hp:tmps.getD 4 undef = .pointer (some ⟨g,0,none⟩)) (hc:w.cell? ⟨g,0,none⟩ = some v) :
 (results Tryz.f7 tmps).run Tryz.prog w = .ok (.tuple #[v,tmps.getD 5 undef,tmps.getD 6 undef]) w:=by
 have hp':tmps[4]?.getD undef = .pointer (some ⟨g,0,none⟩):=by simpa using hp
 simp [results,Tryz.results7,go_sem,hp',hc]
theorem Tail_any (s:List UInt8) (i g f:Int) (w:World) (hs:s.length≤100000) (x:(List Me × Int) × Int) (hx:tailV sumV s i g f = x) :
 Calls Tryz.prog 7 #[str s,.agg #[.int .i64 i,.int .i64 g,.int .i64 f]] w fun e w'=>∃ A n c,e = .returned (.tuple #[.slice A n c,.int .i64 x.1.2,.int .i64 x.2])∧Rd w' w'.heap.size 7 A n (mcells x.1.1)∧Below w.heap.size w w':=by
 obtain ⟨z,hz⟩:∃ z,w.heap.size = z:=⟨_,rfl⟩
 obtain ⟨w0,hw0⟩:∃ w0,(w.alloc (.cells #[.int .i64 i,.int .i64 g,.int .i64 f] 23)).alloc (.cells #[.slice none 0 0] 25) = w0:=⟨_,rfl⟩
 have bh:Blk w0 z 23 #[.int .i64 i,.int .i64 g,.int .i64 f]:=by rw [← hw0,← hz];exact (Blk.new _ _ _).alloc _
 have bl:Blk w0 (z + 1) 25 #[.slice none 0 0]:=by
  rw [← hw0,← hz]
  have:=Blk.new (w.alloc (.cells #[.int .i64 i,.int .i64 g,.int .i64 f] 23)) 25 #[.slice none 0 0]
  rwa [World.size_alloc] at this
 have HB:Below w.heap.size w w0:=by rw [← hw0];exact ((Below.refl w.heap.size w).alloc (Nat.le_refl _) _).alloc (by simp) _
 obtain ⟨bv,hbv⟩:∃ bv,begV sumV s i g f = bv:=⟨_,rfl⟩
 have C:=begun_any s i g f w0 bv hbv
 unfold tailV at hx
 rw [hbv] at hx
 have hw0':=hw0
 have HW:=Lib.hid hw0'
 have HZ:=Lib.hid hz
 clear hw0 hw0' hz
 have hbl:bv.2 = true → ∃ e0:Nat,bv.1 = e0∧e0≤s.length:=by
  intro hb
  rw [← hbv] at hb ⊢
  unfold begV at hb ⊢
  split at hb
  ·next h1 =>
   rw [if_pos h1]
   split at hb
   ·next h2=>rw [if_pos h2];exact ⟨_,rfl,h2.2.length_le⟩
   ·cases hb
  ·cases hb
 obtain ⟨b1,b2⟩:=bv
 dsimp only at hx hbl C
 clear hbv
 cases b2 with
 | false =>
  rw [if_neg (by decide)] at hx
  subst hx
  clear hbl
  go_enter Tryz.func7,Tryz.ntmps7
  go_wp2_with fail
  go_step3
  go_wp2_with fail
  rw [HW.out,HZ.out]
  refine C.mono ?_
  clear C
  rintro e w1 ⟨rfl,hb1⟩
  replace bl:=bl.below hb1 bl.lt
  replace HB:=HB.trans (hb1.mono HB.size)
  have hzz:w.heap.size≤z:=by rw [HZ.out];omega
  obtain ⟨cL,fL,_⟩:=blk1 bl
  clear hb1
  go_wp2_with fail
  try rw [Exit.noGoto_ret]
  refine bodyPost_ret (tail_results _ _ (z + 1) (.slice none 0 0) rfl ((bl.set 0 _).cell_ 0 rfl)) rfl ?_
  exact ⟨none,0,0,rfl,Rd.nil _ _ _ _,HB.setCell (p:=⟨z + 1,0,none⟩) (by dsimp only;omega) _⟩
 | true =>
  rw [if_pos rfl] at hx
  obtain ⟨e0,rfl,he0⟩:=hbl rfl
  clear hbl
  have hfin:=frames_in (s:=s) (s.length + 1) e0
  have hfl:=frames_len (s:=s) (s.length + 1) e0 he0
  have CS:=fun w=>Scan_any s e0 w (by omega) he0
  have hfv:framesV sumV s e0 = framesF sumV s (s.length + 1) e0:=rfl
  rw [← hfv] at hfin hfl
  generalize framesV sumV s e0 = frs at *
  obtain ⟨X,hX⟩:∃ X,tailGo f frs [] (e0:Int) 0 = X:=⟨_,rfl⟩
  rw [hX] at hx
  subst hx
  have HX:=Lib.hid hX
  have HCS:=Lib.hid CS
  have HFI:=Lib.hid hfin
  have hmf:∀ (fn:Fn) (first cap:Array Value) (w:World),(Instr.makeFunc fn first cap).run Tryz.prog w = .ok (.func fn first cap) w:=fun _ _ _ _=>rfl
  clear hX CS hfin hfv
  go_enter Tryz.func7,Tryz.ntmps7
  go_wp2_with fail
  go_step3
  go_wp2_with fail
  rw [HW.out,HZ.out]
  refine C.mono ?_
  clear C
  rintro e w1 ⟨rfl,hb1⟩
  replace bl:=bl.below hb1 bl.lt
  replace bh:=bh.below hb1 bh.lt
  replace HB:=HB.trans (hb1.mono HB.size)
  have hzz:w.heap.size≤z:=by rw [HZ.out];omega
  clear hb1
  go_wp2_with fail
  refine (HCS.out _).mono ?_
  rintro e w2 ⟨AF,nF,cF,v2,rfl,ownF,hb2⟩
  have hnF:frs.length = nF:=by have:=ownF.len;rw [frCells_len] at this;omega
  have hlt1:=bl.lt
  obtain ⟨bF,cur,hF⟩:∃ bF cur,0 < nF → (AF = some ⟨bF,0,none⟩∧z + 1 < bF∧bF < w2.heap.size∧Blk w2 bF 74 cur∧∀ j (hj:j < (frCells frs).length),cur[j]? = some (frCells frs)[j]):=by
   by_cases hn:0 < nF
   ·obtain ⟨b,cur,h1,h2,h3,h4,h5⟩:=own_cells ownF hn
    exact ⟨b,cur,fun _=>⟨h1,by omega,h3,h4,h5⟩⟩
   ·exact ⟨0,#[],fun h=>absurd h hn⟩
  replace bl:=(bl.below hb2 bl.lt).alloc (.cells #[.int .i64 0] 3)
  replace bh:=(bh.below hb2 bh.lt).alloc (.cells #[.int .i64 0] 3)
  have bt:=Blk.new w2 3 #[.int .i64 0]
  replace HB:=HB.trans (hb2.mono HB.size)
  replace HB:=HB.alloc HB.size (.cells #[.int .i64 0] 3)
  have hF2:0 < nF → Blk (w2.alloc (.cells #[.int .i64 0] 3)) bF 74 cur:=fun h=>(hF h).2.2.2.1.alloc _
  have hF3:0 < nF → (AF = some ⟨bF,0,none⟩∧z + 1 < bF∧bF < w2.heap.size∧∀ j (hj:j < (frCells frs).length),cur[j]? = some (frCells frs)[j]):=fun h=>⟨(hF h).1,(hF h).2.1,(hF h).2.2.1,(hF h).2.2.2.2⟩
  have hgt:z + 1 < w2.heap.size:=by have:=hb2.size;omega
  have hsz3:(w2.alloc (.cells #[.int .i64 0] 3)).heap.size = w2.heap.size + 1:=World.size_alloc _ _
  go_wp2_with fail
  obtain ⟨gt,hgte⟩:∃ gt,w2.heap.size = gt:=⟨_,rfl⟩
  obtain ⟨w3,hw3⟩:∃ w3,w2.alloc (.cells #[.int .i64 0] 3) = w3:=⟨_,rfl⟩
  rw [hw3,hgte] at bt hsz3
  rw [hw3] at bl bh HB hF2
  rw [hgte] at hF3 hgt
  rw [hw3,hgte]
  have HN:=Lib.hid hnF
  have HF3:=Lib.hid hF3
  have hn1:nF≤100000:=by omega
  have hz3:gt + 1≤w3.heap.size:=by omega
  clear hw3 hgte hb2 hF hF3 ownF hnF hlt1 hmf hsz3
  go_step3
  go_wp2_with fail
  go_loopw [5,35] (fun ev iv wr=>∃ (k:Nat) (l:List Me) (e t:Int) (A:Option Addr) (n c:Nat),iv = .int .i64 k∧ev = .int .i64 e∧k≤nF∧Hid (tailGo f (frs.drop k) l e t = X)∧Blk wr (z + 1) 25 #[.slice A n c]∧Own wr (gt + 1) 33 7 A n c (mcells l)∧n≤1000∧Blk wr z 23 #[.int .i64 i,.int .i64 g,.int .i64 f]∧Blk wr gt 3 #[.int .i64 t]∧(0 < nF → Blk wr bF 74 cur)∧Below w.heap.size w wr∧gt + 1≤wr.heap.size) (fun _ iv _=>nF - (intOf iv).toNat)
  case atStart=>exact ⟨0,[],e0,0,none,0,0,rfl,rfl,by omega,by simpa using HX,bl,Own.nil _ _ _ _,by omega,bh,bt,hF2,HB,hz3⟩
  case round =>
   clear bl bh bt HB hF2 HX hz3
   obtain ⟨k,l,e,t,A,n,c,rfl,rfl,hk,HT,bl,own,hn,bh,bt,hF2,HB,hz3⟩:=hrel
   by_cases hlt:k < nF
   ·have hkl:k < frs.length:=by rw [HN.out];exact hlt
    obtain ⟨rfl,hbF1,hbF2,hcur⟩:=HF3.out (by omega)
    replace hF2:=hF2 (by omega)
    obtain ⟨q0,q1,q2,q3⟩:=fr_cells hF2 hcur k hkl
    have hin:=HFI.out frs[k] (List.getElem_mem hkl)
    have hdr:frs.drop k = frs[k] :: frs.drop (k + 1):=List.drop_eq_getElem_cons hkl
    have hT:=HT.out
    rw [hdr] at hT
    obtain ⟨fr,hfr⟩:∃ fr,frs[k] = fr:=⟨_,rfl⟩
    rw [hfr] at q0 q1 q2 q3 hin hT
    have HT2:=Lib.hid hT
    clear hdr hT hfr HT hcur
    have hkI:(k:Int) < (nF:Int):=by omega
    have hk0:(0:Int)≤(k:Int):=by omega
    have hk1:IntKind.i64.wrap ((k:Int) + 1) = (k:Int) + 1:=w64s (by omega) (by omega)
    have CM:=fun w=>meta_any fr w (by omega) hin.2.1 hin.2.2.1 (by omega) _ rfl
    have CD:=fun w=>Decode_any fr.body w (by omega) _ rfl
    obtain ⟨mm,hmm⟩:∃ mm,metaV fr = mm:=⟨_,rfl⟩
    rw [hmm] at CM
    have hmY:mm.2 = true → isMeta fr = true∧mm.1 = metaF fr:=by
     intro h
     rw [← hmm] at h ⊢
     unfold metaV at h ⊢
     by_cases hc:isMeta fr = true
     ·rw [if_pos hc];exact ⟨hc,rfl⟩
     ·rw [if_neg hc] at h;cases h
    have hmN:mm.2 = false → isMeta fr = false:=by
     intro h
     rw [← hmm] at h
     unfold metaV at h
     by_cases hc:isMeta fr = true
     ·rw [if_pos hc] at h;cases h
     ·simpa using hc
    have HMY:=Lib.hid hmY
    have HMN:=Lib.hid hmN
    have HCM:=Lib.hid CM
    have HCD:=Lib.hid CD
    clear hmY hmN hmm CM CD
    obtain ⟨⟨p0,p1,p2,p3,p4,p5,p6⟩,mb⟩:=mm
    obtain ⟨fk,fb,fa,ft⟩:=fr
    dsimp only at q0 q1 q2 q3 hin HMY HMN HCM HCD
    obtain ⟨w4,hw4⟩:∃ w4,wr.alloc (.cells #[.int .i64 fk,str fb,.int .i64 fa,.int .i64 ft] 74) = w4:=⟨_,rfl⟩
    obtain ⟨gX,hgX⟩:∃ gX,wr.heap.size = gX:=⟨_,rfl⟩
    have HW4:=Lib.hid hw4
    have HGX:=Lib.hid hgX
    have hgtX:gt < gX:=by omega
    have hbr:Below wr.heap.size wr w4:=by rw [← hw4];exact (Below.refl _ _).alloc (Nat.le_refl _) _
    have bX:Blk w4 gX 74 #[.int .i64 fk,str fb,.int .i64 fa,.int .i64 ft]:=by rw [← hw4,← hgX];exact Blk.new _ _ _
    have hz4:w4.heap.size = gX + 1:=by rw [← hw4,World.size_alloc,hgX]
    have hAX:∀ b,blkOf A = some b → b < gX:=fun b e=>by have:=(own.blk _ e).2;omega
    replace bl:=bl.below hbr bl.lt
    replace bh:=bh.below hbr bh.lt
    replace bt:=bt.below hbr bt.lt
    replace hF2:=hF2.below hbr hF2.lt
    replace own:=own.below hbr
    replace HB:=HB.trans (hbr.mono HB.size)
    clear hw4 hgX hbr
    go_upto_region 10 with fail
    rw [HW4.out,HGX.out]
    obtain ⟨x0,x1,x2,x3,_,_,_,_,_⟩:=blk4 bX
    have CM:=HCM.out w4
    have hfa:frA ⟨fk,fb,fa,ft⟩ = #[.int .i64 fk,str fb,.int .i64 fa,.int .i64 ft]:=rfl
    have hmc:mc ⟨p0,p1,p2,p3,p4,p5,p6⟩ = #[.int .i64 p0,.int .i64 p1,.int .i64 p2,.int .i64 p3,.int .i64 p4,.int .i64 p5,.int .i64 p6]:=rfl
    rw [hfa,hmc] at CM
    clear q0 q1 q2 q3 hfa hmc
    go_wp2_with fail
    refine CM.mono ?_
    clear CM HCM x0 x1 x2 x3
    rintro e w5 ⟨rfl,hb5⟩
    obtain ⟨w6,hw6⟩:∃ w6,w5.alloc (.cells #[.int .i64 p0,.int .i64 p1,.int .i64 p2,.int .i64 p3,.int .i64 p4,.int .i64 p5,.int .i64 p6] 33) = w6:=⟨_,rfl⟩
    obtain ⟨gM,hgM⟩:∃ gM,w5.heap.size = gM:=⟨_,rfl⟩
    have HW6:=Lib.hid hw6
    have HGM:=Lib.hid hgM
    have hb6:Below w4.heap.size w4 w6:=by rw [← hw6];exact hb5.alloc hb5.size _
    have bM:Blk w6 gM 33 #[.int .i64 p0,.int .i64 p1,.int .i64 p2,.int .i64 p3,.int .i64 p4,.int .i64 p5,.int .i64 p6]:=by rw [← hw6,← hgM];exact Blk.new _ _ _
    have hgXM:gX < gM:=by have:=hb5.size;omega
    have hz6:gM + 1≤w6.heap.size:=by rw [← hw6,World.size_alloc,hgM];omega
    have hz6g:gt + 1≤w6.heap.size:=by omega
    replace bl:=bl.below hb6 bl.lt
    replace bh:=bh.below hb6 bh.lt
    replace bt:=bt.below hb6 bt.lt
    replace bX:=bX.below hb6 bX.lt
    replace hF2:=hF2.below hb6 hF2.lt
    replace own:=own.below hb6
    replace HB:=HB.trans (hb6.mono HB.size)
    have hnX:¬ (blkOf A = some gX):=fun e=>by have:=hAX _ e;omega
    have hnM:¬ (blkOf A = some gM):=fun e=>by have:=hAX _ e;omega
    obtain ⟨⟨y0,y1,y2,y3,y4,y5,y6⟩,_⟩:=blk7f bM
    clear hw6 hgM hb6 hb5 hAX hz4
    cases mb with
    | false =>
     have hmN:=HMN.out rfl
     have hT:=HT2.out
     rw [tailGo_no (by simp [goodB,hmN])] at hT
     have HXE:Hid ((l,e) = X):=Lib.hid hT
     clear hT HT2 HMY HMN hmN
     go_upto_region 11 with fail
     rw [HW6.out,HGM.out]
     have hlG:=bl.lt;obtain ⟨cL,fL,_⟩:=blk1 bl;go_wp2_with fail;(try rw [Exit.noGoto_ret]);refine bodyPost_ret (tail_results _ _ (z + 1) (.slice A n c) rfl ((bl.set 0 _).cell_ 0 rfl)) rfl ?_;exact ⟨A,n,c,by rw [← HXE.out];rfl,by rw [← HXE.out];exact (own.far (p:=⟨z + 1,0,none⟩) (fun e=>by have:=(own.blk _ e).1;dsimp only at this;omega) _).rd,HB.setCell (p:=⟨z + 1,0,none⟩) (by dsimp only;omega) _⟩
    | true =>
     obtain ⟨hmI,hmE⟩:=HMY.out rfl
     have hT:=HT2.out
     obtain ⟨v,hv⟩:∃ v,goesB f l t ⟨p0,p1,p2,p3,p4,p5,p6⟩ = v:=⟨_,rfl⟩
     have CG:=goes_any ⟨p0,p1,p2,p3,p4,p5,p6⟩ (z + 1) z gt A n c l i g f t w6 bl bh bt own.rd hn v hv
     have hmc:mc ⟨p0,p1,p2,p3,p4,p5,p6⟩ = #[.int .i64 p0,.int .i64 p1,.int .i64 p2,.int .i64 p3,.int .i64 p4,.int .i64 p5,.int .i64 p6]:=rfl
     rw [hmc] at CG
     have hcn:∀ args w,(callFunc 29 args).run Tryz.prog w = .ok (.enter 29 args) w:=fun args w=>run_enter Tryz.func29 (by kernel_rfl) rfl args w
     rw [hmE] at hv
     clear HMY HMN hmc
     cases v with
     | false =>
      rw [tailGo_no (by simp [goodB,hmI,hv])] at hT
      have HXE:Hid ((l,e) = X):=Lib.hid hT
      clear hT HT2 hv hmE hmI
      go_upto_region 11 with fail
      rw [HW6.out,HGM.out]
      go_wp2_with fail
      refine CG.mono ?_
      clear CG hcn y0 y1 y2 y3 y4 y5 y6
      rintro e w7 ⟨rfl,hb7⟩
      replace bl:=bl.below hb7 bl.lt
      replace own:=own.below hb7
      replace HB:=HB.trans (hb7.mono HB.size)
      clear hb7 bh bt bX bM hF2
      have hlG:=bl.lt;obtain ⟨cL,fL,_⟩:=blk1 bl;go_wp2_with fail;(try rw [Exit.noGoto_ret]);refine bodyPost_ret (tail_results _ _ (z + 1) (.slice A n c) rfl ((bl.set 0 _).cell_ 0 rfl)) rfl ?_;exact ⟨A,n,c,by rw [← HXE.out];rfl,by rw [← HXE.out];exact (own.far (p:=⟨z + 1,0,none⟩) (fun e=>by have:=(own.blk _ e).1;dsimp only at this;omega) _).rd,HB.setCell (p:=⟨z + 1,0,none⟩) (by dsimp only;omega) _⟩
     | true =>
      obtain ⟨dd,hdd⟩:∃ dd,decB fb = dd:=⟨_,rfl⟩
      rw [hdd] at HCD
      obtain ⟨dl,er⟩:=dd
      dsimp only at HCD
      by_cases he:er = 0
      ·subst he
       have hn9:n + 1≤1000:=by
        have h1:=hv
        simp only [goesB,Bool.and_eq_true,decide_eq_true_eq] at h1
        have:=own.len
        rw [mcells_len] at this
        omega
       rw [tailGo_yes (by simp [goodB,hmI,hv,hdd]),← hmE] at hT
       have HT3:Hid (tailGo f (frs.drop (k + 1)) (l ++ [⟨p0,p1,p2,p3,p4,p5,p6⟩]) ft p6 = X):=Lib.hid hT
       clear hT HT2 hv hmE hmI hdd
       go_upto_region 11 with fail
       rw [HW6.out,HGM.out]
       go_wp2_with fail
       refine CG.mono ?_
       clear CG hcn y0 y1 y2 y3 y4 y5 y6
       rintro e w7 ⟨rfl,hb7⟩
       replace bl:=bl.below hb7 bl.lt
       replace bh:=bh.below hb7 bh.lt
       replace bt:=bt.below hb7 bt.lt
       replace bX:=bX.below hb7 bX.lt
       replace bM:=bM.below hb7 bM.lt
       replace hF2:=hF2.below hb7 hF2.lt
       replace own:=own.below hb7
       replace HB:=HB.trans (hb7.mono HB.size)
       have hz7:=hb7.size
       obtain ⟨x0,x1,x2,x3,_,_,_,_,_⟩:=blk4 bX
       clear hb7
       go_wp2_with fail
       refine (HCD.out _).mono ?_
       clear HCD x0 x1 x2 x3
       rintro e w8 ⟨A8,n8,c8,rfl,_,_,hb8⟩
       replace bl:=bl.below hb8 bl.lt
       replace bh:=bh.below hb8 bh.lt
       replace bt:=bt.below hb8 bt.lt
       replace bX:=bX.below hb8 bX.lt
       replace bM:=bM.below hb8 bM.lt
       replace hF2:=hF2.below hb8 hF2.lt
       replace own:=own.below hb8
       replace HB:=HB.trans (hb8.mono HB.size)
       have hz8:=hb8.size
       have hz8g:gt + 1≤w8.heap.size:=by omega
       have hl8:=bX.lt
       have hl9:=bM.lt
       clear hb8
       go_upto_region 14 with fail
       refine wp_region_held_drew (S:=(fun w'=>w'.cell? ⟨gM,0,none⟩ = some (.int .i64 p0)∧w'.cell? ⟨gM,1,none⟩ = some (.int .i64 p1)∧w'.cell? ⟨gM,2,none⟩ = some (.int .i64 p2)∧w'.cell? ⟨gM,3,none⟩ = some (.int .i64 p3)∧w'.cell? ⟨gM,4,none⟩ = some (.int .i64 p4)∧w'.cell? ⟨gM,5,none⟩ = some (.int .i64 p5)∧w'.cell? ⟨gM,6,none⟩ = some (.int .i64 p6)∧w'.cell? ⟨gX,3,none⟩ = some (.int .i64 ft))) (by kernel_rfl) ?_ (fun hHeld=>?_)
       ·replace own:=Own.drew own;replace bl:=Blk.drew bl;replace bh:=Blk.drew bh;replace bt:=Blk.drew bt;replace hF2:=Blk.drew hF2;replace bX:=Blk.drew bX;replace bM:=Blk.drew bM;replace HB:=Below.drew HB;(try dsimp only);exact ⟨bM.cell_ 0 rfl,bM.cell_ 1 rfl,bM.cell_ 2 rfl,bM.cell_ 3 rfl,bM.cell_ 4 rfl,bM.cell_ 5 rfl,bM.cell_ 6 rfl,bX.cell_ 3 rfl⟩
       replace own:=Own.drew own
       replace bl:=Blk.drew bl
       replace bh:=Blk.drew bh
       replace bt:=Blk.drew bt
       replace hF2:=Blk.drew hF2
       replace bX:=Blk.drew bX
       replace bM:=Blk.drew bM
       replace HB:=Below.drew HB
       have zHB:=HB.size
       refine zO 1 (.load 33 (.tmp 14)) 33 ?_
       refine zO 4 (.fieldAddr 74 (.tmp 13) 3) 0 ?_
       refine zO 5 (.load 3 (.tmp 64)) 3 ?_
       refine zO 6 (.fieldAddr 33 (.tmp 14) 6) 0 ?_
       refine zO 7 (.load 3 (.tmp 66)) 3 ?_
       refine wpAnyH_ready (rs:=[0,2]) (by kernel_rfl) (by simp) (AllReadyH.cons rfl (fun K0 hK0=>?ku1x0) (AllReadyH.cons rfl (fun K2 hK2=>?ku1x2) AllReadyH.nil))
       case ku1x0 =>
        refine take_any 0 (Op.load 25 (Operand.tmp 4)) 25 rfl rfl rfl (by kernel_rfl) (v:=.slice A n c) (by have k0:=(blk1 bl).1;go_simp;try (with_reducible rfl)) ?_
        refine hK0.out _ _ ?su1xb1x0 (fun hHeld=>?ru1xb1x0)
        case su1xb1x0=>((try dsimp only);exact ⟨bM.cell_ 0 rfl,bM.cell_ 1 rfl,bM.cell_ 2 rfl,bM.cell_ 3 rfl,bM.cell_ 4 rfl,bM.cell_ 5 rfl,bM.cell_ 6 rfl,bX.cell_ 3 rfl⟩)
        try simp only [zSa,zSb,zSc]
        refine zR 2 (fun K2 hK2=>?_)
        refine take_build (e:=33) (len:=1) (size:=7) (gt + 1) ([.int .i64 p0,.int .i64 p1,.int .i64 p2,.int .i64 p3,.int .i64 p4,.int .i64 p5,.int .i64 p6]) 2 (Op.buildSlice 25 1 #[(0,Operand.tmp 61)]) 25 rfl rfl rfl (by kernel_rfl) ?eu1xb1x2 (by rfl) (by decide) (by first | exact Nat.le_refl _ | (simp only [World.size_alloc,World.size_setCell,World.size_drew] at *;omega) | omega) ?_
        case eu1xb1x2=>(go_simp;try (first | with_reducible rfl | (simp [rcells,rcell];done) | (simp [fcells];done) | (simp [tcells];done) | rfl))
        intro gx2 w2 o2 gr2 l2 m2
        have z2:=gr2.size
        try simp only [World.size_drew] at z2
        replace own:=Own.grow0 own gr2
        replace bl:=Blk.grow0 bl gr2
        replace bh:=Blk.grow0 bh gr2
        replace bt:=Blk.grow0 bt gr2
        replace hF2:=Blk.grow0 hF2 gr2
        replace bX:=Blk.grow0 bX gr2
        replace bM:=Blk.grow0 bM gr2
        replace HB:=below_grow HB gr2
        have zHB2:=HB.size
        refine hK2.out _ _ ?su1xb1x2 (fun hHeld=>?ru1xb1x2)
        case su1xb1x2=>((try dsimp only);exact ⟨bM.cell_ 0 rfl,bM.cell_ 1 rfl,bM.cell_ 2 rfl,bM.cell_ 3 rfl,bM.cell_ 4 rfl,bM.cell_ 5 rfl,bM.cell_ 6 rfl,bX.cell_ 3 rfl⟩)
        try simp only [zSa,zSb,zSc]
        refine zR 3 (fun K3 hK3=>?_)
        refine take_app El_me 3 (Operand.tmp 60) (Operand.tmp 62) 25 rfl rfl rfl (by kernel_rfl) own rfl (o2.rd) rfl (mcells_one [⟨p0,p1,p2,p3,p4,p5,p6⟩]) (by unfold maxLen;omega) (by omega) (by first | exact Nat.le_refl _ | (simp only [World.size_alloc,World.size_setCell,World.size_drew] at *;omega) | omega) ?_
        intro A3 c3 w3 o3 gr3 at3
        have z3:=gr3.size
        try simp only [World.size_drew] at z3
        replace bl:=Blk.grown bl gr3 (by intro e;first | exact absurd e.symm (by assumption) | (have:=own.blk _ e.symm;omega))
        replace bh:=Blk.grown bh gr3 (by intro e;first | exact absurd e.symm (by assumption) | (have:=own.blk _ e.symm;omega))
        replace bt:=Blk.grown bt gr3 (by intro e;first | exact absurd e.symm (by assumption) | (have:=own.blk _ e.symm;omega))
        replace hF2:=Blk.grown hF2 gr3 (by intro e;first | exact absurd e.symm (by assumption) | (have:=own.blk _ e.symm;omega))
        replace bX:=Blk.grown bX gr3 (by intro e;first | exact absurd e.symm (by assumption) | (have:=own.blk _ e.symm;omega))
        replace bM:=Blk.grown bM gr3 (by intro e;first | exact absurd e.symm (by assumption) | (have:=own.blk _ e.symm;omega))
        replace HB:=below_grown HB gr3 own (by first | exact Nat.le_refl _ | (simp only [World.size_alloc,World.size_setCell,World.size_drew] at *;omega) | omega)
        have zHB3:=HB.size
        refine hK3.out _ _ ?su1xb1x3 (fun hHeld=>?ru1xb1x3)
        case su1xb1x3=>((try dsimp only);exact ⟨bM.cell_ 0 rfl,bM.cell_ 1 rfl,bM.cell_ 2 rfl,bM.cell_ 3 rfl,bM.cell_ 4 rfl,bM.cell_ 5 rfl,bM.cell_ 6 rfl,bX.cell_ 3 rfl⟩)
        try simp only [zSa,zSb,zSc]
        refine zR 8 (fun K8 hK8=>?_)
        refine take_store 8 (Op.store 25 (Operand.tmp 4) (Operand.tmp 63)) 0 rfl rfl rfl (by kernel_rfl) (w':=w3.setCell ⟨z + 1,0,none⟩ (.slice A3 (n + 1) c3)) (by have bl3:Blk w3 (z + 1) 25 _:=bl;obtain ⟨k0,k1,k2⟩:=blk1 bl3;go_simp;try (with_reducible rfl)) ?_
        refine hK8.out _ _ (⟨(bM.far (p:=⟨z + 1,0,none⟩) (by dsimp only;omega) (.slice A3 (n + 1) c3)).cell_ 0 rfl,(bM.far (p:=⟨z + 1,0,none⟩) (by dsimp only;omega) (.slice A3 (n + 1) c3)).cell_ 1 rfl,(bM.far (p:=⟨z + 1,0,none⟩) (by dsimp only;omega) (.slice A3 (n + 1) c3)).cell_ 2 rfl,(bM.far (p:=⟨z + 1,0,none⟩) (by dsimp only;omega) (.slice A3 (n + 1) c3)).cell_ 3 rfl,(bM.far (p:=⟨z + 1,0,none⟩) (by dsimp only;omega) (.slice A3 (n + 1) c3)).cell_ 4 rfl,(bM.far (p:=⟨z + 1,0,none⟩) (by dsimp only;omega) (.slice A3 (n + 1) c3)).cell_ 5 rfl,(bM.far (p:=⟨z + 1,0,none⟩) (by dsimp only;omega) (.slice A3 (n + 1) c3)).cell_ 6 rfl,(bX.far (p:=⟨z + 1,0,none⟩) (by dsimp only;omega) (.slice A3 (n + 1) c3)).cell_ 3 rfl⟩) (fun hHeld=>?_)
        have bt3:Blk w3 gt 3 _:=bt
        replace bM:=(bM.far (p:=⟨z + 1,0,none⟩) (by dsimp only;omega) (.slice A3 (n + 1) c3))
        replace bX:=(bX.far (p:=⟨z + 1,0,none⟩) (by dsimp only;omega) (.slice A3 (n + 1) c3))
        replace bt:=(bt.far (p:=⟨z + 1,0,none⟩) (by dsimp only;omega) (.slice A3 (n + 1) c3))
        replace bh:=(bh.far (p:=⟨z + 1,0,none⟩) (by dsimp only;omega) (.slice A3 (n + 1) c3))
        replace hF2:=(hF2.far (p:=⟨z + 1,0,none⟩) (by dsimp only;omega) (.slice A3 (n + 1) c3))
        replace HB:=HB.setCell (p:=⟨z + 1,0,none⟩) (by dsimp only;omega) (.slice A3 (n + 1) c3)
        have o4:=o3.far (p:=⟨z + 1,0,none⟩) (fun e=>by have:=(o3.blk _ e).1;dsimp only at this;omega) (.slice A3 (n + 1) c3)
        replace bl:=bl.set 0 (.slice A3 (n + 1) c3)
        refine zO 9 (.assign (.tmp 65)) 3 ?_
        refine zR 10 (fun K10 hK10=>?_)
        refine take_store 10 (Op.store 3 (Operand.tmp 10) (Operand.tmp 67)) 0 rfl rfl rfl (by kernel_rfl) (w':=(w3.setCell ⟨z + 1,0,none⟩ (.slice A3 (n + 1) c3)).setCell ⟨gt,0,none⟩ (.int .i64 p6)) (by obtain ⟨k0,k1,k2⟩:=blk1 bt3;go_simp;try (with_reducible rfl)) ?_
        refine hK10.out _ _ (⟨(bM.far (p:=⟨gt,0,none⟩) (by dsimp only;omega) (.int .i64 p6)).cell_ 0 rfl,(bM.far (p:=⟨gt,0,none⟩) (by dsimp only;omega) (.int .i64 p6)).cell_ 1 rfl,(bM.far (p:=⟨gt,0,none⟩) (by dsimp only;omega) (.int .i64 p6)).cell_ 2 rfl,(bM.far (p:=⟨gt,0,none⟩) (by dsimp only;omega) (.int .i64 p6)).cell_ 3 rfl,(bM.far (p:=⟨gt,0,none⟩) (by dsimp only;omega) (.int .i64 p6)).cell_ 4 rfl,(bM.far (p:=⟨gt,0,none⟩) (by dsimp only;omega) (.int .i64 p6)).cell_ 5 rfl,(bM.far (p:=⟨gt,0,none⟩) (by dsimp only;omega) (.int .i64 p6)).cell_ 6 rfl,(bX.far (p:=⟨gt,0,none⟩) (by dsimp only;omega) (.int .i64 p6)).cell_ 3 rfl⟩) (fun hHeld=>?_)
        replace bl:=(bl.far (p:=⟨gt,0,none⟩) (by dsimp only;omega) (.int .i64 p6))
        replace bh:=(bh.far (p:=⟨gt,0,none⟩) (by dsimp only;omega) (.int .i64 p6))
        replace hF2:=(hF2.far (p:=⟨gt,0,none⟩) (by dsimp only;omega) (.int .i64 p6))
        replace HB:=HB.setCell (p:=⟨gt,0,none⟩) (by dsimp only;omega) (.int .i64 p6)
        replace o4:=o4.far (p:=⟨gt,0,none⟩) (fun e=>by have:=(o4.blk _ e).1;dsimp only at this;omega) (.int .i64 p6)
        replace bt:=bt.set 0 (.int .i64 p6)
        refine wpAnyH_done (by kernel_rfl) ?_ _
        have z2:=gr2.size
        have z3:=gr3.size
        have hzd:w8.drew.heap.size = w8.heap.size:=rfl
        have hsz:((w3.setCell ⟨z + 1,0,none⟩ (.slice A3 (n + 1) c3)).setCell ⟨gt,0,none⟩ (.int .i64 p6)).heap.size = w3.heap.size:=by simp
        have hszg:gt + 1≤((w3.setCell ⟨z + 1,0,none⟩ (.slice A3 (n + 1) c3)).setCell ⟨gt,0,none⟩ (.int .i64 p6)).heap.size:=by omega
        rw [← mcells_snoc'] at o4
        generalize (w3.setCell ⟨z + 1,0,none⟩ (.slice A3 (n + 1) c3)).setCell ⟨gt,0,none⟩ (.int .i64 p6) = w9 at *
        clear hHeld hsz
        go_wp2_with fail
        go_roundw
        case rel=>exact ⟨k + 1,l ++ [⟨p0,p1,p2,p3,p4,p5,p6⟩],ft,p6,A3,n + 1,c3,by go_num,rfl,by omega,HT3,bl,o4,by omega,bh,bt,fun _=>hF2,HB,hszg⟩
        case measure=>simp [intOf];omega
       case ku1x2 =>
        refine take_build (e:=33) (len:=1) (size:=7) (gt + 1) ([.int .i64 p0,.int .i64 p1,.int .i64 p2,.int .i64 p3,.int .i64 p4,.int .i64 p5,.int .i64 p6]) 2 (Op.buildSlice 25 1 #[(0,Operand.tmp 61)]) 25 rfl rfl rfl (by kernel_rfl) ?eu1xb6x2 (by rfl) (by decide) (by first | exact Nat.le_refl _ | (simp only [World.size_alloc,World.size_setCell,World.size_drew] at *;omega) | omega) ?_
        case eu1xb6x2=>(go_simp;try (first | with_reducible rfl | (simp [rcells,rcell];done) | (simp [fcells];done) | (simp [tcells];done) | rfl))
        intro gx2 w2 o2 gr2 l2 m2
        have z2:=gr2.size
        try simp only [World.size_drew] at z2
        replace own:=Own.grow0 own gr2
        replace bl:=Blk.grow0 bl gr2
        replace bh:=Blk.grow0 bh gr2
        replace bt:=Blk.grow0 bt gr2
        replace hF2:=Blk.grow0 hF2 gr2
        replace bX:=Blk.grow0 bX gr2
        replace bM:=Blk.grow0 bM gr2
        replace HB:=below_grow HB gr2
        have zHB2:=HB.size
        refine hK2.out _ _ ?su1xb6x2 (fun hHeld=>?ru1xb6x2)
        case su1xb6x2=>((try dsimp only);exact ⟨bM.cell_ 0 rfl,bM.cell_ 1 rfl,bM.cell_ 2 rfl,bM.cell_ 3 rfl,bM.cell_ 4 rfl,bM.cell_ 5 rfl,bM.cell_ 6 rfl,bX.cell_ 3 rfl⟩)
        try simp only [zSa,zSb,zSc]
        refine zR 0 (fun K0 hK0=>?_)
        refine take_any 0 (Op.load 25 (Operand.tmp 4)) 25 rfl rfl rfl (by kernel_rfl) (v:=.slice A n c) (by have k0:=(blk1 bl).1;go_simp;try (with_reducible rfl)) ?_
        refine hK0.out _ _ ?su1xb6x0 (fun hHeld=>?ru1xb6x0)
        case su1xb6x0=>((try dsimp only);exact ⟨bM.cell_ 0 rfl,bM.cell_ 1 rfl,bM.cell_ 2 rfl,bM.cell_ 3 rfl,bM.cell_ 4 rfl,bM.cell_ 5 rfl,bM.cell_ 6 rfl,bX.cell_ 3 rfl⟩)
        try simp only [zSa,zSb,zSc]
        refine zR 3 (fun K3 hK3=>?_)
        refine take_app El_me 3 (Operand.tmp 60) (Operand.tmp 62) 25 rfl rfl rfl (by kernel_rfl) own rfl (o2.rd) rfl (mcells_one [⟨p0,p1,p2,p3,p4,p5,p6⟩]) (by unfold maxLen;omega) (by omega) (by first | exact Nat.le_refl _ | (simp only [World.size_alloc,World.size_setCell,World.size_drew] at *;omega) | omega) ?_
        intro A3 c3 w3 o3 gr3 at3
        have z3:=gr3.size
        try simp only [World.size_drew] at z3
        replace bl:=Blk.grown bl gr3 (by intro e;first | exact absurd e.symm (by assumption) | (have:=own.blk _ e.symm;omega))
        replace bh:=Blk.grown bh gr3 (by intro e;first | exact absurd e.symm (by assumption) | (have:=own.blk _ e.symm;omega))
        replace bt:=Blk.grown bt gr3 (by intro e;first | exact absurd e.symm (by assumption) | (have:=own.blk _ e.symm;omega))
        replace hF2:=Blk.grown hF2 gr3 (by intro e;first | exact absurd e.symm (by assumption) | (have:=own.blk _ e.symm;omega))
        replace bX:=Blk.grown bX gr3 (by intro e;first | exact absurd e.symm (by assumption) | (have:=own.blk _ e.symm;omega))
        replace bM:=Blk.grown bM gr3 (by intro e;first | exact absurd e.symm (by assumption) | (have:=own.blk _ e.symm;omega))
        replace HB:=below_grown HB gr3 own (by first | exact Nat.le_refl _ | (simp only [World.size_alloc,World.size_setCell,World.size_drew] at *;omega) | omega)
        have zHB3:=HB.size
        refine hK3.out _ _ ?su1xb6x3 (fun hHeld=>?ru1xb6x3)
        case su1xb6x3=>((try dsimp only);exact ⟨bM.cell_ 0 rfl,bM.cell_ 1 rfl,bM.cell_ 2 rfl,bM.cell_ 3 rfl,bM.cell_ 4 rfl,bM.cell_ 5 rfl,bM.cell_ 6 rfl,bX.cell_ 3 rfl⟩)
        try simp only [zSa,zSb,zSc]
        refine zR 8 (fun K8 hK8=>?_)
        refine take_store 8 (Op.store 25 (Operand.tmp 4) (Operand.tmp 63)) 0 rfl rfl rfl (by kernel_rfl) (w':=w3.setCell ⟨z + 1,0,none⟩ (.slice A3 (n + 1) c3)) (by have bl3:Blk w3 (z + 1) 25 _:=bl;obtain ⟨k0,k1,k2⟩:=blk1 bl3;go_simp;try (with_reducible rfl)) ?_
        refine hK8.out _ _ (⟨(bM.far (p:=⟨z + 1,0,none⟩) (by dsimp only;omega) (.slice A3 (n + 1) c3)).cell_ 0 rfl,(bM.far (p:=⟨z + 1,0,none⟩) (by dsimp only;omega) (.slice A3 (n + 1) c3)).cell_ 1 rfl,(bM.far (p:=⟨z + 1,0,none⟩) (by dsimp only;omega) (.slice A3 (n + 1) c3)).cell_ 2 rfl,(bM.far (p:=⟨z + 1,0,none⟩) (by dsimp only;omega) (.slice A3 (n + 1) c3)).cell_ 3 rfl,(bM.far (p:=⟨z + 1,0,none⟩) (by dsimp only;omega) (.slice A3 (n + 1) c3)).cell_ 4 rfl,(bM.far (p:=⟨z + 1,0,none⟩) (by dsimp only;omega) (.slice A3 (n + 1) c3)).cell_ 5 rfl,(bM.far (p:=⟨z + 1,0,none⟩) (by dsimp only;omega) (.slice A3 (n + 1) c3)).cell_ 6 rfl,(bX.far (p:=⟨z + 1,0,none⟩) (by dsimp only;omega) (.slice A3 (n + 1) c3)).cell_ 3 rfl⟩) (fun hHeld=>?_)
        have bt3:Blk w3 gt 3 _:=bt
        replace bM:=(bM.far (p:=⟨z + 1,0,none⟩) (by dsimp only;omega) (.slice A3 (n + 1) c3))
        replace bX:=(bX.far (p:=⟨z + 1,0,none⟩) (by dsimp only;omega) (.slice A3 (n + 1) c3))
        replace bt:=(bt.far (p:=⟨z + 1,0,none⟩) (by dsimp only;omega) (.slice A3 (n + 1) c3))
        replace bh:=(bh.far (p:=⟨z + 1,0,none⟩) (by dsimp only;omega) (.slice A3 (n + 1) c3))
        replace hF2:=(hF2.far (p:=⟨z + 1,0,none⟩) (by dsimp only;omega) (.slice A3 (n + 1) c3))
        replace HB:=HB.setCell (p:=⟨z + 1,0,none⟩) (by dsimp only;omega) (.slice A3 (n + 1) c3)
        have o4:=o3.far (p:=⟨z + 1,0,none⟩) (fun e=>by have:=(o3.blk _ e).1;dsimp only at this;omega) (.slice A3 (n + 1) c3)
        replace bl:=bl.set 0 (.slice A3 (n + 1) c3)
        refine zO 9 (.assign (.tmp 65)) 3 ?_
        refine zR 10 (fun K10 hK10=>?_)
        refine take_store 10 (Op.store 3 (Operand.tmp 10) (Operand.tmp 67)) 0 rfl rfl rfl (by kernel_rfl) (w':=(w3.setCell ⟨z + 1,0,none⟩ (.slice A3 (n + 1) c3)).setCell ⟨gt,0,none⟩ (.int .i64 p6)) (by obtain ⟨k0,k1,k2⟩:=blk1 bt3;go_simp;try (with_reducible rfl)) ?_
        refine hK10.out _ _ (⟨(bM.far (p:=⟨gt,0,none⟩) (by dsimp only;omega) (.int .i64 p6)).cell_ 0 rfl,(bM.far (p:=⟨gt,0,none⟩) (by dsimp only;omega) (.int .i64 p6)).cell_ 1 rfl,(bM.far (p:=⟨gt,0,none⟩) (by dsimp only;omega) (.int .i64 p6)).cell_ 2 rfl,(bM.far (p:=⟨gt,0,none⟩) (by dsimp only;omega) (.int .i64 p6)).cell_ 3 rfl,(bM.far (p:=⟨gt,0,none⟩) (by dsimp only;omega) (.int .i64 p6)).cell_ 4 rfl,(bM.far (p:=⟨gt,0,none⟩) (by dsimp only;omega) (.int .i64 p6)).cell_ 5 rfl,(bM.far (p:=⟨gt,0,none⟩) (by dsimp only;omega) (.int .i64 p6)).cell_ 6 rfl,(bX.far (p:=⟨gt,0,none⟩) (by dsimp only;omega) (.int .i64 p6)).cell_ 3 rfl⟩) (fun hHeld=>?_)
        replace bl:=(bl.far (p:=⟨gt,0,none⟩) (by dsimp only;omega) (.int .i64 p6))
        replace bh:=(bh.far (p:=⟨gt,0,none⟩) (by dsimp only;omega) (.int .i64 p6))
        replace hF2:=(hF2.far (p:=⟨gt,0,none⟩) (by dsimp only;omega) (.int .i64 p6))
        replace HB:=HB.setCell (p:=⟨gt,0,none⟩) (by dsimp only;omega) (.int .i64 p6)
        replace o4:=o4.far (p:=⟨gt,0,none⟩) (fun e=>by have:=(o4.blk _ e).1;dsimp only at this;omega) (.int .i64 p6)
        replace bt:=bt.set 0 (.int .i64 p6)
        refine wpAnyH_done (by kernel_rfl) ?_ _
        have z2:=gr2.size
        have z3:=gr3.size
        have hzd:w8.drew.heap.size = w8.heap.size:=rfl
        have hsz:((w3.setCell ⟨z + 1,0,none⟩ (.slice A3 (n + 1) c3)).setCell ⟨gt,0,none⟩ (.int .i64 p6)).heap.size = w3.heap.size:=by simp
        have hszg:gt + 1≤((w3.setCell ⟨z + 1,0,none⟩ (.slice A3 (n + 1) c3)).setCell ⟨gt,0,none⟩ (.int .i64 p6)).heap.size:=by omega
        rw [← mcells_snoc'] at o4
        generalize (w3.setCell ⟨z + 1,0,none⟩ (.slice A3 (n + 1) c3)).setCell ⟨gt,0,none⟩ (.int .i64 p6) = w9 at *
        clear hHeld hsz
        go_wp2_with fail
        go_roundw
        case rel=>exact ⟨k + 1,l ++ [⟨p0,p1,p2,p3,p4,p5,p6⟩],ft,p6,A3,n + 1,c3,by go_num,rfl,by omega,HT3,bl,o4,by omega,bh,bt,fun _=>hF2,HB,hszg⟩
        case measure=>simp [intOf];omega
      ·have heb:(er != 0) = true:=by simp [he]
       rw [tailGo_no (by simp [goodB,hdd,he])] at hT
       have HXE:Hid ((l,e) = X):=Lib.hid hT
       clear hT HT2 hv hmE hmI hdd he
       go_upto_region 11 with fail
       rw [HW6.out,HGM.out]
       go_wp2_with fail
       refine CG.mono ?_
       clear CG hcn y0 y1 y2 y3 y4 y5 y6
       rintro e w7 ⟨rfl,hb7⟩
       replace bl:=bl.below hb7 bl.lt
       replace bX:=bX.below hb7 bX.lt
       replace own:=own.below hb7
       replace HB:=HB.trans (hb7.mono HB.size)
       obtain ⟨x0,x1,x2,x3,_,_,_,_,_⟩:=blk4 bX
       clear hb7 bh bt bM hF2
       go_wp2_with fail
       refine (HCD.out _).mono ?_
       clear HCD x0 x1 x2 x3
       rintro e w8 ⟨A8,n8,c8,rfl,_,_,hb8⟩
       replace bl:=bl.below hb8 bl.lt
       replace own:=own.below hb8
       replace HB:=HB.trans (hb8.mono HB.size)
       clear hb8 bX
       have hlG:=bl.lt;obtain ⟨cL,fL,_⟩:=blk1 bl;go_wp2_with fail;(try rw [Exit.noGoto_ret]);refine bodyPost_ret (tail_results _ _ (z + 1) (.slice A n c) rfl ((bl.set 0 _).cell_ 0 rfl)) rfl ?_;exact ⟨A,n,c,by rw [← HXE.out];rfl,by rw [← HXE.out];exact (own.far (p:=⟨z + 1,0,none⟩) (fun e=>by have:=(own.blk _ e).1;dsimp only at this;omega) _).rd,HB.setCell (p:=⟨z + 1,0,none⟩) (by dsimp only;omega) _⟩
   ·have hkI:¬ (k:Int) < (nF:Int):=by omega
    have hT:=HT.out
    rw [List.drop_of_length_le (by rw [HN.out];omega)] at hT
    have HXE:Hid ((l,e) = X):=Lib.hid hT
    clear hT HT
    have hlG:=bl.lt;obtain ⟨cL,fL,_⟩:=blk1 bl;go_wp2_with fail;(try rw [Exit.noGoto_ret]);refine bodyPost_ret (tail_results _ _ (z + 1) (.slice A n c) rfl ((bl.set 0 _).cell_ 0 rfl)) rfl ?_;exact ⟨A,n,c,by rw [← HXE.out];rfl,by rw [← HXE.out];exact (own.far (p:=⟨z + 1,0,none⟩) (fun e=>by have:=(own.blk _ e).1;dsimp only at this;omega) _).rd,HB.setCell (p:=⟨z + 1,0,none⟩) (by dsimp only;omega) _⟩
end ScaW
end Go.Proofs.YtnpncpoiiikafaaGreat
