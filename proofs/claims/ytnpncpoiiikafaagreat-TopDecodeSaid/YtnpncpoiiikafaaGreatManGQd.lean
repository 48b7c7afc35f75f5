/- ManG -/
import Derived.Test.YtnpncpoiiikafaaGreatManDQd
import Derived.Test.YtnpncpoiiikafaaGreatSqUQd
import Derived.Test.YtnpncpoiiikafaaGreatRecQQd
import Derived.Test.YtnpncpoiiikafaaGreatSkpBQd
import Derived.Test.YtnpncpoiiikafaaGreatHedIQd
import Derived.Deep.DeepCutAuto
import Derived.Deep.CutRange
set_option linter.unusedVariables false
set_option linter.unusedSimpArgs false
set_option linter.unnecessarySimpa false
set_option maxRecDepth 100000
set_option maxHeartbeats 32000000
namespace Go.Proofs.YtnpncpoiiikafaaGreat
open Go.RowKit
namespace ManW
open TakW (tk flt new_any caughtK_no caughtK_ok)
open ClW (Cl own_fell)
open HedW (blk_at2)
open BloW (results_head)
theorem hcf_md:∀ args w,(callFunc 53 args).run Tryz.prog w = .ok (.enter 53 args) w:=fun args w=>run_enter Tryz.func53 (by kernel_rfl) rfl args w
theorem md_yes (b:List UInt8) (c:Nat) (w:World) (h:∀ i x,(mdL c b 0 mnZ none 0 0)[i]? = some x → Blk w (c + i) x.1 x.2) (hc:c + 3≤w.heap.size) (hs:b.length≤1000000) (h0:(takeM b).2 = 0) :
 Calls Tryz.prog 37 #[.func (.func 53) #[] (mdC c)] w fun e w'=>e = .returned (.tuple #[.int .i64 0,.int .i64 0]) ∧
  (∃ q A n c',(∀ i x,(mdL c b q (takeM b).1 A n c')[i]? = some x → Blk w' (c + i) x.1 x.2)∧Own w' (w.heap.size + 2) 107 9 A n c' (ecells (takeM b).1.ents))∧Below c w w':=by
 have C2:=caughtK_ok 53 hcf_md (mdC c) w (fun w1=>∃ q A n c',Cl _ w1 c (mdL c b q (takeM b).1 A n c')∧Own w1 (w.heap.size + 2) 107 9 A n c' (ecells (takeM b).1.ents)) (fun w1 ⟨q,A,n,c',h,_⟩=>Cl.cells h hc)
  ((md_any b c _ (Cl.start h hc) hs).mono fun e w1 h=>by
   rcases h with ⟨_,h2,q,A,n,c',h3,h4⟩ | ⟨h1,_⟩
   ·exact ⟨h2,q,A,n,c',h3,by simpa using h4⟩
   ·exact absurd h0 h1)
 exact C2.mono fun e w' ⟨h1,w1,⟨q,A,n,c',I,own⟩,F⟩=>⟨h1,⟨q,A,n,c',(Cl.fell I hc F).1,own_fell own F (by omega) (by omega)⟩,(Cl.fell I hc F).2⟩
theorem md_no (b:List UInt8) (c:Nat) (w:World) (h:∀ i x,(mdL c b 0 mnZ none 0 0)[i]? = some x → Blk w (c + i) x.1 x.2) (hc:c + 3≤w.heap.size) (hs:b.length≤1000000) (h0:(takeM b).2 ≠ 0) :
 Calls Tryz.prog 37 #[.func (.func 53) #[] (mdC c)] w fun e w'=>∃ at_,e = .returned (.tuple #[.int .i64 (takeM b).2,.int .i64 at_])∧Below c w w':=by
 have C2:=caughtK_no 53 hcf_md (mdC c) (takeM b).2 w (fun w1=>∃ q m A n c',Cl _ w1 c (mdL c b q m A n c')) (fun w1 ⟨q,m,A,n,c',h⟩=>Cl.cells h hc)
  ((md_any b c _ (Cl.start h hc) hs).mono fun e w1 h=>by
   rcases h with ⟨h1,_⟩ | ⟨_,a,h2,h3⟩
   ·exact absurd h1 h0
   ·exact ⟨a,h2,h3⟩)
 exact C2.mono fun e w' ⟨a,h1,w1,⟨q,m,A,n,c',I⟩,F⟩=>⟨a,h1,(Cl.fell I hc F).2⟩
def wMd (b:List UInt8) (w:World):World :=
 (((w.alloc (.cells (mcs mnZ none 0 0) 49)).alloc (.cells (tk b 0) 145)).alloc (.cells #[.pointer (some ⟨w.heap.size + 1,0,none⟩)] 105)).alloc (.cells (mcs mnZ none 0 0) 49)
theorem wMd_size (b:List UInt8) (w:World):(wMd b w).heap.size = w.heap.size + 4:=by simp [wMd]
theorem wMd_below (b:List UInt8) (w:World):Below w.heap.size w (wMd b w) :=
 ((((Below.refl w.heap.size w).alloc (Nat.le_refl _) _).alloc (by simp) _).alloc (by simp;omega) _).alloc (by simp;omega) _
theorem wMd_res (b:List UInt8) (w:World):Blk (wMd b w) w.heap.size 49 (mcs mnZ none 0 0):=Blk.alloc (Blk.alloc (Blk.alloc (blk_at2 _ _ rfl) _) _) _
theorem wMd_fr (b:List UInt8) (w:World):∀ i x,(mdL (w.heap.size + 1) b 0 mnZ none 0 0)[i]? = some x → Blk (wMd b w) (w.heap.size + 1 + i) x.1 x.2:=by
 intro i x hx
 match i,hx with
 | 0,hx=>obtain rfl:=Option.some.inj hx;exact Blk.alloc (Blk.alloc (blk_at2 _ _ (by simp)) _) _
 | 1,hx=>obtain rfl:=Option.some.inj hx;exact Blk.alloc (blk_at2 _ _ (by simp)) _
 | 2,hx=>obtain rfl:=Option.some.inj hx;exact blk_at2 _ _ (by simp)
 | n + 3,hx=>simp [mdL] at hx
theorem low5 {w0 w:World} {g:Nat} (h:Below w0.heap.size w0 w) (hg:w0.heap.size≤g) (a0 a1 a2 a3 a4:Value):Below w0.heap.size w0 (((((w.setCell ⟨g,0,none⟩ a0).setCell ⟨g,1,none⟩ a1).setCell ⟨g,2,none⟩ a2).setCell ⟨g,3,none⟩ a3).setCell ⟨g,4,none⟩ a4) :=
 ((((h.setCell (p:=⟨g,0,none⟩) hg a0).setCell (p:=⟨g,1,none⟩) hg a1).setCell (p:=⟨g,2,none⟩) hg a2).setCell (p:=⟨g,3,none⟩) hg a3).setCell (p:=⟨g,4,none⟩) hg a4
theorem set5 {w:World} {g:Nat} {t:TypeId} {c0 c1 c2 c3 c4:Value} (h:Blk w g t #[c0,c1,c2,c3,c4]) (a0 a1 a2 a3 a4:Value):Blk (((((w.setCell ⟨g,0,none⟩ a0).setCell ⟨g,1,none⟩ a1).setCell ⟨g,2,none⟩ a2).setCell ⟨g,3,none⟩ a3).setCell ⟨g,4,none⟩ a4) g t #[a0,a1,a2,a3,a4] :=
 blk_eq (((((h.set 0 a0).set 1 a1).set 2 a2).set 3 a3).set 4 a4) (by simp)
theorem takeM_len {b:List UInt8} (h:(takeM b).2 = 0):(takeM b).1.ents.length≤100:=by
 unfold takeM at h ⊢
 by_cases h3:(numsV b 4 0).2.2 = 0
 ·rw [if_pos h3] at h ⊢
  by_cases h4:(getV b (numsV b 4 0).2.1).2.2 = 0
  ·rw [if_pos h4] at h ⊢
   obtain ⟨g1,g2,g3,g4,g5⟩:=getV_ok h4
   unfold takeE at h ⊢
   by_cases h5:100 < (getV b (numsV b 4 0).2.1).1
   ·rw [if_pos h5] at h;simp at h
   ·rw [if_neg h5] at h ⊢
    by_cases h6:(entsV b (getV b (numsV b 4 0).2.1).1.toNat (getV b (numsV b 4 0).2.1).2.1).2.2 = 0
    ·rw [if_pos h6] at h ⊢
     by_cases h7:(entsV b (getV b (numsV b 4 0).2.1).1.toNat (getV b (numsV b 4 0).2.1).2.1).2.1 = b.length
     ·rw [if_pos h7]
      have:=(entsV_ok h6 (by omega) g3).2.2.1
      show (entsV b (getV b (numsV b 4 0).2.1).1.toNat (getV b (numsV b 4 0).2.1).2.1).1.length≤100
      omega
     ·rw [if_neg h7] at h;simp at h
    ·rw [if_neg h6] at h;exact absurd h h6
  ·rw [if_neg h4] at h;exact absurd h h4
 ·rw [if_neg h3] at h;exact absurd h h3
theorem Decode_any (b:List UInt8) (w:World) (hs:b.length≤1000000) (x:Mn × Int) (hx:getM b = x) :
 Calls Tryz.prog 19 #[str b] w fun e w'=>∃ A n c,e = .returned (.tuple #[.agg (mcs x.1 A n c),.int .i64 x.2])∧n≤c∧Rd w' w'.heap.size 9 A n (ecells x.1.ents)∧Below w.heap.size w w':=by
 have hmf:∀ (fn:Fn) (first cap:Array Value) (w:World),(Instr.makeFunc fn first cap).run Tryz.prog w = .ok (.func fn first cap) w:=fun _ _ _ _=>rfl
 have HX:=Lib.hid hx
 clear hx
 go_enter Tryz.func19,Tryz.ntmps19
 go_wp2_with fail
 refine (new_any b _).mono ?_
 rintro e w1 ⟨rfl,rfl⟩
 go_wp2_with fail
 have hsz:=wMd_size b w
 have hlow:=wMd_below b w
 have hres:=wMd_res b w
 by_cases h0:(takeM b).2 = 0
 ·refine (md_yes b (w.heap.size + 1) (wMd b w) (wMd_fr b w) (by omega) (by omega) h0).mono ?_
  rintro e w2 ⟨rfl,⟨q,A,n,c',hq,own⟩,HB⟩
  have R:=own.rd
  have hnc:=own.cap
  have bR:=hres.below HB (by omega)
  have HB2:=hlow.trans (HB.mono (by omega))
  have hx1:=HX.out
  unfold getM at hx1
  rw [if_pos h0] at hx1
  have bH:Blk w2 (w.heap.size + 3) 49 (mcs (takeM b).1 A n c'):=hq 2 _ rfl
  have hle:=takeM_len h0
  have hln:=rd_elen R
  obtain ⟨m,hm⟩:∃ m,(takeM b).1 = m:=⟨_,rfl⟩
  rw [hm] at hx1 bH R hle hln own
  obtain ⟨v,hv⟩:∃ v,chkM m = v:=⟨_,rfl⟩
  have C2:=mcheck_any m A n c' w2 R (by omega) v hv
  rw [hv] at hx1
  have HX1:=Lib.hid hx1
  have HO:=Lib.hid own
  have hwl:w2.heap.size≤w2.heap.size:=Nat.le_refl _
  obtain ⟨g,nx,now,fl,es⟩:=m
  obtain ⟨c0,c1,c2,c3,c4⟩:=blk5 bH
  clear hq HB h0 HX hsz hlow hres hm hx1 hle hln R hv own
  go_wp2_with fail
  refine C2.mono ?_
  clear C2 c0 c1 c2 c3 c4
  rintro e w3 ⟨rfl,hb3⟩
  replace bH:=bH.below hb3 bH.lt
  replace bR:=bR.below hb3 bR.lt
  have own:=HO.out.below hb3
  have hbl:=fun k e=>(own.blk k e).1
  have hnA:blkOf A ≠ some w.heap.size:=fun e=>by have:=hbl _ e;simp only [wMd_size] at this;omega
  have hz3:=hb3.size
  replace HB2:=HB2.trans (hb3.mono HB2.size)
  clear hb3 HO hbl
  obtain ⟨c0,c1,c2,c3,c4⟩:=blk5 bH
  obtain ⟨d0,d1,d2,d3,d4⟩:=blk5 bR
  have fR:=fun i=>bR.frozen i
  have lR:=bR.lt
  by_cases h1:v = 0
  ·subst h1
   have hx2:=HX1.out
   rw [if_pos rfl] at hx2
   subst hx2
   clear HX1
   go_wp2_with fail
   refine bodyPost_ret (results_head rfl _ _ w.heap.size 49 (mcs ⟨g,nx,now,fl,es⟩ A n c') (0,0) _ rfl (set5 bR _ _ _ _ _) Tryz.underlying49 rfl (by kernel_rfl)) rfl ?_
   refine ⟨A,n,c',rfl,hnc,?_,low5 HB2 (Nat.le_refl _) _ _ _ _ _⟩
   exact (((((own.far (p:=⟨w.heap.size,0,none⟩) hnA _).far (p:=⟨w.heap.size,1,none⟩) hnA _).far (p:=⟨w.heap.size,2,none⟩) hnA _).far (p:=⟨w.heap.size,3,none⟩) hnA _).far (p:=⟨w.heap.size,4,none⟩) hnA _).rd
  ·have hx2:=HX1.out
   rw [if_neg h1] at hx2
   subst hx2
   have h1b:(v != 0) = true:=by simp [h1]
   clear HX1
   go_wp2_with fail
   refine bodyPost_ret (results_head rfl _ _ w.heap.size 49 (mcs mnZ none 0 0) (0,0) _ rfl (set5 bR _ _ _ _ _) Tryz.underlying49 rfl (by kernel_rfl)) rfl ?_
   exact ⟨none,0,0,rfl,Nat.le_refl _,Rd.nil _ _ _ _,low5 HB2 (Nat.le_refl _) _ _ _ _ _⟩
 ·refine (md_no b (w.heap.size + 1) (wMd b w) (wMd_fr b w) (by omega) (by omega) h0).mono ?_
  rintro e w2 ⟨at_,rfl,HB⟩
  have bR:=hres.below HB (by omega)
  have HB2:=hlow.trans (HB.mono (by omega))
  have hx1:=HX.out
  unfold getM at hx1
  rw [if_neg h0] at hx1
  obtain ⟨er,her⟩:∃ er,(takeM b).2 = er:=⟨_,rfl⟩
  rw [her] at hx1 h0 ⊢
  subst hx1
  have h0b:(er != 0) = true:=by simp [h0]
  clear her HX hsz hlow hres HB
  obtain ⟨d0,d1,d2,d3,d4⟩:=blk5 bR
  have fR:=fun i=>bR.frozen i
  have lR:=bR.lt
  go_wp2_with fail
  refine bodyPost_ret (results_head rfl _ _ w.heap.size 49 (mcs mnZ none 0 0) (0,0) _ rfl (set5 bR _ _ _ _ _) Tryz.underlying49 rfl (by kernel_rfl)) rfl ?_
  exact ⟨none,0,0,rfl,Nat.le_refl _,Rd.nil _ _ _ _,low5 HB2 (Nat.le_refl _) _ _ _ _ _⟩
end ManW
end Go.Proofs.YtnpncpoiiikafaaGreat
namespace Go.Proofs.YtnpncpoiiikafaaGreat
open Go.RowKit
namespace ManW
open SkpW (En ec blk9)
open SufW (w64s)
theorem same_ents (A:Option Addr) (n c:Nat) (A2:Option Addr) (n2 c2:Nat) (l:List En) (w:World) (h:Rd w w.heap.size 9 A n (ecells l)) (h2:Rd w w.heap.size 9 A2 n2 (ecells l)) (hn:n≤1000000) :
 Calls Tryz.prog 59 #[.slice A n c,.slice A2 n2 c2] w fun e w'=>e = .returned (.bool true)∧Below w.heap.size w w':=by
 have hl:=rd_elen h
 have hl2:=rd_elen h2
 obtain rfl:n = n2:=by omega
 have HL:=Lib.hid hl
 have HR1:=Lib.hid h
 have HR2:=Lib.hid h2
 clear hl hl2 h h2
 go_enter Tryz.func59,Tryz.ntmps59
 go_wp2_with fail
 go_loopw [5] (fun iv wr=>∃ k:Nat,iv = .int .i64 k∧k≤n∧Below w.heap.size w wr) (fun iv _=>n - (intOf iv).toNat)
 case atStart=>exact ⟨0,rfl,by omega,Below.refl _ _⟩
 case round =>
  obtain ⟨k,rfl,hk,HB⟩:=hrel
  by_cases hlt:k < n
  ·have hkl:k < l.length:=by rw [HL.out];exact hlt
   obtain ⟨b,o,rfl,hb,hcc⟩:=rd_ents (HR1.out.below HB) (by omega)
   obtain ⟨e0,e1,e2,e3,e4,e5,e6,e7,e8⟩:=hcc k hkl
   obtain ⟨b2,o2,rfl,hb2,hcc2⟩:=rd_ents (HR2.out.below HB) (by omega)
   obtain ⟨f0,f1,f2,f3,f4,f5,f6,f7,f8⟩:=hcc2 k hkl
   have hkI:(k:Int) < (n:Int):=by omega
   have hk0:(0:Int)≤(k:Int):=by omega
   have hk1:IntKind.i64.wrap ((k:Int) + 1) = (k:Int) + 1:=w64s (by omega) (by omega)
   obtain ⟨p,hp⟩:∃ p,l[k] = p:=⟨_,rfl⟩
   rw [hp] at e0 e1 e2 e3 e4 e5 e6 e7 e8 f0 f1 f2 f3 f4 f5 f6 f7 f8
   obtain ⟨p1,p2,p3,p4,p5,p6,p7,p8,p9⟩:=p
   dsimp only at e0 e1 e2 e3 e4 e5 e6 e7 e8 f0 f1 f2 f3 f4 f5 f6 f7 f8
   clear hcc hcc2 hp
   go_wp2_with fail
   go_quiet (fail)
   go_wp2_with fail
   go_roundw
   case rel=>exact ⟨k + 1,by go_num,by omega,HB.drewN_ _⟩
   case measure=>simp [intOf];omega
  ·have hkI:¬ (k:Int) < (n:Int):=by omega
   go_wp2_with fail
   go_ret
   exact ⟨rfl,HB⟩
theorem same_mani (m:Mn) (A:Option Addr) (n c:Nat) (A2:Option Addr) (n2 c2:Nat) (w:World) (h:Rd w w.heap.size 9 A n (ecells m.ents)) (h2:Rd w w.heap.size 9 A2 n2 (ecells m.ents)) (hn:n≤1000000) :
 Calls Tryz.prog 21 #[.agg (mcs m A n c),.agg (mcs m A2 n2 c2)] w fun e w'=>e = .returned (.bool true)∧Below w.heap.size w w':=by
 obtain ⟨W0,hW0⟩:∃ W0,(w.alloc (.cells (mcs m A n c) 49)).alloc (.cells (mcs m A2 n2 c2) 49) = W0:=⟨_,rfl⟩
 have HB:Below w.heap.size w W0:=hW0 ▸ SkpW.hb2 w _ _
 have B1:Blk W0 w.heap.size 49 (mcs m A n c):=hW0 ▸ (Blk.new _ _ _).alloc _
 have B2:Blk W0 (w.heap.size + 1) 49 (mcs m A2 n2 c2):=hW0 ▸ (by simpa using Blk.new (World.alloc w _) _ _)
 have C:=same_ents A n c A2 n2 c2 m.ents W0 ((h.below HB).more HB.size) ((h2.below HB).more HB.size) hn
 obtain ⟨g,nx,now,fl,es⟩:=m
 have hW0':(w.alloc (.cells #[.int .i64 g,.int .i64 nx,.int .i64 now,.int .i64 fl,.slice A n c] 49)).alloc (.cells #[.int .i64 g,.int .i64 nx,.int .i64 now,.int .i64 fl,.slice A2 n2 c2] 49) = W0:=hW0
 have HW:=Lib.hid hW0'
 clear hW0 hW0' h h2 B1 B2
 go_enter Tryz.func21,Tryz.ntmps21
 go_wp2_with fail
 rw [HW.out]
 refine C.mono ?_
 clear C
 rintro e w1 ⟨rfl,hb1⟩
 go_wp2_with fail
 go_ret
 exact ⟨rfl,HB.trans (hb1.mono HB.size)⟩
end ManW
end Go.Proofs.YtnpncpoiiikafaaGreat
namespace Go.Proofs.YtnpncpoiiikafaaGreat
open Go.RowKit
namespace TopW
open SqW (unpackV packB unpack_pack textU invV unpOf Unpack_any pack_any packed_any hufB_le symsOf syms_len syms_bad)
open SufW (Sa letters invGo prim_in)
open BloW (decB decB_ok dec_enc encB BodyOf)
theorem invGo_len (L:List UInt8) (pr:Nat):∀ (k row:Nat) (acc t:List UInt8),invGo L pr k row acc = some t → t.length = k + acc.length
 | 0,row,acc,t,h=>by
  unfold invGo at h
  split at h
  ·obtain rfl:=Option.some.inj h;omega
  ·cases h
 | k + 1,row,acc,t,h=>by
  unfold invGo at h
  split at h
  ·cases h
  ·have:=invGo_len L pr k _ _ t h
   rw [List.length_cons] at this
   omega
theorem inv_len {L:List UInt8} {pr:Int} (h:(invV L pr).2 = 0):(invV L pr).1.length≤20000:=by
 unfold invV at h ⊢
 by_cases h1:20000 < L.length
 ·rw [if_pos h1] at h;simp at h
 ·rw [if_neg h1] at h ⊢
  by_cases h2:SqW.mayP L pr = true
  ·rw [if_pos h2] at h ⊢
   cases hg:invGo L pr.toNat L.length 0 [] with
   | none=>rw [hg] at h;simp at h
   | some t =>
    have:=invGo_len _ _ _ _ _ _ hg
    simp only [List.length_nil] at this
    show t.length≤20000
    omega
  ·rw [if_neg h2] at h;simp at h
theorem textU_len {sym:List Int} {pr n:Int} (h:(textU sym pr n).2 = 0):(textU sym pr n).1.length≤20000:=by
 unfold textU at h ⊢
 by_cases a1:n < 0 ∨ 20000 < n
 ·rw [if_pos a1] at h;simp at h
 ·rw [if_neg a1] at h ⊢
  by_cases a2:(SqW.zunV sym n).2 = 0
  ·rw [if_pos a2] at h ⊢
   by_cases a3:((SqW.zunV sym n).1.length:Int) = n
   ·rw [if_pos a3] at h ⊢
    by_cases a4:(FrontW.textS (SqW.zunV sym n).1).2 = 0
    ·rw [if_pos a4] at h ⊢
     exact inv_len h
    ·rw [if_neg a4] at h;exact absurd h a4
   ·rw [if_neg a3] at h;simp at h
  ·rw [if_neg a2] at h;exact absurd h a2
theorem unpOf_len {b:List UInt8} {x:List Int × Int × Int} (h:(unpOf b x).2 = 0):(unpOf b x).1.length≤20000:=by
 unfold unpOf at h ⊢
 by_cases a1:x.2.2 = 0
 ·rw [if_pos a1] at h ⊢
  by_cases a2:(20000:Int) < (x.1[0]?.getD (0:Int)) ∨ (x.1[0]?.getD (0:Int)) < (x.1[2]?.getD (0:Int))
  ·rw [if_pos a2] at h;simp at h
  ·rw [if_neg a2] at h ⊢
   by_cases a3:(HufW.decV (b.drop x.2.1.toNat) (x.1[2]?.getD 0).toNat).2 = 0
   ·rw [if_pos a3] at h ⊢
    exact textU_len h
   ·rw [if_neg a3] at h;exact absurd h a3
 ·rw [if_neg a1] at h;exact absurd h a1
theorem unpack_len {b:List UInt8} (h:(unpackV b).2 = 0):(unpackV b).1.length≤20000:=unpOf_len h
theorem pack_le {s:List UInt8} {A:List Nat} {pr:Nat} (hA:Sa (letters s) A) (hs:s.length≤20000):(packB s A pr).length≤94000:=by
 have hl:=syms_len s A hA
 have hb:=hufB_le (symsOf s A) (by omega) (syms_bad s A)
 have h1:(lput [(s.length:Int),(pr:Int),((symsOf s A).length:Int)]).length≤27:=by
  have v1:=vlen_le (Int.toNat (s.length:Int))
  have v2:=vlen_le (Int.toNat (pr:Int))
  have v3:=vlen_le (Int.toNat ((symsOf s A).length:Int))
  simp only [lput,List.flatMap_cons,List.flatMap_nil,List.length_append,List.length_nil,vbytes_len]
  omega
 unfold packB
 rw [List.length_append,textB_len]
 omega
theorem enc_le {l:List Rc} {body:List UInt8} {mode:UInt8} (h:BodyOf (flatR l) mode body) (hr:(flatR l).length≤20000):(encB l mode body).length≤100000:=by
 have h1:body.length≤94000:=by
  rcases h with ⟨_,h⟩ | ⟨_,A,pr,hA,hpr,h⟩
  ·rw [h];omega
  ·rw [h];exact pack_le hA hr
 have h2:=BloW.nums5_len l (flatR l).length
 unfold encB
 rw [List.length_cons,List.length_append]
 omega
open HedW (getH getF getH_back getF_back hA mcells)
open ManW (getM getM_back mcs ecells chkM numsM)
theorem decode_law (b:List UInt8) (w:World) :
 Calls Tryz.prog 4 #[str b] w fun e w'=>e = .returned (.bool true)∧Below w.heap.size w w':=by
 by_cases hbig:2000 < b.length
 ·have hI:(2000:Int) < (b.length:Int):=by omega
  have C:=packed_any w
  go_enter Tryz.func4,Tryz.ntmps4
  go_wp2_with fail
  refine C.mono ?_
  rintro e w1 ⟨rfl,hb1⟩
  go_wp2_with fail
  go_ret
  exact ⟨rfl,hb1⟩
 ·have hI:¬ (2000:Int) < (b.length:Int):=by omega
  have hs:b.length≤2000:=by omega
  clear hbig
  obtain ⟨x1,hx1⟩:∃ x,unpackV b = x:=⟨_,rfl⟩
  have C1:=Unpack_any b w (by omega) x1 hx1
  have hl1:=fun h=>unpack_len (b:=b) h
  rw [hx1] at hl1
  obtain ⟨s,er1⟩:=x1
  dsimp only at hl1 C1
  have HL1:=Lib.hid hl1
  clear hl1 hx1
  go_enter Tryz.func4,Tryz.ntmps4
  go_wp2_with fail
  refine C1.mono ?_
  clear C1
  rintro e w1 ⟨rfl,HB⟩
  go_upto_if 39 with fail
  go_cut [5,6,7,8] from 40 to 60 (fun p5 p6 p7 p8 wx=>Below w.heap.size w wx)
  case first =>
   by_cases he:er1 = 0
   ·subst he
    have hsl:=HL1.out rfl
    have CP:=pack_any s w1 hsl
    clear HL1
    go_wp2_with fail
    refine CP.mono ?_
    clear CP
    rintro e w2 ⟨A,pr,rfl,hA,hpr,hb2⟩
    have hu:=unpack_pack s A hA pr hpr hsl
    have hpl:=pack_le (pr:=pr) hA hsl
    have CU:=Unpack_any (packB s A pr) w2 (by omega) _ hu
    replace HB:=HB.trans (hb2.mono HB.size)
    generalize packB s A pr = c at *
    clear hu hpl hA hpr hb2
    go_wp2_with fail
    refine CU.mono ?_
    clear CU
    rintro e w3 ⟨rfl,hb3⟩
    replace HB:=HB.trans (hb3.mono HB.size)
    clear hb3
    go_wp2_with fail
    go_meet
    case rel=>exact HB
   ·have heb:(er1 == 0) = false:=by simp [he]
    clear HL1
    go_wp2_with fail
    go_meet
    case rel=>exact HB
  case rest =>
   replace HB:=hcut
   clear hcut
   obtain ⟨x2,hx2⟩:∃ x,decB b = x:=⟨_,rfl⟩
   have C2:=BloW.Decode_any b wc (by omega) x2 hx2
   have hok:=fun h=>decB_ok (b:=b) h
   rw [hx2] at hok
   obtain ⟨l2,er2⟩:=x2
   dsimp only at hok C2
   have HOK:=Lib.hid hok
   clear hok hx2 HL1
   go_wp2_with fail
   refine C2.mono ?_
   clear C2
   rintro e w2 ⟨A2,n2,c2,rfl,hnc2,R2,hb2⟩
   replace HB:=HB.trans (hb2.mono HB.size)
   clear hb2
   go_upto_if 67 with fail
   go_cut [11,12,13,14] from 68 to 89 (fun p5 p6 p7 p8 wx=>Below w.heap.size w wx)
   case first =>
    by_cases he:er2 = 0
    ·subst he
     obtain ⟨_,_,_,_,_,hr,hl,hraw,_⟩:=HOK.out rfl
     have hln:l2.length = n2:=rd_rlen R2
     have hlr:l2.length≤20000:=by
      have:=BloW.flat_len3 l2 (rowFrom_ok hr)
      omega
     have CP:=BloW.encode_any A2 n2 c2 l2 w2 R2 (by omega) (by omega) hr hraw
     have HR2:=Lib.hid R2
     have HDE:=Lib.hid (fun md bd (hb:BodyOf (flatR l2) md bd)=>dec_enc hr hl hraw hb)
     have HLE:=Lib.hid (fun md bd (hb:BodyOf (flatR l2) md bd)=>enc_le hb hraw)
     have HLL:=Lib.hid hlr
     clear HOK hr hl hraw hln R2 hlr
     go_wp2_with fail
     refine CP.mono ?_
     clear CP
     rintro e w3 ⟨md,bd,rfl,hbd,hb3⟩
     have hd:=HDE.out md bd hbd
     have hle:=HLE.out md bd hbd
     have CU:=BloW.Decode_any (encB l2 md bd) w3 (by omega) _ hd
     have R3:=(HR2.out.below hb3).more hb3.size
     replace HB:=HB.trans (hb3.mono HB.size)
     generalize encB l2 md bd = c at *
     have HR3:=Lib.hid R3
     clear hd hle hb3 hbd HDE HLE HR2 R3
     go_wp2_with fail
     refine CU.mono ?_
     clear CU
     rintro e w4 ⟨A4,n4,c4,rfl,hnc4,R4,hb4⟩
     have CS:=SkpW.same_self A4 A2 n4 c4 n2 c2 l2 w4 R4 ((HR3.out.below hb4).more hb4.size) (by have:=HLL.out;omega)
     replace HB:=HB.trans (hb4.mono HB.size)
     clear hb4 R4 HR3
     go_wp2_with fail
     refine CS.mono ?_
     clear CS
     rintro e w5 ⟨rfl,hb5⟩
     replace HB:=HB.trans (hb5.mono HB.size)
     clear hb5
     go_wp2_with fail
     go_meet
     case rel=>exact HB
    ·have heb:(er2 == 0) = false:=by simp [he]
     clear HOK R2
     go_wp2_with fail
     go_meet
     case rel=>exact HB
   case rest =>
    replace HB:=hcut
    clear hcut R2 HOK
    obtain ⟨x3,hx3⟩:∃ x,getH b = x:=⟨_,rfl⟩
    have C3:=HedW.Get_any b wc (by omega) x3 hx3
    have hok:=fun h=>getH_back (b:=b) h
    rw [hx3] at hok
    obtain ⟨l3,er3⟩:=x3
    dsimp only at hok C3
    unfold hA at C3
    obtain ⟨h1,hh1⟩:∃ x,HedW.at3 l3 0 = x:=⟨_,rfl⟩
    obtain ⟨h2,hh2⟩:∃ x,HedW.at3 l3 1 = x:=⟨_,rfl⟩
    obtain ⟨h3,hh3⟩:∃ x,HedW.at3 l3 2 = x:=⟨_,rfl⟩
    rw [hh1,hh2,hh3] at hok C3
    have HOK:=Lib.hid hok
    clear hok hx3 hh1 hh2 hh3
    go_wp2_with fail
    refine C3.mono ?_
    clear C3
    rintro e w3 ⟨rfl,hb3⟩
    replace HB:=HB.trans (hb3.mono HB.size)
    clear hb3
    obtain ⟨w4,hw4⟩:∃ w4,w3.alloc (.cells #[.int .i64 h1,.int .i64 h2,.int .i64 h3] 23) = w4:=⟨_,rfl⟩
    have HB4:Below w.heap.size w w4:=hw4 ▸ HB.alloc HB.size _
    have B4:Blk w4 w3.heap.size 23 #[.int .i64 h1,.int .i64 h2,.int .i64 h3]:=hw4 ▸ Blk.new _ _ _
    have HW4:=Lib.hid hw4
    clear hw4 HB
    go_upto_if 96 with fail
    rw [HW4.out]
    clear HW4
    have HB:=HB4
    clear HB4
    go_cut [17,18] from 97 to 108 (fun p5 p6 wx=>Below w.heap.size w wx)
    case first =>
     by_cases he:er3 = 0
     ·subst he
      obtain ⟨hh,hbk,_⟩:=HOK.out rfl
      have CP:=HedW.Put_yes h1 h2 h3 w4 hh
      rw [hbk] at CP
      obtain ⟨k0,k1,k2,_,_,_,_⟩:=blk3 B4
      clear HOK hh hbk
      go_wp2_with fail
      refine CP.mono ?_
      clear CP k0 k1 k2
      rintro e w5 ⟨rfl,hb5⟩
      replace HB:=HB.trans (hb5.mono HB.size)
      clear hb5
      go_wp2_with fail
      go_meet
      case rel=>exact HB
     ·have heb:(er3 == 0) = false:=by simp [he]
      clear HOK B4
      go_wp2_with fail
      go_meet
      case rel=>exact HB
    case rest =>
     replace HB:=hcut
     clear hcut B4 HOK
     obtain ⟨x4,hx4⟩:∃ x,getF b = x:=⟨_,rfl⟩
     have C4:=HedW.GetFoot_any b wc (by omega) x4 hx4
     have hok:=fun h=>getF_back (b:=b) h
     rw [hx4] at hok
     obtain ⟨l4,er4⟩:=x4
     dsimp only at hok C4
     have HOK:=Lib.hid hok
     clear hok hx4
     go_wp2_with fail
     refine C4.mono ?_
     clear C4
     rintro e w5 ⟨A5,n5,c5,rfl,hnc5,R5,hb5⟩
     replace HB:=HB.trans (hb5.mono HB.size)
     clear hb5
     go_upto_if 115 with fail
     go_cut [21,22] from 116 to 127 (fun p5 p6 wx=>Below w.heap.size w wx)
     case first =>
      by_cases he:er4 = 0
      ·subst he
       obtain ⟨hbl,hbk⟩:=HOK.out rfl
       have CP:=HedW.PutFoot_any A5 n5 c5 l4 w5 R5 hbl
       rw [hbk] at CP
       clear HOK hbl hbk R5
       go_wp2_with fail
       refine CP.mono ?_
       clear CP
       rintro e w6 ⟨rfl,hb6⟩
       replace HB:=HB.trans (hb6.mono HB.size)
       clear hb6
       go_wp2_with fail
       go_meet
       case rel=>exact HB
      ·have heb:(er4 == 0) = false:=by simp [he]
       clear HOK R5
       go_wp2_with fail
       go_meet
       case rel=>exact HB
     case rest =>
      replace HB:=hcut
      clear hcut R5 HOK
      obtain ⟨x5,hx5⟩:∃ x,getM b = x:=⟨_,rfl⟩
      have C5:=fun w=>ManW.Decode_any b w (by omega) x5 hx5
      have hok:=fun h=>getM_back (b:=b) h
      rw [hx5] at hok
      obtain ⟨m5,er5⟩:=x5
      dsimp only at hok C5
      have HOK:=Lib.hid hok
      have HC5:=Lib.hid C5
      have C5:=C5 wc
      obtain ⟨g,nx,now,fl,es⟩:=m5
      clear hok hx5
      go_wp2_with fail
      refine C5.mono ?_
      clear C5
      rintro e w6 ⟨A6,n6,c6,rfl,hnc6,R6,hb6⟩
      replace HB:=HB.trans (hb6.mono HB.size)
      clear hb6
      obtain ⟨w7,hw7⟩:∃ w7,w6.alloc (.cells #[.int .i64 g,.int .i64 nx,.int .i64 now,.int .i64 fl,.slice A6 n6 c6] 49) = w7:=⟨_,rfl⟩
      have hb7:Below w6.heap.size w6 w7:=hw7 ▸ (Below.refl _ _).alloc (Nat.le_refl _) _
      have B7:Blk w7 w6.heap.size 49 (mcs ⟨g,nx,now,fl,es⟩ A6 n6 c6):=hw7 ▸ Blk.new _ _ _
      have HW7:=Lib.hid hw7
      replace HB:=HB.trans (hb7.mono HB.size)
      have R7:=(R6.below hb7).more hb7.size
      clear hw7 hb7 R6
      go_upto_if 134 with fail
      rw [HW7.out]
      clear HW7
      go_cut [25,26,27,28] from 135 to 156 (fun p5 p6 p7 p8 wx=>Below w.heap.size w wx)
      case first =>
       by_cases he:er5 = 0
       ·subst he
        obtain ⟨hck,_,hin,hbk⟩:=HOK.out rfl
        have CP:=ManW.Encode_any ⟨g,nx,now,fl,es⟩ A6 n6 c6 w7 R7 hck hin
        rw [hbk] at CP
        obtain ⟨k0,k1,k2,k3,k4⟩:=ManW.blk5 B7
        have HR7:=Lib.hid R7
        have hln:n6≤1000000:=by
         have h1:=ManW.rd_elen R7
         have h2:=(ManW.chkM_len hck).2
         dsimp only at h1 h2
         omega
        clear HOK hck hin hbk R7
        go_wp2_with fail
        refine CP.mono ?_
        clear CP k0 k1 k2 k3 k4
        rintro e w8 ⟨rfl,hb8⟩
        have R8:=(HR7.out.below hb8).more hb8.size
        have B8:=B7.below hb8 B7.lt
        replace HB:=HB.trans (hb8.mono HB.size)
        have C5:=HC5.out w8
        have HR8:=Lib.hid R8
        clear hb8 HR7 R8 B7
        go_wp2_with fail
        refine C5.mono ?_
        clear C5
        rintro e w9 ⟨A9,n9,c9,rfl,hnc9,R9,hb9⟩
        have B9:=B8.below hb9 B8.lt
        have R8:=(HR8.out.below hb9).more hb9.size
        replace HB:=HB.trans (hb9.mono HB.size)
        clear hb9 B8 HR8
        obtain ⟨wx,hwx⟩:∃ wx,w9.alloc (.cells #[.int .i64 g,.int .i64 nx,.int .i64 now,.int .i64 fl,.slice A9 n9 c9] 49) = wx:=⟨_,rfl⟩
        have hbx:Below w9.heap.size w9 wx:=hwx ▸ (Below.refl _ _).alloc (Nat.le_refl _) _
        have BX:Blk wx w9.heap.size 49 (mcs ⟨g,nx,now,fl,es⟩ A9 n9 c9):=hwx ▸ Blk.new _ _ _
        have B9':=B9.below hbx B9.lt
        have HWX:=Lib.hid hwx
        replace HB:=HB.trans (hbx.mono HB.size)
        have CS:=ManW.same_mani ⟨g,nx,now,fl,es⟩ A6 n6 c6 A9 n9 c9 wx ((R8.below hbx).more hbx.size) ((R9.below hbx).more hbx.size) hln
        obtain ⟨k0,k1,k2,k3,k4⟩:=ManW.blk5 B9'
        obtain ⟨j0,j1,j2,j3,j4⟩:=ManW.blk5 BX
        clear hwx hbx R8 R9 B9
        go_upto_region 29 with fail
        rw [HWX.out]
        clear HWX
        go_wp2_with fail
        refine CS.mono ?_
        clear CS k0 k1 k2 k3 k4 j0 j1 j2 j3 j4
        rintro e wy ⟨rfl,hby⟩
        replace HB:=HB.trans (hby.mono HB.size)
        clear hby
        go_wp2_with fail
        go_meet
        case rel=>exact HB
       ·have heb:(er5 == 0) = false:=by simp [he]
        clear HOK B7 R7
        go_wp2_with fail
        go_meet
        case rel=>exact HB
      case rest =>
       replace HB:=hcut
       clear hcut B7 R7 HOK HC5
       have C:=packed_any wc
       go_wp2_with fail
       refine C.mono ?_
       clear C
       rintro e wz ⟨rfl,hbz⟩
       replace HB:=HB.trans (hbz.mono HB.size)
       go_wp2_with fail
       go_ret
       exact ⟨rfl,HB⟩
theorem decode_str (s:ByteArray) (w:World) :
 Calls Tryz.prog 4 #[.string s] w fun e w'=>e = .returned (.bool true)∧Below w.heap.size w w':=by
 obtain ⟨l,rfl,_⟩:=str_of s
 exact decode_law l w
end TopW
end Go.Proofs.YtnpncpoiiikafaaGreat
