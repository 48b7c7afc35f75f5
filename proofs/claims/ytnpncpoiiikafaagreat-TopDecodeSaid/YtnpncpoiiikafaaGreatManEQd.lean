/- ManE -/
import Derived.Test.YtnpncpoiiikafaaGreatManCQd
import Derived.Test.YtnpncpoiiikafaaGreatHedFQd
import Derived.Test.YtnpncpoiiikafaaGreatHedHQd
set_option linter.unusedVariables false
set_option linter.unusedSimpArgs false
set_option linter.unnecessarySimpa false
set_option maxRecDepth 100000
set_option maxHeartbeats 32000000
namespace Go.Proofs.YtnpncpoiiikafaaGreat
open Go.RowKit
namespace ManW
open SkpW (En ec blk9)
open SufW (w64s)
open FrontW (El_int)
open HedW (ints_app lput_ne)
theorem chkM_len {m:Mn} (h:chkM m = 0):0 < m.ents.length∧m.ents.length≤100:=by
 unfold chkM at h
 by_cases h1:m.gen < 1 ∨ 1000000000 < m.gen ∨ m.now < 0 ∨ 1000000000 < m.now ∨ rowEV m.ents ≠ 0
 ·rw [if_pos h1] at h;simp at h
 ·have h2:rowEV m.ents = 0:=by
   by_cases e:rowEV m.ents = 0
   ·exact e
   ·exact absurd (.inr (.inr (.inr (.inr e)))) h1
  unfold rowEV at h2
  by_cases hc:m.ents.length < 1 ∨ 100 < m.ents.length ∨ (m.ents[m.ents.length - 1]?.getD enZ).shut = true
  ·rw [if_pos hc] at h2;simp at h2
  ·omega
theorem Encode_any (m:Mn) (A:Option Addr) (n c:Nat) (w:World) (h:Rd w w.heap.size 9 A n (ecells m.ents)) (hv:chkM m = 0) (hin:∀ x ∈ numsM m,0≤x∧x≤9223372036854775807) :
 Calls Tryz.prog 20 #[.agg (mcs m A n c)] w fun e w'=>e = .returned (.tuple #[str (lput (numsM m)),.int .i64 0])∧Below w.heap.size w w':=by
 have hl:=rd_elen h
 obtain ⟨hl0,hl1⟩:=chkM_len hv
 obtain ⟨w1,hw1⟩:∃ w1,w.alloc (.cells (mcs m A n c) 49) = w1:=⟨_,rfl⟩
 have B:=hw1 ▸ Blk.new w 49 (mcs m A n c)
 have HB:Below w.heap.size w w1:=hw1 ▸ (Below.refl _ w).alloc (Nat.le_refl _) _
 have hz1:=HB.size
 have CM:=mcheck_any m A n c w1 ((h.below HB).more HB.size) (by omega) 0 hv
 have HH:=Lib.hid h
 have HL:=Lib.hid hl
 have HIN:=Lib.hid hin
 have BM:=Lib.hid B
 have hn0:0 < n:=by omega
 have hn1:n≤100:=by omega
 have HNM:Hid (numsM m = [m.gen,m.next,m.now,m.floor,(n:Int)] ++ m.ents.flatMap numE):=Lib.hid (by unfold numsM;rw [hl])
 obtain ⟨g,nx,now,fl,es⟩:=m
 dsimp only at HNM
 have hw1':w.alloc (.cells #[.int .i64 g,.int .i64 nx,.int .i64 now,.int .i64 fl,.slice A n c] 49) = w1:=hw1
 have HW:=Lib.hid hw1'
 obtain ⟨c0,c1,c2,c3,c4⟩:=blk5 B
 obtain ⟨L,hL⟩:∃ L,numsM ⟨g,nx,now,fl,es⟩ = L:=⟨_,rfl⟩
 rw [hL] at HIN HNM
 have HLL:=Lib.hid hL
 clear h hl hin hv hw1 hw1' B hL hl0 hl1
 go_enter Tryz.func20,Tryz.ntmps20
 go_wp2_with fail
 rw [HW.out]
 refine CM.mono ?_
 clear CM c0 c1 c2 c3 c4
 rintro e w2 ⟨rfl,hb2⟩
 have HB2:=HB.trans (hb2.mono HB.size)
 have B2:=BM.out.below hb2 BM.out.lt
 obtain ⟨c0,c1,c2,c3,c4⟩:=blk5 B2
 have hws:=HB2.size
 have o0:Own (w2.alloc (.cells (ints [g,nx,now,fl,(n:Int)]).toArray 3)) w2.heap.size 3 1 (some ⟨w2.heap.size,0,none⟩) 5 5 (ints [g,nx,now,fl,(n:Int)]):=own_new rfl rfl (Nat.le_refl _) (by unfold maxLen;omega)
 have HB3:=HB2.alloc HB2.size (.cells (ints [g,nx,now,fl,(n:Int)]).toArray 3)
 have B3:=B2.alloc (.cells (ints [g,nx,now,fl,(n:Int)]).toArray 3)
 obtain ⟨w3,hw3⟩:∃ w3,w2.alloc (.cells (ints [g,nx,now,fl,(n:Int)]).toArray 3) = w3:=⟨_,rfl⟩
 have hw3':w2.alloc (.cells #[.int .i64 g,.int .i64 nx,.int .i64 now,.int .i64 fl,.int .i64 (n:Int)] 3) = w3:=hw3
 have HW3:=Lib.hid hw3'
 have hz3:w2.heap.size≤w3.heap.size:=by rw [← hw3];simp
 rw [hw3] at o0 HB3 B3
 clear hw3 hw3' B2 hb2
 go_upto_region 5 with fail
 rw [HW3.out]
 clear c0 c1 c2 c3 c4
 obtain ⟨c0,c1,c2,c3,c4⟩:=blk5 B3
 clear B3 HW3 HW BM
 go_wp2_with fail
 clear c0 c1 c2 c3 c4
 go_loopw [5,34] (fun v5 iv wr=>∃ (k N:Nat) (X:Option Addr) (c':Nat),iv = .int .i64 k∧v5 = .slice X N c'∧k≤n∧Hid (N = 5 + 9 * k)∧N≤905∧Own wr w2.heap.size 3 1 X N c' (ints ([g,nx,now,fl,(n:Int)] ++ (es.take k).flatMap numE))∧Below w.heap.size w wr∧w2.heap.size≤wr.heap.size) (fun _ iv _=>n - (intOf iv).toNat)
 case atStart=>exact ⟨0,5,_,_,rfl,rfl,by omega,Lib.hid rfl,by omega,by simpa using o0,HB3,hz3⟩
 case round =>
  clear o0 HB3
  obtain ⟨k,N,X,c',rfl,rfl,hk,HN,hN,own,HB4,hzr⟩:=hrel
  by_cases hlt:k < n
  ·have hkl:k < es.length:=by have:=HL.out;(try dsimp only at this);omega
   obtain ⟨b,o,rfl,hb,hcc⟩:=rd_ents (HH.out.below HB4) hn0
   obtain ⟨e0,e1,e2,e3,e4,e5,e6,e7,e8⟩:=hcc k hkl
   have HS:Hid ((es.take (k + 1)).flatMap numE = (es.take k).flatMap numE ++ numE es[k]):=Lib.hid (by rw [List.take_succ_eq_append_getElem hkl,List.flatMap_append];simp)
   have hkI:(k:Int) < (n:Int):=by omega
   have hk0:(0:Int)≤(k:Int):=by omega
   have hk1:IntKind.i64.wrap ((k:Int) + 1) = (k:Int) + 1:=w64s (by omega) (by omega)
   obtain ⟨p,hp⟩:∃ p,es[k] = p:=⟨_,rfl⟩
   rw [hp] at e0 e1 e2 e3 e4 e5 e6 e7 e8 HS
   obtain ⟨m0,m1,m2,m3,m4,m5,m6,m7,m8⟩:=p
   dsimp only at e0 e1 e2 e3 e4 e5 e6 e7 e8
   have hbl:=fun b e=>(own.blk b e).1
   obtain ⟨sv,hsv⟩:∃ sv,flagN m3 = sv:=⟨_,rfl⟩
   have oA:=(own.alloc (.cells #[.int .i64 m0,.int .i64 m1,.int .i64 m2,.bool m3,.int .i64 m4,.int .i64 m5,.int .i64 m6,.int .i64 m7,.int .i64 m8] 107)).alloc (.cells #[.int .i64 m0,.int .i64 m1,.int .i64 m2,.int .i64 sv,.int .i64 m4,.int .i64 m5,.int .i64 m6,.int .i64 m7,.int .i64 m8] 3)
   have HBA:=(HB4.alloc HB4.size (.cells #[.int .i64 m0,.int .i64 m1,.int .i64 m2,.bool m3,.int .i64 m4,.int .i64 m5,.int .i64 m6,.int .i64 m7,.int .i64 m8] 107)).alloc (by have:=HB4.size;simp;omega) (.cells #[.int .i64 m0,.int .i64 m1,.int .i64 m2,.int .i64 sv,.int .i64 m4,.int .i64 m5,.int .i64 m6,.int .i64 m7,.int .i64 m8] 3)
   have hrn:Rd ((wr.alloc (.cells #[.int .i64 m0,.int .i64 m1,.int .i64 m2,.bool m3,.int .i64 m4,.int .i64 m5,.int .i64 m6,.int .i64 m7,.int .i64 m8] 107)).alloc (.cells #[.int .i64 m0,.int .i64 m1,.int .i64 m2,.int .i64 sv,.int .i64 m4,.int .i64 m5,.int .i64 m6,.int .i64 m7,.int .i64 m8] 3)) (wr.heap.size + 1 + 1) 1 (some ⟨wr.heap.size + 1,0,none⟩) 9 (ints [m0,m1,m2,sv,m4,m5,m6,m7,m8]):=by
    have:=rd_new (W0:=wr.alloc (.cells #[.int .i64 m0,.int .i64 m1,.int .i64 m2,.bool m3,.int .i64 m4,.int .i64 m5,.int .i64 m6,.int .i64 m7,.int .i64 m8] 107)) (t:=3) (g:=wr.heap.size + 1) (m:=9) (size:=1) (cs:=ints [m0,m1,m2,sv,m4,m5,m6,m7,m8]) (by simp) rfl
    exact this
   have HNE:Hid (numE ⟨m0,m1,m2,m3,m4,m5,m6,m7,m8⟩ = [m0,m1,m2,sv,m4,m5,m6,m7,m8]):=Lib.hid (by unfold numE;rw [hsv])
   clear hcc hp
   cases m3 with
   | true =>
    have hs1:sv = 1:=hsv.symm
    subst hs1
    clear hsv
    go_wp2_with (at_builtin;go_loud (with_reducible refine wp_append El_int rfl (s:=.tmp 40) (x:=.tmp 61) rfl rfl oA rfl hrn (ints_one _) (by unfold maxLen;omega) (by omega) (by simp;omega) ?_;intro A5 c5 w5 o5 hg5 hat5;clear hrn))
    have HB5:=below_row HBA hg5 hbl hws
    have hz5:=hg5.size
    simp only [World.size_alloc] at hz5
    go_roundw
    case rel=>exact ⟨k + 1,N + 9,A5,c5,by go_num,rfl,by omega,Lib.hid (by have:=HN.out;omega),by have:=HN.out;omega,by rw [HS.out,HNE.out,← List.append_assoc];rw [ints_app] at o5;exact o5,HB5,by omega⟩
    case measure=>simp [intOf];omega
   | false =>
    have hs1:sv = 0:=hsv.symm
    subst hs1
    clear hsv
    go_wp2_with (at_builtin;go_loud (with_reducible refine wp_append El_int rfl (s:=.tmp 40) (x:=.tmp 61) rfl rfl oA rfl hrn (ints_one _) (by unfold maxLen;omega) (by omega) (by simp;omega) ?_;intro A5 c5 w5 o5 hg5 hat5;clear hrn))
    have HB5:=below_row HBA hg5 hbl hws
    have hz5:=hg5.size
    simp only [World.size_alloc] at hz5
    go_roundw
    case rel=>exact ⟨k + 1,N + 9,A5,c5,by go_num,rfl,by omega,Lib.hid (by have:=HN.out;omega),by have:=HN.out;omega,by rw [HS.out,HNE.out,← List.append_assoc];rw [ints_app] at o5;exact o5,HB5,by omega⟩
    case measure=>simp [intOf];omega
  ·have hkI:¬ (k:Int) < (n:Int):=by omega
   have HT:Hid ([g,nx,now,fl,(n:Int)] ++ (es.take k).flatMap numE = L):=Lib.hid (by rw [List.take_of_length_le (by have:=HL.out;(try dsimp only at this);omega)];exact HNM.out.symm)
   rw [HT.out] at own
   have hLN:L.length = N:=rd_len own.rd
   have hN0:0 < N:=by have:=HN.out;omega
   have HLN:=Lib.hid hLN
   clear HT HN hLN HNM
   have hBl:=Bld.Bl.fresh wr
   have HB5:=HB4.alloc HB4.size (.cells #[.pointer none,.slice none 0 0] 112)
   have own2:=own.alloc (.cells #[.pointer none,.slice none 0 0] 112)
   obtain ⟨bb,hbb⟩:∃ bb,wr.heap.size = bb:=⟨_,rfl⟩
   have zb:w.heap.size≤bb:=by have:=HB4.size;omega
   have R2:Rd (wr.alloc (.cells #[.pointer none,.slice none 0 0] 112)) bb 1 X N (ints L):=by
    rw [← hbb]
    exact own.rd.below ((Below.refl _ wr).alloc (Nat.le_refl _) _)
   rw [hbb] at hBl
   go_upto_region 15 with fail
   try rw [hbb]
   generalize wr.alloc (.cells #[.pointer none,.slice none 0 0] 112) = w7 at *
   clear hbb own own2 hkI
   have hz7:bb≤w7.heap.size:=Nat.le_of_lt hBl.lt
   go_loopw [66] (fun i wq=>∃ k:Nat,i = .int .i64 k∧k≤N∧(lput (L.take k)).length≤9 * k∧Bld.Bl bb bb (lput (L.take k)) wq∧Below bb w7 wq) (fun i _=>N - (intOf i).toNat)
   case atStart=>exact ⟨0,rfl,by omega,by simp [lput],hBl,Below.refl _ _⟩
   case round =>
    clear hBl
    obtain ⟨k,rfl,hk,hlk,hB,hbw⟩:=hrel
    have hsz:=hbw.size
    have hbl:=hB.lt
    by_cases hlt:k < N
    ·have hkl:k < L.length:=by rw [HLN.out];exact hlt
     obtain ⟨b,o,rfl,hb,hcc⟩:=(R2.below hbw).at_ (by omega)
     obtain ⟨v,hv⟩:∃ v:Nat,L[k] = (v:Int):=⟨L[k].toNat,by have:=HIN.out L[k] (List.getElem_mem hkl);omega⟩
     have hvb:v≤9223372036854775807:=by have:=HIN.out L[k] (List.getElem_mem hkl);omega
     have cx:wr.cell? ⟨b,o + k,none⟩ = some (.int .i64 (v:Nat)):=by
      rw [hcc k (by rw [ints_len];exact hkl)]
      simp [ints,hv]
     have HS:=Lib.hid (lput_snoc L k hkl)
     rw [hv,Int.toNat_natCast] at HS
     have hkI:(k:Int) < (N:Int):=by omega
     have hk0:(0:Int)≤(k:Int):=by omega
     have hk1:IntKind.i64.wrap ((k:Int) + 1) = (k:Int) + 1:=w64s (by omega) (by omega)
     have hvl:(vbytes v).length≤9:=by rw [vbytes_len];exact vlen_le v
     have C:=VarW.put_yes v wr hvb
     generalize lput (L.take k) = fll at *
     clear hcc hv hvb
     go_wp2_with fail
     refine C.mono ?_
     clear C
     rintro e w8 ⟨rfl,hb8⟩
     replace hB:=hB.below hb8
     replace hbw:=hbw.trans (hb8.mono (Nat.le_trans hz7 hsz))
     have hbl2:=hB.lt
     clear hb8 cx
     go_wp2_with fail
     refine (Bld.write_any bb bb fll (vbytes v) w8 hB (by omega) (Nat.le_of_lt hB.lt)).mono ?_
     rintro e w9 ⟨rfl,hB9,hb9⟩
     go_wp2_with fail
     go_roundw
     case rel=>exact ⟨k + 1,by go_num,by omega,by rw [HS.out,List.length_append];omega,by rw [HS.out];exact hB9,hbw.trans hb9⟩
     case measure=>simp [intOf];omega
    ·have hkI:¬ (k:Int) < (N:Int):=by omega
     have hz:=Lib.hid (show L.take k = L from List.take_of_length_le (by rw [HLN.out];omega))
     rw [hz.out] at hB
     have C:=Bld.text_any bb bb _ wr hB (lput_ne (by rw [HLN.out];exact hN0))
     obtain ⟨ft,hft⟩:∃ ft,lput L = ft:=⟨_,rfl⟩
     rw [hft] at C
     have HF:=Lib.hid hft
     clear hft hz hB
     go_wp2_with fail
     refine C.mono ?_
     clear C
     rintro e w10 ⟨rfl,hb10⟩
     go_wp2_with fail
     go_ret2
     exact ⟨by rw [HLL.out,HF.out];rfl,HB5.trans ((hbw.trans hb10).mono zb)⟩
end ManW
end Go.Proofs.YtnpncpoiiikafaaGreat
namespace Go.Proofs.YtnpncpoiiikafaaGreat
open Go.RowKit
namespace ManW
open TakW (tk flt at_any)
open ClW (numV)
open HedW (num_b at3)
open SkpW (En ec blk9)
theorem left_grow {w w1 w2:World} {g:Nat} {s:List UInt8} {p:Int} {row:Option Nat} (h:TakW.Left w w1 g s p) (hg:w1.grownBy w2 row) (hr:∀ k,row = some k → w.heap.size≤k) (hgl:g < w.heap.size):TakW.Left w w2 g s p :=
 ⟨h.1.grown hg (fun e=>by have:=hr _ e.symm;omega),hg.os.trans h.2.os,hg.tape.trans h.2.tape,hg.output.trans h.2.output,Nat.le_trans h.2.size hg.size,fun k hk hne =>
  (hg.block k (Nat.lt_of_lt_of_le hk h.2.size) (fun e=>by have:=hr k e.symm;omega)).trans (h.2.block k hk hne)⟩
theorem left_new {w w1:World} {g:Nat} {s:List UInt8} {p:Int} (h:TakW.Left w w1 g s p) (o:Obj) (hgl:g < w.heap.size):TakW.Left w (w1.alloc o) g s p:=left_grow (row:=none) h (TakW.grown_new w1 o) (by simp) hgl
theorem left_far {w w1:World} {g:Nat} {s:List UInt8} {p:Int} (h:TakW.Left w w1 g s p) {b:Nat} (hb:w.heap.size≤b) (i:Nat) (v:Value) (hgl:g < w.heap.size):TakW.Left w (w1.setCell ⟨b,i,none⟩ v) g s p :=
 left_grow h (TakW.grown_set w1 b i v) (fun k e=>by have:=Option.some.inj e;omega) hgl
theorem left_self {w:World} {g:Nat} {s:List UInt8} {p:Int} (h:Blk w g 145 (tk s p)):TakW.Left w w g s p:=⟨h,rfl,rfl,rfl,Nat.le_refl _,fun _ _ _=>rfl⟩
theorem left_trans {w w1 w2:World} {g:Nat} {s:List UInt8} {p q:Int} (h1:TakW.Left w w1 g s p) (h2:TakW.Left w1 w2 g s q):TakW.Left w w2 g s q :=
 ⟨h2.1,h2.2.os.trans h1.2.os,h2.2.tape.trans h1.2.tape,h2.2.output.trans h1.2.output,Nat.le_trans h1.2.size h2.2.size,fun k hk hne=>(h2.2.block k (Nat.lt_of_lt_of_le hk h1.2.size) hne).trans (h1.2.block k hk hne)⟩
def FlEnd (s:List UInt8) (p:Nat) (w:World) (g:Nat) (e:Ending) (w':World):Prop :=
 (∃ (v:Int) (q:Nat),e = .returned (.bool (v == 1))∧getV s (p:Nat) = (v,((q:Nat):Int),0)∧¬ 1 < v∧TakW.Left w w' g s (q:Nat)) ∨
 (∃ er at_ q',e = .panicked (flt er at_)∧((∃ v q,getV s (p:Nat) = (v,q,er)∧er ≠ 0) ∨ (∃ v q,getV s (p:Nat) = (v,q,0)∧1 < v∧er = 250))∧TakW.Left w w' g s q')
theorem flag_any (g:Nat) (s:List UInt8) (p:Nat) (w:World) (h:Blk w g 145 (tk s (p:Nat))) (hs:s.length≤1000000) :
 Calls Tryz.prog 112 #[.agg #[.pointer (some ⟨g,0,none⟩)]] w fun e w'=>FlEnd s p w g e w':=by
 have hg:=h.lt
 have B:=Blk.new w 105 #[.pointer (some ⟨g,0,none⟩)]
 have L0:=left_new (left_self h) (.cells #[.pointer (some ⟨g,0,none⟩)] 105) hg
 have cB:=B.cell_ 0 rfl
 have CA:=at_any g s (p:Nat) _ L0.1
 have CN:=num_b g s p _ L0.1 hs
 have HL0:=Lib.hid L0
 clear L0 B
 go_enter Tryz.func112,Tryz.ntmps112
 go_wp2_with fail
 refine CA.mono ?_
 clear CA
 rintro e w1 ⟨rfl,rfl⟩
 go_wp2_with fail
 refine CN.mono ?_
 clear CN cB
 rintro e w2 (⟨v,q,rfl,h1,hL⟩ | ⟨v,q,er,rfl,hx,her,hL⟩)
 ·have L1:=left_trans HL0.out hL
  have HG:=Lib.hid h1
  clear h1 hL
  by_cases hv:1 < v
  ·have HV:=Lib.hid hv
   go_wp2_with fail
   simp [bodyPost]
   exact .inr ⟨250,p,_,rfl,.inr ⟨v,_,HG.out,HV.out,rfl⟩,L1⟩
  ·have HV:=Lib.hid hv
   go_wp2_with fail
   go_ret
   exact .inl ⟨v,q,rfl,HG.out,by have:=HV.out;omega,L1⟩
 ·have L1:=left_trans HL0.out hL
  have HX:=Lib.hid hx
  clear hL hx
  go_wp2_with fail
  simp [bodyPost]
  exact .inr ⟨er,_,_,rfl,.inl ⟨v,q,HX.out,her⟩,L1⟩
theorem set9 {w:World} {g:Nat} {t:TypeId} {c0 c1 c2 c3 c4 c5 c6 c7 c8:Value} (h:Blk w g t #[c0,c1,c2,c3,c4,c5,c6,c7,c8]) (a0 a1 a2 a3 a4 a5 a6 a7 a8:Value) :
 Blk (((((((((w.setCell ⟨g,0,none⟩ a0).setCell ⟨g,1,none⟩ a1).setCell ⟨g,2,none⟩ a2).setCell ⟨g,3,none⟩ a3).setCell ⟨g,4,none⟩ a4).setCell ⟨g,5,none⟩ a5).setCell ⟨g,6,none⟩ a6).setCell ⟨g,7,none⟩ a7).setCell ⟨g,8,none⟩ a8) g t #[a0,a1,a2,a3,a4,a5,a6,a7,a8] :=
 blk_eq (((((((((h.set 0 a0).set 1 a1).set 2 a2).set 3 a3).set 4 a4).set 5 a5).set 6 a6).set 7 a7).set 8 a8) (by simp)
def EnEnd (s:List UInt8) (p:Nat) (w:World) (g:Nat) (e:Ending) (w':World):Prop :=
 (∃ (l:List Int) (q:Nat),e = .returned (.agg (ec (enOf l)))∧entV s (p:Nat) = (l,((q:Nat):Int),0)∧TakW.Left w w' g s (q:Nat)) ∨
 (∃ l z er at_ q',e = .panicked (flt er at_)∧entV s (p:Nat) = (l,z,er)∧er ≠ 0∧TakW.Left w w' g s q')
theorem entV_a {s:List UInt8} {p er z:Int} {l:List Int} (h:numsV s 3 p = (l,z,er)) (he:er ≠ 0):entV s p = ([],p,er):=by unfold entV;rw [h];exact if_neg he
theorem entV_b {s:List UInt8} {p er z r v:Int} {l:List Int} (h:numsV s 3 p = (l,z,0)) (h2:getV s z = (v,r,er)) (he:er ≠ 0):entV s p = ([],p,er):=by
 unfold entV;rw [h];dsimp only;rw [if_pos rfl,h2];exact if_neg he
theorem entV_c {s:List UInt8} {p z r v:Int} {l:List Int} (h:numsV s 3 p = (l,z,0)) (h2:getV s z = (v,r,0)) (hv:1 < v):entV s p = ([],p,250):=by
 unfold entV;rw [h];dsimp only;rw [if_pos rfl,h2];dsimp only;rw [if_pos rfl,if_pos hv]
theorem entV_d {s:List UInt8} {p z r v er y:Int} {l l2:List Int} (h:numsV s 3 p = (l,z,0)) (h2:getV s z = (v,r,0)) (hv:¬ 1 < v) (h3:numsV s 5 r = (l2,y,er)) (he:er ≠ 0):entV s p = ([],p,er):=by
 unfold entV;rw [h];dsimp only;rw [if_pos rfl,h2];dsimp only;rw [if_pos rfl,if_neg hv,h3];exact if_neg he
theorem entV_e {s:List UInt8} {p z r v y:Int} {l l2:List Int} (h:numsV s 3 p = (l,z,0)) (h2:getV s z = (v,r,0)) (hv:¬ 1 < v) (h3:numsV s 5 r = (l2,y,0)):entV s p = (l ++ (v :: l2),y,0):=by
 unfold entV;rw [h];dsimp only;rw [if_pos rfl,h2];dsimp only;rw [if_pos rfl,if_neg hv,h3];rfl
theorem entry_any (g:Nat) (s:List UInt8) (p:Nat) (w:World) (h:Blk w g 145 (tk s (p:Nat))) (hs:s.length≤1000000) :
 Calls Tryz.prog 55 #[.agg #[.pointer (some ⟨g,0,none⟩)]] w fun e w'=>EnEnd s p w g e w':=by
 have hg:=h.lt
 have hmf:∀ (fn:Fn) (first cap:Array Value) (w:World),(Instr.makeFunc fn first cap).run Tryz.prog w = .ok (.func fn first cap) w:=fun _ _ _ _=>rfl
 have hcn:∀ args w,(callFunc 35 args).run Tryz.prog w = .ok (.enter 35 args) w:=fun args w=>run_enter Tryz.func35 (by kernel_rfl) rfl args w
 obtain ⟨W0,hW0⟩:∃ W0,(w.alloc (.cells #[.pointer (some ⟨g,0,none⟩)] 105)).alloc (.cells (ec enZ) 107) = W0:=⟨_,rfl⟩
 have hW0':(w.alloc (.cells #[.pointer (some ⟨g,0,none⟩)] 105)).alloc (.cells #[.int .i64 0,.int .i64 0,.int .i64 0,.bool false,.int .i64 0,.int .i64 0,.int .i64 0,.int .i64 0,.int .i64 0] 107) = W0:=hW0
 have L:TakW.Left w W0 g s (p:Nat):=hW0 ▸ left_new (left_new (left_self h) _ hg) _ hg
 have BT:Blk W0 w.heap.size 105 #[.pointer (some ⟨g,0,none⟩)]:=hW0 ▸ (Blk.new _ _ _).alloc _
 have BR:Blk W0 (w.heap.size + 1) 107 (ec enZ):=hW0 ▸ (by simpa using Blk.new (World.alloc w _) _ _)
 have HW:=Lib.hid hW0'
 clear hW0 hW0' h
 go_enter Tryz.func55,Tryz.ntmps55
 go_upto_region 1 with fail
 rw [HW.out]
 have cT:=BT.cell_ 0 rfl
 go_wp2_with fail
 refine (num_b g s p _ L.1 hs).mono ?_
 rintro e wa1 (⟨v1,q1,rfl,h1,hL⟩ | ⟨v,q,er,rfl,hx,her,hL⟩)
 rotate_left
 ·have L1:=left_trans L hL
  have HX:=Lib.hid (entV_a (by rw [numsV_no hx her]) her)
  clear hL hx
  go_wp2_with fail
  simp [bodyPost]
  exact .inr ⟨_,_,er,_,_,rfl,HX.out,her,L1⟩
 replace L:=left_trans L hL
 replace BT:=BT.grown hL.2 (by simp;omega)
 replace BR:=BR.grown hL.2 (by simp;omega)
 clear hL
 go_wp2_with fail
 refine (num_b g s q1 _ L.1 hs).mono ?_
 rintro e wa2 (⟨v2,q2,rfl,h2,hL⟩ | ⟨v,q,er,rfl,hx,her,hL⟩)
 rotate_left
 ·have L1:=left_trans L hL
  have HX:=Lib.hid (entV_a (by rw [numsV_yes h1,numsV_no hx her]) her)
  clear hL hx
  go_wp2_with fail
  simp [bodyPost]
  exact .inr ⟨_,_,er,_,_,rfl,HX.out,her,L1⟩
 replace L:=left_trans L hL
 replace BT:=BT.grown hL.2 (by simp;omega)
 replace BR:=BR.grown hL.2 (by simp;omega)
 clear hL
 go_wp2_with fail
 refine (num_b g s q2 _ L.1 hs).mono ?_
 rintro e wa3 (⟨v3,q3,rfl,h3,hL⟩ | ⟨v,q,er,rfl,hx,her,hL⟩)
 rotate_left
 ·have L1:=left_trans L hL
  have HX:=Lib.hid (entV_a (by rw [numsV_yes h1,numsV_yes h2,numsV_no hx her]) her)
  clear hL hx
  go_wp2_with fail
  simp [bodyPost]
  exact .inr ⟨_,_,er,_,_,rfl,HX.out,her,L1⟩
 replace L:=left_trans L hL
 replace BT:=BT.grown hL.2 (by simp;omega)
 replace BR:=BR.grown hL.2 (by simp;omega)
 clear hL
 have HN3:Hid (numsV s 3 (p:Nat) = ([v1,v2,v3],((q3:Nat):Int),0)):=Lib.hid (by rw [numsV_yes h1,numsV_yes h2,numsV_yes h3];rfl)
 have hzc:=L.2.size
 obtain ⟨V,hV⟩:∃ V,wa3.heap.size = V:=⟨_,rfl⟩
 obtain ⟨wd,hwd⟩:∃ wd,wa3.alloc (.cells #[.int .i64 v1,.int .i64 v2,.int .i64 v3,.bool false,.int .i64 0,.int .i64 0,.int .i64 0,.int .i64 0,.int .i64 0] 107) = wd:=⟨_,rfl⟩
 have BV:Blk wd V 107 #[.int .i64 v1,.int .i64 v2,.int .i64 v3,.bool false,.int .i64 0,.int .i64 0,.int .i64 0,.int .i64 0,.int .i64 0]:=by rw [← hwd,← hV];exact Blk.new _ _ _
 have hVw:w.heap.size + 2≤V:=by have:=BR.lt;omega
 replace L:=hwd ▸ left_new L (.cells #[.int .i64 v1,.int .i64 v2,.int .i64 v3,.bool false,.int .i64 0,.int .i64 0,.int .i64 0,.int .i64 0,.int .i64 0] 107) hg
 replace BT:=hwd ▸ BT.alloc (.cells #[.int .i64 v1,.int .i64 v2,.int .i64 v3,.bool false,.int .i64 0,.int .i64 0,.int .i64 0,.int .i64 0,.int .i64 0] 107)
 replace BR:=hwd ▸ BR.alloc (.cells #[.int .i64 v1,.int .i64 v2,.int .i64 v3,.bool false,.int .i64 0,.int .i64 0,.int .i64 0,.int .i64 0,.int .i64 0] 107)
 have HV0:=Lib.hid hV
 have HWD:=Lib.hid hwd
 clear hV hwd cT h1 h2 h3
 go_upto_region 3 with fail
 rw [HV0.out,HWD.out]
 clear HV0 HWD
 have cT:=BT.cell_ 0 rfl
 go_wp2_with fail
 refine (flag_any g s q3 wd L.1 hs).mono ?_
 rintro e we (⟨v4,q4,rfl,h4,hv4,hL⟩ | ⟨er,at_,q',rfl,hx,hL⟩)
 rotate_left
 ·have L1:=left_trans L hL
  have HX:Hid (∃ l z,entV s (p:Nat) = (l,z,er)∧er ≠ 0):=Lib.hid (by
   rcases hx with ⟨v,q,h1,h2⟩ | ⟨v,q,h1,h2,rfl⟩
   ·exact ⟨_,_,entV_b HN3.out h1 h2,h2⟩
   ·exact ⟨_,_,entV_c HN3.out h1 h2,by decide⟩)
  clear hL hx
  go_wp2_with fail
  simp [bodyPost]
  obtain ⟨l,z,k1,k2⟩:=HX.out
  exact .inr ⟨l,z,er,_,_,rfl,k1,k2,L1⟩
 replace L:=left_trans L hL
 replace BT:=BT.grown hL.2 (by simp;omega)
 replace BR:=BR.grown hL.2 (by simp;omega)
 replace BV:=BV.grown hL.2 (by simp;omega)
 have HG4:=Lib.hid h4
 have HV4:=Lib.hid hv4
 clear hL h4 hv4 cT
 have cV:=BV.cell_ 3 rfl
 have fV:=BV.frozen 3
 have lV:=BV.lt
 go_upto_region 4 with fail
 obtain ⟨sb,hsb⟩:∃ sb,(v4 == 1) = sb:=⟨_,rfl⟩
 rw [hsb]
 have HSB:=Lib.hid hsb
 replace L:=left_far L (b:=V) (by omega) 3 (.bool sb) hg
 replace BT:=BT.far (p:=⟨V,3,none⟩) (by dsimp only;omega) (.bool sb)
 replace BR:=BR.far (p:=⟨V,3,none⟩) (by dsimp only;omega) (.bool sb)
 have BV3:=BV.set 3 (.bool sb)
 clear cV fV lV BV hsb
 generalize we.setCell ⟨V,3,none⟩ (.bool sb) = wf at *
 have BV:Blk wf V 107 #[.int .i64 v1,.int .i64 v2,.int .i64 v3,.bool sb,.int .i64 0,.int .i64 0,.int .i64 0,.int .i64 0,.int .i64 0]:=BV3
 clear BV3
 go_wp2_with fail
 refine (num_b g s q4 _ L.1 hs).mono ?_
 rintro e wa5 (⟨v5,q5,rfl,h5,hL⟩ | ⟨v,q,er,rfl,hx,her,hL⟩)
 rotate_left
 ·have L1:=left_trans L hL
  have HX:=Lib.hid (entV_d HN3.out HG4.out (by have:=HV4.out;omega) (by rw [numsV_no hx her]) her)
  clear hL hx
  go_wp2_with fail
  simp [bodyPost]
  exact .inr ⟨_,_,er,_,_,rfl,HX.out,her,L1⟩
 replace L:=left_trans L hL
 replace BT:=BT.grown hL.2 (by simp;omega)
 replace BR:=BR.grown hL.2 (by simp;omega)
 replace BV:=BV.grown hL.2 (by simp;omega)
 clear hL
 go_wp2_with fail
 refine (num_b g s q5 _ L.1 hs).mono ?_
 rintro e wa6 (⟨v6,q6,rfl,h6,hL⟩ | ⟨v,q,er,rfl,hx,her,hL⟩)
 rotate_left
 ·have L1:=left_trans L hL
  have HX:=Lib.hid (entV_d HN3.out HG4.out (by have:=HV4.out;omega) (by rw [numsV_yes h5,numsV_no hx her]) her)
  clear hL hx
  go_wp2_with fail
  simp [bodyPost]
  exact .inr ⟨_,_,er,_,_,rfl,HX.out,her,L1⟩
 replace L:=left_trans L hL
 replace BT:=BT.grown hL.2 (by simp;omega)
 replace BR:=BR.grown hL.2 (by simp;omega)
 replace BV:=BV.grown hL.2 (by simp;omega)
 clear hL
 go_wp2_with fail
 refine (num_b g s q6 _ L.1 hs).mono ?_
 rintro e wa7 (⟨v7,q7,rfl,h7,hL⟩ | ⟨v,q,er,rfl,hx,her,hL⟩)
 rotate_left
 ·have L1:=left_trans L hL
  have HX:=Lib.hid (entV_d HN3.out HG4.out (by have:=HV4.out;omega) (by rw [numsV_yes h5,numsV_yes h6,numsV_no hx her]) her)
  clear hL hx
  go_wp2_with fail
  simp [bodyPost]
  exact .inr ⟨_,_,er,_,_,rfl,HX.out,her,L1⟩
 replace L:=left_trans L hL
 replace BT:=BT.grown hL.2 (by simp;omega)
 replace BR:=BR.grown hL.2 (by simp;omega)
 replace BV:=BV.grown hL.2 (by simp;omega)
 clear hL
 go_wp2_with fail
 refine (num_b g s q7 _ L.1 hs).mono ?_
 rintro e wa8 (⟨v8,q8,rfl,h8,hL⟩ | ⟨v,q,er,rfl,hx,her,hL⟩)
 rotate_left
 ·have L1:=left_trans L hL
  have HX:=Lib.hid (entV_d HN3.out HG4.out (by have:=HV4.out;omega) (by rw [numsV_yes h5,numsV_yes h6,numsV_yes h7,numsV_no hx her]) her)
  clear hL hx
  go_wp2_with fail
  simp [bodyPost]
  exact .inr ⟨_,_,er,_,_,rfl,HX.out,her,L1⟩
 replace L:=left_trans L hL
 replace BT:=BT.grown hL.2 (by simp;omega)
 replace BR:=BR.grown hL.2 (by simp;omega)
 replace BV:=BV.grown hL.2 (by simp;omega)
 clear hL
 go_wp2_with fail
 refine (num_b g s q8 _ L.1 hs).mono ?_
 rintro e wa9 (⟨v9,q9,rfl,h9,hL⟩ | ⟨v,q,er,rfl,hx,her,hL⟩)
 rotate_left
 ·have L1:=left_trans L hL
  have HX:=Lib.hid (entV_d HN3.out HG4.out (by have:=HV4.out;omega) (by rw [numsV_yes h5,numsV_yes h6,numsV_yes h7,numsV_yes h8,numsV_no hx her]) her)
  clear hL hx
  go_wp2_with fail
  simp [bodyPost]
  exact .inr ⟨_,_,er,_,_,rfl,HX.out,her,L1⟩
 replace L:=left_trans L hL
 replace BT:=BT.grown hL.2 (by simp;omega)
 replace BR:=BR.grown hL.2 (by simp;omega)
 replace BV:=BV.grown hL.2 (by simp;omega)
 clear hL
 have HN5:Hid (entV s (p:Nat) = ([v1,v2,v3] ++ (v4 :: [v5,v6,v7,v8,v9]),((q9:Nat):Int),0)):=Lib.hid (entV_e HN3.out HG4.out (by have:=HV4.out;omega) (by rw [numsV_yes h5,numsV_yes h6,numsV_yes h7,numsV_yes h8,numsV_yes h9];rfl))
 clear h5 h6 h7 h8 h9 HN3 HG4 HV4
 have cV4:=BV.cell_ 4 rfl
 have cV5:=BV.cell_ 5 rfl
 have cV6:=BV.cell_ 6 rfl
 have cV7:=BV.cell_ 7 rfl
 have cV8:=BV.cell_ 8 rfl
 have fV:=fun i=>BV.frozen i
 have lV:=BV.lt
 go_upto_region 5 with fail
 have L9:=(left_far (left_far (left_far (left_far (left_far L (b:=V) (by omega) 4 (.int .i64 v5) hg) (b:=V) (by omega) 5 (.int .i64 v6) hg) (b:=V) (by omega) 6 (.int .i64 v7) hg) (b:=V) (by omega) 7 (.int .i64 v8) hg) (b:=V) (by omega) 8 (.int .i64 v9) hg)
 have BR9:=(Blk.far (Blk.far (Blk.far (Blk.far (Blk.far BR (p:=⟨V,4,none⟩) (by dsimp only;omega) (.int .i64 v5)) (p:=⟨V,5,none⟩) (by dsimp only;omega) (.int .i64 v6)) (p:=⟨V,6,none⟩) (by dsimp only;omega) (.int .i64 v7)) (p:=⟨V,7,none⟩) (by dsimp only;omega) (.int .i64 v8)) (p:=⟨V,8,none⟩) (by dsimp only;omega) (.int .i64 v9))
 have BV9:=(Blk.set (Blk.set (Blk.set (Blk.set (Blk.set BV 4 (.int .i64 v5)) 5 (.int .i64 v6)) 6 (.int .i64 v7)) 7 (.int .i64 v8)) 8 (.int .i64 v9))
 clear cV4 cV5 cV6 cV7 cV8 fV lV L BR BV BT
 generalize (((((wa9.setCell ⟨V,4,none⟩ (.int .i64 v5)).setCell ⟨V,5,none⟩ (.int .i64 v6)).setCell ⟨V,6,none⟩ (.int .i64 v7)).setCell ⟨V,7,none⟩ (.int .i64 v8)).setCell ⟨V,8,none⟩ (.int .i64 v9)) = wz at *
 have BV:Blk wz V 107 #[.int .i64 v1,.int .i64 v2,.int .i64 v3,.bool sb,.int .i64 v5,.int .i64 v6,.int .i64 v7,.int .i64 v8,.int .i64 v9]:=BV9
 obtain ⟨⟨c0,c1,c2,c3,c4,c5,c6,c7,c8⟩,_⟩:=blk9 BV
 obtain ⟨⟨d0,d1,d2,d3,d4,d5,d6,d7,d8⟩,_⟩:=blk9 BR9
 have fR:=fun i=>BR9.frozen i
 have lR:=BR9.lt
 go_wp2_with fail
 refine bodyPost_ret (SkpW.results_row1 rfl _ _ (w.heap.size + 1) 107 (ec ⟨v1,v2,v3,sb,v5,v6,v7,v8,v9⟩) (0,0) _ rfl (set9 BR9 _ _ _ _ _ _ _ _ _) Tryz.underlying107 rfl (by kernel_rfl)) rfl ?_
 refine .inl ⟨_,q9,?_,HN5.out,?_⟩
 ·rw [← HSB.out]
  exact congrArg Ending.returned (congrArg Value.agg (by simp [ec,enOf,at3];rfl))
 ·exact (left_far (left_far (left_far (left_far (left_far (left_far (left_far (left_far (left_far L9 (b:=w.heap.size + 1) (by omega) 0 _ hg) (b:=w.heap.size + 1) (by omega) 1 _ hg) (b:=w.heap.size + 1) (by omega) 2 _ hg) (b:=w.heap.size + 1) (by omega) 3 _ hg) (b:=w.heap.size + 1) (by omega) 4 _ hg) (b:=w.heap.size + 1) (by omega) 5 _ hg) (b:=w.heap.size + 1) (by omega) 6 _ hg) (b:=w.heap.size + 1) (by omega) 7 _ hg) (b:=w.heap.size + 1) (by omega) 8 _ hg)
end ManW
end Go.Proofs.YtnpncpoiiikafaaGreat
