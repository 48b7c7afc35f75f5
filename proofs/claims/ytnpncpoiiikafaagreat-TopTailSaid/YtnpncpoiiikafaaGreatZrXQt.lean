/- ZrX -/
import Derived.Test.YtnpncpoiiikafaaGreatBwVQt
import Derived.Test.YtnpncpoiiikafaaGreatZrWQt
import Derived.Test.YtnpncpoiiikafaaGreatVarFQt
import Derived.Test.YtnpncpoiiikafaaGreatZruPQt
set_option linter.unusedVariables false
set_option linter.unusedSimpArgs false
set_option linter.unnecessarySimpa false
set_option maxRecDepth 100000
set_option maxHeartbeats 32000000
namespace Go.Proofs.YtnpncpoiiikafaaGreat
open Go.RowKit
namespace ZruW
open SufW (nt nt_len nt_at w64s)
open FrontW (wp_make El_int)
open SqW (natL intL zunV nt_natL)
open HufW (badS)
theorem bad_sym (x:Int):(decide (0≤x) && decide (x < 257)) = !badS x:=by
 unfold badS
 by_cases h1:0≤x <;> by_cases h2:x < 257 <;> simp [h1,h2] <;> omega
theorem any_take (l:List Int) (j:Nat) (h:j < l.length):(l.take (j + 1)).any badS = ((l.take j).any badS || badS l[j]):=by
 rw [List.take_succ_eq_append_getElem h,List.any_append]
 simp
theorem unpack_any (A:Option Addr) (n c:Nat) (l:List Int) (limit:Int) (w:World) (h:Rd w w.heap.size 1 A n (ints l)) (hn:n≤100000) (hc:n≤c) (hc2:c≤9223372036854775807) (x:List Int × Int) (hx:zunV l limit = x) :
 Calls Tryz.prog 93 #[.slice A n c,.int .i64 limit] w fun e w'=>∃ X k c',e = .returned (.tuple #[.slice X k c',.int .i64 x.2])∧k≤c'∧Rd w' w'.heap.size 1 X k (ints x.1)∧Below w.heap.size w w':=by
 have hl:l.length = n:=rd_len h
 have HL:=Lib.hid hl
 have HX:=Lib.hid hx
 clear hl hx
 obtain ⟨ie,_,hie,_,hsz,_⟩:=BitW.El_i64.inf
 go_enter Tryz.func93,Tryz.ntmps93
 go_wp2_with fail
 go_loopw [14] (fun iv wr=>∃ j:Nat,iv = .int .i64 j∧j≤n∧(l.take j).any badS = false∧wr = w) (fun iv _=>n - (intOf iv).toNat)
 case atStart=>exact ⟨0,rfl,by omega,rfl,rfl⟩
 case round =>
  obtain ⟨j,rfl,hj,hall,rfl⟩:=hrel
  have HALL:=Lib.hid hall
  clear hall
  by_cases hlt:j < n
  ·have hjl:j < l.length:=by rw [HL.out];exact hlt
   obtain ⟨b,o,rfl,hb,hcc⟩:=rd_ints h (by omega)
   obtain ⟨y,hy⟩:∃ y,l[j] = y:=⟨_,rfl⟩
   have cy:wr.cell? ⟨b,o + j,none⟩ = some (.int .i64 y):=by rw [hcc j hjl,hy]
   have HT:=Lib.hid (any_take l j hjl)
   rw [hy] at HT
   have hym:=Lib.hid (show y ∈ l by rw [← hy];exact List.getElem_mem hjl)
   have C:=symbol_any y (!badS y) (bad_sym y) wr
   have hjI:(j:Int) < (n:Int):=by omega
   have hj0:(0:Int)≤(j:Int):=by omega
   have hj1:IntKind.i64.wrap ((j:Int) + 1) = (j:Int) + 1:=w64s (by omega) (by omega)
   clear hcc hy hjl
   cases hbd:badS y with
   | true =>
    rw [hbd] at C
    have hx:x = ([],70):=by
     rw [← HX.out,zunV,if_pos (List.any_eq_true.2 ⟨y,hym.out,hbd⟩)]
    subst hx
    go_wp2_with fail
    refine C.mono ?_
    rintro e w2 ⟨rfl,rfl⟩
    go_wp2_with fail
    go_ret2
    exact ⟨none,0,0,rfl,Nat.le_refl _,Rd.nil _ _ _ _,Below.refl _ _⟩
   | false =>
    rw [hbd] at C
    go_wp2_with fail
    refine C.mono ?_
    rintro e w2 ⟨rfl,rfl⟩
    go_wp2_with fail
    go_roundw
    case rel=>exact ⟨j + 1,by go_num,by omega,by rw [HT.out,HALL.out,hbd];rfl,by trivial⟩
    case measure=>simp [intOf];omega
  ·have hjI:¬ (j:Int) < (n:Int):=by omega
   have hany:l.any badS = false:=by
    have:=HALL.out
    rwa [List.take_of_length_le (by rw [HL.out];omega)] at this
   have hin:∀ z ∈ l,0≤z∧z≤256:=by
    intro z hz
    have:=List.any_eq_false.1 hany z hz
    simp [badS] at this
    omega
   obtain ⟨r,hr⟩:∃ r,natL l = r:=⟨_,rfl⟩
   have hnr:nt r = ints l:=by rw [← hr];exact nt_natL l (fun z hz=>(hin z hz).1)
   have hr256:∀ z ∈ r,z≤256:=by
    intro z hz
    rw [← hr] at hz
    simp only [natL,List.mem_map] at hz
    obtain ⟨u,hu,rfl⟩:=hz
    have:=hin u hu
    omega
   rw [← hnr] at h
   have C:=count_any A n c r wr h (by omega) hc hc2 hr256
   have hxz:x = if min limit 100000 < (cntZ r:Nat) then ([],3) else (intL (unzA r []),0):=by
    rw [← HX.out,zunV,if_neg (by rw [hany];decide),hr]
    unfold cntZ
    congr 1
    simp only [eq_iff_iff]
    omega
   have HXZ:=Lib.hid hxz
   obtain ⟨N,hN⟩:∃ N,cntZ r = N:=⟨_,rfl⟩
   rw [hN] at C HXZ
   have HN:=Lib.hid hN
   have hNb:N≤100001:=by rw [← hN];unfold cntZ;omega
   clear hany hr hnr hin hxz hN
   go_wp2_with fail
   refine C.mono ?_
   clear C
   rintro e w2 ⟨rfl,nq,rfl⟩
   have h2:=h.below ((Below.refl wr.heap.size wr).drewN_ nq)
   have HB2:=(Below.refl wr.heap.size wr).drewN_ nq
   have hz2:(wr.drewN nq).heap.size = wr.heap.size:=rfl
   by_cases hbig:min limit 100000 < (N:Int)
   ·have hx:x = ([],3):=by rw [HXZ.out,if_pos hbig]
    subst hx
    go_wp2_with fail
    go_ret2
    exact ⟨none,0,0,rfl,Nat.le_refl _,Rd.nil _ _ _ _,HB2⟩
   ·have hx:x = (intL (unzA r []),0):=by rw [HXZ.out,if_neg hbig]
    subst hx
    have hUN:Hid ((unzA r []).length = N):=Lib.hid (by
     have h1:=HN.out
     unfold cntZ at h1
     omega)
    generalize wr.drewN nq = w3 at *
    have hNm:N≤100000:=by omega
    clear HXZ
    go_wp2_with (at_make;refine wp_make El_int rfl rfl w3.heap.size N rfl rfl (by simp) (by omega) (by unfold maxLen;omega) (Nat.le_refl _) ?_;intro w4 o4 hg4)
    obtain ⟨V0,hV0⟩:∃ V,V = wr:=⟨wr,rfl⟩
    subst hV0
    rw [hz2] at o4
    have HB4:=below_grow HB2 hg4
    have h4:=h2.grow0 hg4 (by omega)
    have hrl:(r.drop 0).length = n:=by have:=h2.len;rw [nt_len] at this;simpa using this
    have hRL:=Lib.hid hrl
    clear hg4 h2 h HB2 hz2 hrl
    go_loopw [0,9] (fun v0 v9 wr=>∃ (A2 X:Option Addr) (m c2 i k:Nat) (D:List Nat),v0 = .slice A2 m c2∧v9 = .slice X k N∧m≤c2∧c2≤9223372036854775807∧(r.drop i).length = m∧m≤n∧Rd wr V0.heap.size 1 A2 m (nt (r.drop i))∧Own wr V0.heap.size 3 1 X k N (nt D)∧D ++ unzA (r.drop i) [] = unzA r []∧D.length = k∧Below V0.heap.size V0 wr) (fun v0 _ _=>match v0 with | .slice _ m _=>m | _=>0)
    case atStart=>exact ⟨A,some ⟨V0.heap.size,0,none⟩,n,c,0,0,[],rfl,rfl,hc,hc2,hRL.out,by omega,by simpa using h4,o4,rfl,rfl,HB4⟩
    case round =>
     clear o4 h4 HB4
     obtain ⟨A2,X,m,c2,i,k,D,rfl,rfl,hmc,hc3,hm,hmn,r2,oX,hD,hDl,HB⟩:=hrel
     obtain ⟨s,hs⟩:∃ s,r.drop i = s:=⟨_,rfl⟩
     have HSM:=Lib.hid (fun x (hx:x ∈ s)=>hr256 x (List.mem_of_mem_drop (by rw [hs];exact hx)))
     rw [hs] at hm r2 hD
     have HI:=Lib.hid hs
     have hml:=Lib.hid hm
     have HD:=Lib.hid hD
     have HDL:=Lib.hid hDl
     have hzx:=HB.size
     clear hs hm hD hDl
     by_cases hm0:0 < m
     ·have hm0I:(0:Int) < (m:Int):=by omega
      have C:=run_any A2 m c2 V0.heap.size s wr r2 (by omega) hmc hc3
      go_wp2_with fail
      refine C.mono ?_
      clear C
      rintro e w5 ⟨A3,A4,rfl,r3,r4,nq1,rfl⟩
      have hkl:=kz_le s
      rw [hml.out] at hkl
      have C:=value_any A3 (kz s) (kz s) V0.heap.size (s.take (kz s)) (wr.drewN nq1) (r3.below ((Below.refl _ _).drewN_ nq1)) (by omega) (kz_small s)
      obtain ⟨v,hv⟩:∃ v,valZ (s.take (kz s)) = v:=⟨_,rfl⟩
      have hlenD:=congrArg List.length HD.out
      rw [List.length_append,HDL.out,hUN.out] at hlenD
      have hfit:k + v + (if kz s < s.length then 1 else 0)≤N:=by
       by_cases hks:kz s < s.length
       ·rw [if_pos hks]
        have:=cnt_more s hks
        rw [hv] at this
        omega
       ·rw [if_neg hks]
        have e:kz s = s.length:=by have:=hml.out;omega
        have:=congrArg List.length (unz_span s e)
        rw [List.length_replicate] at this
        rw [e,List.take_length] at hv
        omega
      rw [hml.out] at hfit
      have hvm:min v 100001 = v:=by split at hfit <;> omega
      rw [hv,hvm] at C
      have HMORE:=Lib.hid (unz_more s)
      have HSPAN:=Lib.hid (unz_span s)
      have HV:=Lib.hid hv
      obtain ⟨kk,hk⟩:∃ kk,kz s = kk:=⟨_,rfl⟩
      rw [hk] at hkl r3 r4 C HV hfit
      rw [hk]
      have HK:=Lib.hid hk
      obtain ⟨q,hq⟩:∃ q,m - kk = q:=⟨_,rfl⟩
      obtain ⟨cq,hcq⟩:∃ cq,c2 - kk = cq:=⟨_,rfl⟩
      rw [hq] at r4
      rw [hq,hcq]
      have hqc:q≤cq:=by omega
      have hcq3:cq≤9223372036854775807:=by omega
      have hmq:m = kk + q:=by omega
      have HMQ:=Lib.hid hmq
      have hfit2:k + v + (if 0 < q then 1 else 0)≤N:=by
       by_cases h0:0 < q
       ·rw [if_pos h0];rw [if_pos (by omega)] at hfit;exact hfit
       ·rw [if_neg h0];split at hfit <;> omega
      have HFIT:=Lib.hid hfit2
      have hkv:k + v≤N:=by split at hfit2 <;> omega
      clear hv hk hvm hlenD hfit hfit2 hq hcq hmq r3
      replace r4:=r4.below ((Below.refl _ _).drewN_ nq1)
      replace oX:Own (wr.drewN nq1) V0.heap.size 3 1 X k N (nt D):=oX
      replace HB:=HB.drewN_ nq1
      go_wp2_with fail
      refine C.mono ?_
      clear C
      rintro e w6 ⟨rfl,rfl⟩
      generalize wr.drewN nq1 = w5 at *
      have hz5:=HB.size
      by_cases hq0:0 < q
      ·have hks:kk < s.length:=by rw [hml.out];have:=HMQ.out;omega
       obtain ⟨x,hx⟩:∃ x,s[kk] = x:=⟨_,rfl⟩
       have hxb:x≤256:=HSM.out x (by rw [← hx];exact List.getElem_mem _)
       have hx1:1 < x:=by
        have:=kz_next s (by rw [HK.out];exact hks)
        simp only [HK.out] at this
        rw [hx] at this
        exact this
       obtain ⟨y,rfl⟩:∃ y,x = y + 1:=⟨x - 1,by omega⟩
       have HU:Hid (unzA s [] = List.replicate v 0 ++ y :: unzA (s.drop (kk + 1)) []):=Lib.hid (by
        have:=HMORE.out (by rw [HK.out];exact hks)
        simp only [HK.out] at this
        rw [HV.out,hx] at this
        exact this)
       obtain ⟨b,o,rfl,hb,hcc⟩:=r4.at_ hq0
       have cx5:w5.cell? ⟨b,o,none⟩ = some (.int .i64 ((y + 1:Nat):Int)):=by
        have h2:=nt_at (s.drop kk) 0 (y + 1) (by rw [List.getElem?_drop,Nat.add_zero,List.getElem?_eq_getElem hks,hx])
        obtain ⟨h4,h3⟩:=List.getElem?_eq_some_iff.1 h2
        have:=hcc 0 h4
        rw [Nat.add_zero] at this
        rw [this,h3]
       have hbX:∀ w6,w5.grownBy w6 (blkOf X) → w6.cell? ⟨b,o,none⟩ = some (.int .i64 ((y + 1:Nat):Int)):=by
        intro w6 hg
        have hblk:w6.heap[b]? = w5.heap[b]?:=hg.block b (by omega) (fun e=>by have:=(oX.blk b e.symm).1;omega)
        have:w6.cell? ⟨b,o,none⟩ = w5.cell? ⟨b,o,none⟩:=by simp only [World.cell?,hblk]
        rw [this];exact cx5
       have hkv1:k + v + 1≤N:=by have:=HFIT.out;rw [if_pos hq0] at this;exact this
       have hq0I:(0:Int) < (q:Int):=by omega
       have hyw:IntKind.i64.wrap (y:Int) = (y:Int):=w64s (by omega) (by omega)
       have r5:=r4.cut (k:=1) (cap:=cq) hq0 hqc
       rw [Nat.mul_one,nt_drop,List.drop_drop] at r5
       simp only [Option.map_some,add_lit] at r5
       clear hcc hx HMORE HSPAN HFIT
       go_wp2_with (at_builtin;first | (refine wp_app_zeros rfl rfl rfl oX v rfl hkv (by omega) ?_;intro w6 o6 hg6;have cx6:=hbX w6 hg6) | (refine wp_app_fit El_int rfl rfl rfl (o6.alloc _) rfl (Rd.of_blk (m:=1) (cs:=[.int .i64 (y:Int)]) (Blk.new w6 _ _) rfl) (by omega) (by simp [Value.oneCell']) hkv1 ?_;intro w7 o7 hg7))
       go_roundw
       case rel =>
        have e1:s.drop (kk + 1) = r.drop (i + (kk + 1)):=by rw [← HI.out,List.drop_drop]
        have hl:=HMQ.out
        have HB6:Below V0.heap.size V0 w6:=below_grown HB hg6 oX (Nat.le_refl _)
        have hz6:=hg6.size
        have HB7:Below V0.heap.size V0 w7:=(HB6.alloc HB6.size _).grown hg7 (by have:=HB6.size;simp;omega) (fun j hj=>by have:=o6.blk j hj;omega)
        have r6:=Rd.grownOwn r5 hg6 oX (Nat.le_refl _) (by omega)
        have r7:=Rd.grownOwn (r6.grow0 (grown_of_below ((Below.refl _ w6).alloc (Nat.le_refl _) (.cells #[.int .i64 (y:Int)] 3))) (by omega)) hg7 (o6.alloc _) (Nat.le_refl _) (by simp;omega)
        refine ⟨_,X,q - 1,cq - 1,i + (kk + 1),k + v + 1,D ++ List.replicate v 0 ++ [y],rfl,rfl,by omega,by omega,?_,by omega,?_,?_,?_,?_,HB7⟩
        ·rw [← e1,List.length_drop,hml.out];omega
        ·rw [← e1];exact r7
        ·have e:nt (D ++ List.replicate v 0 ++ [y]) = nt D ++ List.replicate v (.int .i64 0) ++ [.int .i64 (y:Int)]:=by simp [nt,ints]
         rw [e];exact o7
        ·rw [← e1,← HD.out,HU.out];simp
        ·rw [List.length_append,List.length_append,HDL.out,List.length_replicate];rfl
       case measure=>have hl:=HMQ.out;dsimp only;omega
      ·have hq00:q = 0:=by omega
       subst hq00
       have HU:Hid (unzA s [] = List.replicate v 0):=Lib.hid (by
        have h0:kk = s.length:=by rw [hml.out];have:=HMQ.out;omega
        have h1:=HSPAN.out (by rw [HK.out];exact h0)
        have h2:=HV.out
        rw [h0,List.take_length] at h2
        rw [h1,h2])
       clear HMORE HSPAN HFIT
       go_wp2_with (at_builtin;refine wp_app_zeros rfl rfl rfl oX v rfl hkv (by omega) ?_;intro w6 o6 hg6)
       go_roundw
       case rel =>
        have e1:s.drop kk = r.drop (i + kk):=by rw [← HI.out,List.drop_drop]
        have hl:=HMQ.out
        have hs0:s.drop kk = []:=List.drop_eq_nil_of_le (by rw [hml.out];omega)
        have HB6:Below V0.heap.size V0 w6:=below_grown HB hg6 oX (Nat.le_refl _)
        have r6:=Rd.grownOwn r4 hg6 oX (Nat.le_refl _) (by omega)
        refine ⟨A4,X,0,cq,i + kk,k + v,D ++ List.replicate v 0,rfl,rfl,by omega,by omega,?_,by omega,?_,?_,?_,?_,HB6⟩
        ·rw [← e1,hs0];rfl
        ·rw [← e1];exact r6
        ·have e:nt (D ++ List.replicate v 0) = nt D ++ List.replicate v (.int .i64 0):=by simp [nt,ints]
         rw [e];exact o6
        ·rw [← e1,hs0,← HD.out,HU.out];simp [unzA,valZ]
        ·rw [List.length_append,HDL.out,List.length_replicate]
       case measure=>have hl:=HMQ.out;dsimp only;omega
     ·have hm00:m = 0:=by omega
      have HE:Hid (D = unzA r []):=Lib.hid (by
       have:s = []:=List.eq_nil_of_length_eq_zero (by rw [hml.out];exact hm00)
       rw [← HD.out,this]
       simp [unzA,valZ])
      subst hm00
      have hcap:=oX.cap
      go_wp2_with fail
      go_ret2
      refine ⟨X,k,N,rfl,hcap,?_,HB⟩
      rw [← HE.out]
      exact oX.rd
end ZruW
end Go.Proofs.YtnpncpoiiikafaaGreat
namespace Go.Proofs.YtnpncpoiiikafaaGreat
open Go.RowKit
namespace SqW
open FrontW (textS text_any)
open BwW (mayB invX Inverse_go Inverse_big Inverse_not)
open SufW (invGo)
theorem mayP_B (L:List UInt8) (pr:Int):mayP L pr = mayB L.length pr:=by
 unfold mayP mayB
 by_cases h:L = []
 ·rw [if_pos h,if_pos (by rw [h];rfl)]
 ·rw [if_neg h,if_neg (by intro e;exact h (List.length_eq_zero_iff.1 e)),Bool.eq_iff_iff]
  simp
theorem inverse_any (L:List UInt8) (pr:Int) (w:World) (x:List UInt8 × Int) (hx:invV L pr = x) :
 Calls Tryz.prog 95 #[str L,.int .i64 pr] w fun e w'=>e = .returned (.tuple #[str x.1,.int .i64 x.2])∧Below w.heap.size w w':=by
 unfold invV at hx
 by_cases h1:20000 < L.length
 ·rw [if_pos h1] at hx
  subst hx
  exact Inverse_big L pr w h1
 ·rw [if_neg h1,mayP_B] at hx
  by_cases h2:mayB L.length pr = true
  ·rw [if_pos h2] at hx
   obtain ⟨p,rfl⟩:∃ p:Nat,pr = (p:Int):=by
    refine ⟨pr.toNat,?_⟩
    unfold mayB at h2
    split at h2
    ·have:=of_decide_eq_true h2;omega
    ·simp at h2;omega
   refine Inverse_go L p w (by omega) h2 x ?_
   rw [← hx,Int.toNat_natCast]
   unfold invX
   rfl
  ·rw [if_neg h2] at hx
   subst hx
   exact Inverse_not L pr w (by omega) (by simpa using h2)
theorem Text_any (A:Option Addr) (n c:Nat) (l:List Int) (pr nn:Int) (w:World) (h:Rd w w.heap.size 1 A n (ints l)) (hn:n≤100000) (hc:n≤c) (hc2:c≤9223372036854775807) (x:List UInt8 × Int) (hx:textU l pr nn = x) :
 Calls Tryz.prog 40 #[.slice A n c,.int .i64 pr,.int .i64 nn] w fun e w'=>e = .returned (.tuple #[str x.1,.int .i64 x.2])∧Below w.heap.size w w':=by
 unfold textU at hx
 by_cases h1:nn < 0
 ·rw [if_pos (.inl h1)] at hx
  subst hx
  go_enter Tryz.func40,Tryz.ntmps40
  go_wp2_with fail
  go_ret2
  exact ⟨rfl,Below.refl _ _⟩
 ·by_cases h2:20000 < nn
  ·rw [if_pos (.inr h2)] at hx
   subst hx
   go_enter Tryz.func40,Tryz.ntmps40
   go_wp2_with fail
   go_ret2
   exact ⟨rfl,Below.refl _ _⟩
  ·rw [if_neg (by omega)] at hx
   have C:=ZruW.unpack_any A n c l nn w h hn hc hc2 _ rfl
   obtain ⟨z,hz⟩:∃ z,zunV l nn = z:=⟨_,rfl⟩
   have hz':SqW.zunV l nn = z:=hz
   rw [hz] at hx
   obtain ⟨zl,ze⟩:=z
   have HX:=Lib.hid hx
   rw [hz'] at C
   clear hx hz hz'
   dsimp only at HX C
   go_enter Tryz.func40,Tryz.ntmps40
   go_wp2_with fail
   refine C.mono ?_
   clear C
   rintro e w1 ⟨X,k,c',rfl,hkc,R,HB⟩
   have hkl:zl.length = k:=rd_len R
   have hkm:=R.len
   by_cases h3:ze = 0
   ·subst h3
    have hx1:=HX.out
    rw [if_pos rfl] at hx1
    by_cases h4:(k:Int) = nn
    ·rw [hkl,if_pos h4] at hx1
     have C:=text_any X k c' zl w1 R (by omega)
     obtain ⟨y,hy⟩:∃ y,textS zl = y:=⟨_,rfl⟩
     rw [hy] at hx1 C
     obtain ⟨yl,ye⟩:=y
     dsimp only at hx1 C
     have HX1:=Lib.hid hx1
     clear hx1 HX hy hkl hkm
     have h4b:((k:Int) != nn) = false:=by simp [h4]
     go_wp2_with fail
     refine C.mono ?_
     clear C
     rintro e w2 ⟨rfl,hb2⟩
     replace HB:=HB.trans (hb2.mono HB.size)
     clear hb2
     by_cases h5:ye = 0
     ·subst h5
      have hx2:=HX1.out
      rw [if_pos rfl] at hx2
      have C:=inverse_any yl pr w2 x hx2
      clear hx2 HX1
      go_wp2_with fail
      refine C.mono ?_
      clear C
      rintro e w3 ⟨rfl,hb3⟩
      replace HB:=HB.trans (hb3.mono HB.size)
      go_wp2_with fail
      go_ret2
      exact ⟨rfl,HB⟩
     ·have hx2:=HX1.out
      rw [if_neg h5] at hx2
      subst hx2
      have h5b:(ye != 0) = true:=by simp [h5]
      clear HX1
      go_wp2_with fail
      go_ret2
      exact ⟨rfl,HB⟩
    ·rw [hkl,if_neg h4] at hx1
     subst hx1
     have h4b:((k:Int) != nn) = true:=by simp [h4]
     clear HX hkl hkm
     go_wp2_with fail
     go_ret2
     exact ⟨rfl,HB⟩
   ·have hx1:=HX.out
    rw [if_neg h3] at hx1
    subst hx1
    have h3b:(ze != 0) = true:=by simp [h3]
    clear HX
    go_wp2_with fail
    go_ret2
    exact ⟨rfl,HB⟩
end SqW
end Go.Proofs.YtnpncpoiiikafaaGreat
namespace Go.Proofs.YtnpncpoiiikafaaGreat
abbrev zeroR:Rc:=(0,0,[])
def getR (s:List UInt8) (a:Int):Rc × Int × Int :=
 if (getV s a).2.2 = 0 then
  if (getV s (getV s a).2.1).2.2 = 0 then
   if (getV s (getV s (getV s a).2.1).2.1).2.2 = 0 then
    if (getV s a).1 < 1 ∨ 1000000000 < (getV s a).1 ∨ 1000000000 < (getV s (getV s a).2.1).1 ∨ 2000 < (getV s (getV s (getV s a).2.1).2.1).1 then (zeroR,0,150)
    else if (s.length:Int) < (getV s (getV s (getV s a).2.1).2.1).2.1 + (getV s (getV s (getV s a).2.1).2.1).1 then (zeroR,0,4)
    else (((getV s a).1,(getV s (getV s a).2.1).1,(s.drop (getV s (getV s (getV s a).2.1).2.1).2.1.toNat).take (getV s (getV s (getV s a).2.1).2.1).1.toNat),(getV s (getV s (getV s a).2.1).2.1).2.1 + (getV s (getV s (getV s a).2.1).2.1).1,0)
   else (zeroR,0,(getV s (getV s (getV s a).2.1).2.1).2.2)
  else (zeroR,0,(getV s (getV s a).2.1).2.2)
 else (zeroR,0,(getV s a).2.2)
theorem getR_1 {s:List UInt8} {a:Int} {x:Int × Int × Int} (hx:getV s a = x) (h:x.2.2 ≠ 0):getR s a = (zeroR,0,x.2.2):=by
 unfold getR;rw [hx,if_neg h]
theorem getR_2 {s:List UInt8} {a:Int} {x y:Int × Int × Int} (hx:getV s a = x) (h:x.2.2 = 0) (hy:getV s x.2.1 = y) (h2:y.2.2 ≠ 0):getR s a = (zeroR,0,y.2.2):=by
 unfold getR;rw [hx,if_pos h,hy,if_neg h2]
theorem getR_3 {s:List UInt8} {a:Int} {x y u:Int × Int × Int} (hx:getV s a = x) (h:x.2.2 = 0) (hy:getV s x.2.1 = y) (h2:y.2.2 = 0) (hu:getV s y.2.1 = u) (h3:u.2.2 ≠ 0):getR s a = (zeroR,0,u.2.2):=by
 unfold getR;rw [hx,if_pos h,hy,if_pos h2,hu,if_neg h3]
theorem getR_4 {s:List UInt8} {a:Int} {x y u:Int × Int × Int} (hx:getV s a = x) (h:x.2.2 = 0) (hy:getV s x.2.1 = y) (h2:y.2.2 = 0) (hu:getV s y.2.1 = u) (h3:u.2.2 = 0)
 (h4:x.1 < 1 ∨ 1000000000 < x.1 ∨ 1000000000 < y.1 ∨ 2000 < u.1):getR s a = (zeroR,0,150):=by
 unfold getR;rw [hx,if_pos h,hy,if_pos h2,hu,if_pos h3,if_pos h4]
theorem getR_5 {s:List UInt8} {a:Int} {x y u:Int × Int × Int} (hx:getV s a = x) (h:x.2.2 = 0) (hy:getV s x.2.1 = y) (h2:y.2.2 = 0) (hu:getV s y.2.1 = u) (h3:u.2.2 = 0)
 (h4:¬ (x.1 < 1 ∨ 1000000000 < x.1 ∨ 1000000000 < y.1 ∨ 2000 < u.1)) (h5:(s.length:Int) < u.2.1 + u.1):getR s a = (zeroR,0,4):=by
 unfold getR;rw [hx,if_pos h,hy,if_pos h2,hu,if_pos h3,if_neg h4,if_pos h5]
theorem getR_6 {s:List UInt8} {a:Int} {x y u:Int × Int × Int} (hx:getV s a = x) (h:x.2.2 = 0) (hy:getV s x.2.1 = y) (h2:y.2.2 = 0) (hu:getV s y.2.1 = u) (h3:u.2.2 = 0)
 (h4:¬ (x.1 < 1 ∨ 1000000000 < x.1 ∨ 1000000000 < y.1 ∨ 2000 < u.1)) (h5:¬ (s.length:Int) < u.2.1 + u.1):getR s a = ((x.1,y.1,(s.drop u.2.1.toNat).take u.1.toNat),u.2.1 + u.1,0):=by
 unfold getR;rw [hx,if_pos h,hy,if_pos h2,hu,if_pos h3,if_neg h4,if_neg h5]
theorem getR_ok {s:List UInt8} {a:Int} (h:(getR s a).2.2 = 0):0≤a∧a < (getR s a).2.1∧(getR s a).2.1≤s.length∧okR (getR s a).1 = true:=by
 obtain ⟨x,hx⟩:∃ x,getV s a = x:=⟨_,rfl⟩
 by_cases h1:x.2.2 = 0
 ·obtain ⟨y,hy⟩:∃ y,getV s x.2.1 = y:=⟨_,rfl⟩
  have k1:=getV_ok (s:=s) (a:=a) (by rw [hx];exact h1)
  rw [hx] at k1
  by_cases h2:y.2.2 = 0
  ·obtain ⟨u,hu⟩:∃ u,getV s y.2.1 = u:=⟨_,rfl⟩
   have k2:=getV_ok (s:=s) (a:=x.2.1) (by rw [hy];exact h2)
   rw [hy] at k2
   by_cases h3:u.2.2 = 0
   ·have k3:=getV_ok (s:=s) (a:=y.2.1) (by rw [hu];exact h3)
    rw [hu] at k3
    by_cases h4:x.1 < 1 ∨ 1000000000 < x.1 ∨ 1000000000 < y.1 ∨ 2000 < u.1
    ·rw [getR_4 hx h1 hy h2 hu h3 h4] at h;simp at h
    ·by_cases h5:(s.length:Int) < u.2.1 + u.1
     ·rw [getR_5 hx h1 hy h2 hu h3 h4 h5] at h;simp at h
     ·rw [getR_6 hx h1 hy h2 hu h3 h4 h5,okR_iff]
      dsimp only
      refine ⟨k1.1,by omega,by omega,by omega,by omega,by omega,by omega,?_⟩
      rw [List.length_take]
      omega
   ·rw [getR_3 hx h1 hy h2 hu h3] at h;exact absurd h h3
  ·rw [getR_2 hx h1 hy h2] at h;exact absurd h h2
 ·rw [getR_1 hx h1] at h;exact absurd h h1
end Go.Proofs.YtnpncpoiiikafaaGreat
namespace Go.Proofs.YtnpncpoiiikafaaGreat
open Go.RowKit
namespace RecW
theorem check_any (r:Rc) (v:Int) (hv:chkR r = v) (w:World) :
 Calls Tryz.prog 159 #[recv r] w fun e w'=>e = .returned (.int .i64 v)∧Below w.heap.size w w':=by
 obtain ⟨a,b,d⟩:=r
 have HV:=Lib.hid hv
 clear hv
 go_enter Tryz.func159,Tryz.ntmps159
 go_wp2
 all_goals
  go_ret
  refine ⟨ret_int ?_,(by first | exact Below.refl _ _ | (repeat (first | exact Below.refl _ _ | assumption | refine Below.drew ?_ | refine Below.drewN_ ?_ _ | refine Below.alloc ?_ (by first | exact Nat.le_refl _ | (simp;done) | (simp;omega) | omega) _ | refine Below.setCell ?_ (by first | exact Nat.le_refl _ | (simp;done) | (simp;omega) | omega) _ | (refine Below.trans ?_ (Below.mono (by assumption) (by first | exact Nat.le_refl _ | (simp;done) | (simp;omega) | omega))))))⟩
  rw [← HV.out]
  simp only [chkR,okR]
  simp [*]
  try omega
end RecW
end Go.Proofs.YtnpncpoiiikafaaGreat
namespace Go.Proofs.YtnpncpoiiikafaaGreat
open Go.RowKit
namespace RecW
def rowAt (l:List Rc) (k:Nat):Int:=rowFrom (if k = 0 then none else l[k - 1]?) (l.drop k)
theorem rowAt_end (l:List Rc) (k:Nat) (h:l.length≤k):rowAt l k = 0:=by
 unfold rowAt
 rw [List.drop_of_length_le h]
 split <;> simp [rowFrom]
theorem rowAt_bad (l:List Rc) (k:Nat) (h:k < l.length) (hb:okR l[k] = false):rowAt l k = 150:=by
 unfold rowAt
 rw [List.drop_eq_getElem_cons h]
 split <;> simp [rowFrom,hb]
theorem rowAt_first (l:List Rc) (h:0 < l.length) (hb:okR l[0] = true):rowAt l 0 = rowAt l 1:=by
 unfold rowAt
 rw [List.drop_eq_getElem_cons h]
 simp [rowFrom,hb,List.getElem?_eq_getElem h]
theorem rowAt_next (l:List Rc) (j:Nat) (h:j + 1 < l.length) (hb:okR l[j + 1] = true) (hn:nextB (l[j]'(by omega)) l[j + 1] = true):rowAt l (j + 1) = rowAt l (j + 2):=by
 unfold rowAt
 rw [List.drop_eq_getElem_cons h,if_neg (by omega),if_neg (by omega)]
 simp only [Nat.add_sub_cancel,List.getElem?_eq_getElem (show j < l.length by omega),List.getElem?_eq_getElem h,show j + 2 - 1 = j + 1 from rfl]
 rw [rowFrom,hb]
 simp [hn]
theorem rowAt_order (l:List Rc) (j:Nat) (h:j + 1 < l.length) (hb:okR l[j + 1] = true) (hn:nextB (l[j]'(by omega)) l[j + 1] = false):rowAt l (j + 1) = 151:=by
 unfold rowAt
 rw [List.drop_eq_getElem_cons h,if_neg (by omega)]
 simp only [Nat.add_sub_cancel,List.getElem?_eq_getElem (show j < l.length by omega)]
 rw [rowFrom,hb]
 simp [hn]
theorem ok_one {l:List Rc} {k:Nat} {hk:k < l.length} (h:okR l[k] = true):∀ j (hj:j < l.length),j + 1 = k + 1 → okR l[j] = true:=by
 intro j hj e
 obtain rfl:j = k:=by omega
 exact h
theorem row_any (A:Option Addr) (n c:Nat) (l:List Rc) (w:World) (h:Rd w w.heap.size 3 A n (rcells l)) (hn:n≤9223372036854775807) :
 Calls Tryz.prog 108 #[.slice A n c] w fun e w'=>e = .returned (.int .i64 (rowN l))∧Below w.heap.size w w':=by
 have hl:=rd_rlen h
 have hl1:l.length≤n:=by omega
 have hl2:n≤l.length:=by omega
 clear hl
 go_enter Tryz.func108,Tryz.ntmps108
 go_wp2_with fail
 go_loopw [8] (fun i wr=>∃ k:Nat,k≤n∧i = .int .i64 k∧rowN l = rowAt l k∧(∀ j (hj:j < l.length),j + 1 = k → okR l[j] = true)∧Below w.heap.size w wr) (fun i _=>n - (intOf i).toNat)
 case atStart=>exact ⟨0,by omega,rfl,rfl,fun j _ h=>by omega,(by first | exact Below.refl _ _ | (repeat (first | exact Below.refl _ _ | assumption | refine Below.drew ?_ | refine Below.drewN_ ?_ _ | refine Below.alloc ?_ (by first | exact Nat.le_refl _ | (simp;done) | (simp;omega) | omega) _ | refine Below.setCell ?_ (by first | exact Nat.le_refl _ | (simp;done) | (simp;omega) | omega) _ | (refine Below.trans ?_ (Below.mono (by assumption) (by first | exact Nat.le_refl _ | (simp;done) | (simp;omega) | omega))))))⟩
 case round =>
  obtain ⟨k,hk,rfl,hrow,hprev,hbw⟩:=hrel
  have HR:=Lib.hid hrow
  have HP:=Lib.hid hprev
  have hsz:=hbw.size
  clear hrow hprev
  by_cases hlt:k < n
  ·have hkl:k < l.length:=by omega
   obtain ⟨b,o,rfl,hb,hc⟩:=rd_recs (h.below hbw) (by omega)
   obtain ⟨c0,c1,c2⟩:=hc k hkl
   have HC:=Lib.hid hc
   clear hc
   by_cases hok:okR l[k] = true
   ·have HCH:=Lib.hid (chkR_yes hok)
    have HOK:=Lib.hid hok
    clear hok
    go_wp2_with fail
    refine (check_any l[k] 0 HCH.out _).mono ?_
    rintro e w1 ⟨rfl,hb1⟩
    have HB1:Below w.heap.size w w1:=(Below.trans (by first | exact Below.refl _ _ | (repeat (first | exact Below.refl _ _ | assumption | refine Below.drew ?_ | refine Below.drewN_ ?_ _ | refine Below.alloc ?_ (by first | exact Nat.le_refl _ | (simp;done) | (simp;omega) | omega) _ | refine Below.setCell ?_ (by first | exact Nat.le_refl _ | (simp;done) | (simp;omega) | omega) _ | (refine Below.trans ?_ (Below.mono (by assumption) (by first | exact Nat.le_refl _ | (simp;done) | (simp;omega) | omega)))))) (Below.mono hb1 (by first | exact Nat.le_refl _ | (simp only [World.size_alloc,World.size_setCell,World.size_drew];omega) | (simp;done) | (simp;omega) | omega)))
    have g1:Blk w1 wr.heap.size 98 #[.int .i64 l[k].1,.int .i64 l[k].2.1,str l[k].2.2]:=Blk.below (by repeat (first | with_reducible assumption | exact Blk.new _ _ _ | (simpa using Blk.new _ _ _) | with_reducible apply Blk.drewN | with_reducible apply Blk.drew | with_reducible apply Blk.alloc)) hb1 (by first | exact Nat.le_refl _ | (simp only [World.size_alloc,World.size_setCell,World.size_drew];omega) | (simp;done) | (simp;omega) | omega)
    obtain ⟨d0,d1,d2,f0,f1,f2,z0⟩:=blk3 g1
    clear c0 c1 c2 hb1
    rcases Nat.eq_zero_or_pos k with rfl | hk0
    ·go_wp2_with fail
     go_quiet (fail)
     go_wp2
     go_roundw
     case rel=>exact ⟨1,by omega,by first | rfl | go_num,by rw [HR.out,rowAt_first l hkl HOK.out],ok_one HOK.out,HB1.drewN_ _⟩
     case measure=>first | (simp [intOf];done) | (simp [intOf];omega)
    ·obtain ⟨j,rfl⟩:∃ j,k = j + 1:=⟨k - 1,by omega⟩
     have hjl:j < l.length:=by omega
     have hokj:=HP.out j hjl rfl
     obtain ⟨e1,e2,_⟩:=(okR_iff _).1 hokj
     obtain ⟨b',o',hA,_,hc⟩:=rd_recs (h.below HB1) (by omega)
     simp only [Option.some.injEq,Addr.mk.injEq,and_true] at hA
     obtain ⟨rfl,rfl⟩:=hA
     obtain ⟨c0,c1,_⟩:=hc j hjl
     clear hc hokj
     have hw1:IntKind.i64.wrap (((j + 1:Nat):Int) - 1) = (j:Int):=by rw [show ((j + 1:Nat):Int) - 1 = (j:Int) by omega];exact IntWalk.i64_in _ (by omega)
     have hw2:IntKind.i64.wrap (l[j].1 + 1) = l[j].1 + 1:=IntWalk.i64_in _ (by omega)
     have hkp:(0:Int) < ((j + 1:Nat):Int):=by omega
     have hj0:(0:Int)≤(j:Int):=by omega
     have hjn:(j:Int) < (n:Int):=by omega
     by_cases hs:l[j + 1].1 = l[j].1 + 1
     ·have hsI:(l[j + 1].1 != l[j].1 + 1) = false:=by simp [hs]
      have HS:=Lib.hid hs
      clear hs
      go_wp2_with fail
      go_quiet (fail)
      by_cases hd:l[j + 1].2.1 < l[j].2.1
      ·have HD:=Lib.hid hd
       go_wp2
       go_ret
       exact ⟨ret_int (by rw [HR.out,rowAt_order l j hkl HOK.out];simp [nextB];have:=HD.out;omega),HB1.drewN_ _⟩
      ·have HD:=Lib.hid hd
       go_wp2
       go_roundw
       case rel=>exact ⟨j + 2,by omega,by go_num,by rw [HR.out,rowAt_next l j hkl HOK.out];have:=HD.out;have:=HS.out;simp [nextB];omega,ok_one HOK.out,HB1.drewN_ _⟩
       case measure=>simp [intOf];omega
     ·have hsI:(l[j + 1].1 != l[j].1 + 1) = true:=by simp [hs]
      have HS:=Lib.hid hs
      clear hs
      go_wp2_with fail
      go_quiet (fail)
      go_wp2
      go_ret
      exact ⟨ret_int (by rw [HR.out,rowAt_order l j hkl HOK.out];have:=HS.out;simp [nextB];omega),HB1.drewN_ _⟩
   ·have hok':okR l[k] = false:=by simpa using hok
    have HCH:=Lib.hid (chkR_no hok')
    have HOK:=Lib.hid hok'
    clear hok hok'
    go_wp2_with fail
    refine (check_any l[k] 150 HCH.out _).mono ?_
    rintro e w1 ⟨rfl,hb1⟩
    have HB1:Below w.heap.size w w1:=(Below.trans (by first | exact Below.refl _ _ | (repeat (first | exact Below.refl _ _ | assumption | refine Below.drew ?_ | refine Below.drewN_ ?_ _ | refine Below.alloc ?_ (by first | exact Nat.le_refl _ | (simp;done) | (simp;omega) | omega) _ | refine Below.setCell ?_ (by first | exact Nat.le_refl _ | (simp;done) | (simp;omega) | omega) _ | (refine Below.trans ?_ (Below.mono (by assumption) (by first | exact Nat.le_refl _ | (simp;done) | (simp;omega) | omega)))))) (Below.mono hb1 (by first | exact Nat.le_refl _ | (simp only [World.size_alloc,World.size_setCell,World.size_drew];omega) | (simp;done) | (simp;omega) | omega)))
    go_wp2_with fail
    go_ret
    exact ⟨ret_int (by rw [HR.out,rowAt_bad l k hkl HOK.out]),HB1⟩
  ·have hz:l.length≤k:=by omega
   go_wp2_with fail
   go_ret
   exact ⟨ret_int (by rw [HR.out,rowAt_end l k hz]),hbw⟩
end RecW
end Go.Proofs.YtnpncpoiiikafaaGreat
