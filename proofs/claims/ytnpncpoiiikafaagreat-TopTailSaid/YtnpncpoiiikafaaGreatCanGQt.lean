/- CanG -/
import Derived.Test.YtnpncpoiiikafaaGreatBitUQt
import Derived.Deep.DeepCutAuto
import Derived.BigQuiet
import Derived.Test.YtnpncpoiiikafaaGreatCanWQt
import Derived.Test.YtnpncpoiiikafaaGreatLenBQt
import Derived.Test.YtnpncpoiiikafaaGreatLenKQt
set_option linter.unusedVariables false
set_option linter.unusedSimpArgs false
set_option linter.unnecessarySimpa false
set_option maxRecDepth 100000
set_option maxHeartbeats 32000000
namespace Go.Proofs.YtnpncpoiiikafaaGreat
open Go.RowKit
namespace LenW
def findL (l:List Int) (n w:Nat):Int × Bool:=if fstL l w≤n∧n - fstL l w < cntL l w then ((sortF l)[plcL l w + (n - fstL l w)]?.getD 0,true) else (0,false)
theorem plc_lt (l:List Int) (w i:Nat) (h:i < cntL l w):plcL l w + i < usedL l:=by
 have h1:=plcL_succ l w
 have h2:=plcL_le l (w + 1)
 omega
theorem find_any (l:List Int) (hk:chkL l = 0) (B g:Nat) (n wd:Nat) (w:World) (hC:CodeAt w B g l) (hn:n≤65536) (hwd:wd≤15) (v:Int × Bool) (hv:findL l n wd = v) :
 Calls Tryz.prog 138 #[.pointer (some ⟨g,0,none⟩),.int .i64 n,.int .i64 wd] w fun e w'=>e = .returned (.tuple #[.int .i64 v.1,.bool v.2])∧∃ nq,w' = w.drewN nq:=by
 obtain ⟨h257,hok,hsum⟩:=chk0 hk
 have hroom:=room l wd hwd hsum
 have h2y:(2:Nat) ^ wd≤2 ^ 15:=Nat.pow_le_pow_right (by omega) (by omega)
 have hpl:=plc_lt l wd
 have hus:=usedL_le l
 obtain ⟨gW,gS,h1,h2,h3,b1,b2,b3⟩:=hC
 have k1:=b1.cell_ 1 (v:=.slice (some ⟨gS,0,none⟩) (usedL l) (usedL l)) rfl
 have kc:=b1.cell_ _ (code_c (tab_len _) wd (by omega))
 have kf:=b1.cell_ _ (code_f (tab_len _) (tab_len _) wd (by omega))
 have kp:=b1.cell_ _ (code_p (tab_len _) (tab_len _) (tab_len _) wd (by omega))
 rw [tab_at _ wd (by omega)] at kc kf kp
 have hS:∀ (k:Nat) (hk:k < (sortF l).length),w.cell? ⟨gS,k,none⟩ = some (.int .i64 (sortF l)[k]):=fun k hk=>b3.cell_ k (by simp [ints,hk])
 have hsl:(sortF l).length = usedL l:=sortK_len l _
 obtain ⟨us,hus'⟩:∃ x,usedL l = x:=⟨_,rfl⟩
 rw [hus'] at k1 hsl hpl hus
 clear b1 b2 b3 hok hsum hk hus'
 have HV:=Lib.hid hv
 unfold findL at HV
 clear hv
 generalize sortF l = srt at *
 generalize fstL l wd = f at *
 generalize cntL l wd = c at *
 generalize plcL l wd = pl at *
 have hw0:(0:Int)≤(wd:Int):=by omega
 have hw1:(wd:Int) < 16:=by omega
 have hs1:IntKind.i64.wrap ((n:Int) - (f:Int)) = (n:Int) - (f:Int):=w64k (by omega) (by omega)
 have HS1:=Lib.hid hs1
 clear hs1
 by_cases hlo:f≤n
 ·obtain ⟨i,rfl⟩:∃ i,n = f + i:=⟨n - f,by omega⟩
  have hn0:¬ ((f + i:Nat):Int) - (f:Int) < 0:=by omega
  have hsub:((f + i:Nat):Int) - (f:Int) = (i:Int):=by omega
  by_cases hi:i < c
  ·have hx:v = (srt[pl + i]'(by rw [hsl];exact hpl i hi),true):=by rw [← HV.out,if_pos ⟨by omega,by omega⟩,show f + i - f = i from by omega,List.getElem?_eq_getElem (by rw [hsl];exact hpl i hi)];rfl
   subst hx
   have hpi:=hpl i hi
   have kS:=hS (pl + i) (by omega)
   obtain ⟨y,hy⟩:∃ y,srt[pl + i]'(by omega) = y:=⟨_,rfl⟩
   rw [hy] at kS ⊢
   have hge:¬ (i:Int) ≥ (c:Int):=by omega
   have hi0:¬ (i:Int) < 0:=by omega
   clear hS HV hy hpl
   go_enter Tryz.func138,Tryz.ntmps138
   go_upto_region 2 with fail
   try rw [hsub]
   go_wp2_with fail
   go_quiet (fail)
   go_wp2
   go_ret2
   exact ⟨rfl,_,rfl⟩
  ·have hx:v = (0,false):=by rw [← HV.out,if_neg (by omega)]
   subst hx
   have hge:(i:Int) ≥ (c:Int):=by omega
   have hi0:¬ (i:Int) < 0:=by omega
   clear hS HV hpl
   go_enter Tryz.func138,Tryz.ntmps138
   go_upto_region 2 with fail
   try rw [hsub]
   go_wp2_with fail
   go_ret2
   exact ⟨rfl,0,rfl⟩
 ·have hx:v = (0,false):=by rw [← HV.out,if_neg (by omega)]
  subst hx
  have hneg:(n:Int) - (f:Int) < 0:=by omega
  go_enter Tryz.func138,Tryz.ntmps138
  go_wp2_with fail
  go_ret2
  exact ⟨rfl,0,rfl⟩
end LenW
end Go.Proofs.YtnpncpoiiikafaaGreat
namespace Go.Proofs.YtnpncpoiiikafaaGreat
open Go.RowKit
namespace LenW
def endP (l:List Int) (n w m:Nat):Bool:=decide (0 < m) && (decide (0 < cntL l m) && (decide (n * 2 ^ (m - w) < fstL l m + cntL l m) && decide (fstL l m≤n * 2 ^ (m - w) + (2 ^ (m - w) - 1))))
def endedL (l:List Int) (n w:Nat):Int:=if (List.range 16).any (fun m=>decide (w≤m) && endP l n w m) = true ∨ w = 0 then 4 else 40
theorem endedL_yes {l:List Int} {n w m:Nat} (h1:w≤m) (h2:m≤15) (h:endP l n w m = true):endedL l n w = 4:=by
 unfold endedL
 rw [if_pos (Or.inl (List.any_eq_true.2 ⟨m,List.mem_range.2 (by omega),by simp [h1,h]⟩))]
theorem endedL_no {l:List Int} {n w:Nat} (h:∀ m,w≤m → m≤15 → endP l n w m = false) (hw:¬ w = 0):endedL l n w = 40:=by
 unfold endedL
 rw [if_neg]
 rintro (h1 | h1)
 ·obtain ⟨m,hm,h2⟩:=List.any_eq_true.1 h1
  rw [List.mem_range] at hm
  simp only [Bool.and_eq_true,decide_eq_true_eq] at h2
  have:=h m h2.1 (by omega)
  rw [h2.2] at this
  exact absurd this (by decide)
 ·exact hw h1
theorem low_le {n w j:Nat} (h:n < 2 ^ w) (h2:w + j≤15):n * 2 ^ j + 2 ^ j≤32768:=by
 have h1:(n + 1) * 2 ^ j≤2 ^ w * 2 ^ j:=Nat.mul_le_mul_right _ h
 rw [← Nat.pow_add,Nat.add_mul,Nat.one_mul] at h1
 exact Nat.le_trans h1 (Nat.le_trans (Nat.pow_le_pow_right (by omega) h2) (by decide))
theorem low_val (n j:Nat) (h:n * 2 ^ j + 2 ^ j≤32768):wrap64 ((n:Int) * 2 ^ j) = ((n * 2 ^ j:Nat):Int):=by
 rw [show (n:Int) * 2 ^ j = ((n * 2 ^ j:Nat):Int) by push_cast;rfl]
 have h2:n * 2 ^ j≤32768:=Nat.le_trans (Nat.le_add_right _ _) h
 clear h
 generalize n * 2 ^ j = y at *
 exact w64 (by omega) (by omega)
theorem high_val (n j:Nat) (h:n * 2 ^ j + 2 ^ j≤32768):bits BinOp.or .i64 (wrap64 ((n:Int) * 2 ^ j)) (wrap64 (wrap64 (2 ^ j) - 1)) = ((n * 2 ^ j + (2 ^ j - 1):Nat):Int):=by
 have hp:0 < (2:Nat) ^ j:=Nat.pow_pos (by omega)
 have h5:=or_shift j (2 ^ j - 1) n (by omega)
 rw [low_val n j h,show (2:Int) ^ j = ((2 ^ j:Nat):Int) by push_cast;rfl]
 generalize n * 2 ^ j = y at *
 generalize (2:Nat) ^ j = z at *
 rw [w64 (x:=(z:Int)) (by omega) (by omega),show (z:Int) - 1 = ((z - 1:Nat):Int) from by omega,w64 (by omega) (by omega)]
 rw [bits_nat_or .i64 y (z - 1) (by simp [IntKind.bits];omega) (by simp [IntKind.bits];omega),Nat.or_comm,h5,Nat.add_comm]
 exact w64k (by omega) (by omega)
theorem ended_any (l:List Int) (hk:chkL l = 0) (B g:Nat) (n wd:Nat) (w:World) (hC:CodeAt w B g l) (hn:n < 2 ^ wd) (hwd:wd≤15) (v:Int) (hv:endedL l n wd = v) :
 Calls Tryz.prog 137 #[.pointer (some ⟨g,0,none⟩),.int .i64 n,.int .i64 wd] w fun e w'=>e = .returned (.int .i64 v)∧∃ nq,w' = w.drewN nq:=by
 obtain ⟨h257,hok,hsum⟩:=chk0 hk
 obtain ⟨gW,gS,h1,h2,h3,b1,b2,b3⟩:=hC
 have HV:=Lib.hid hv
 have HY:=Lib.hid (fun (m:Nat)=>@endedL_yes l n wd m)
 have HN:=Lib.hid (@endedL_no l n wd)
 have HNW:=Lib.hid hn
 clear hv hn b2 b3 hok hk
 have hn2:n≤32768:=by have:=HNW.out;have h2y:(2:Nat) ^ wd≤2 ^ 15:=Nat.pow_le_pow_right (by omega) (by omega);omega
 go_enter Tryz.func137,Tryz.ntmps137
 go_wp2_with fail
 go_loopw [7] (fun m wr=>∃ (k nq:Nat),m = .int .i64 (k:Int)∧wd≤k∧k≤16∧(∀ m,wd≤m → m < k → endP l n wd m = false)∧wr = w.drewN nq) (fun m _=>16 - (intOf m).toNat)
 case atStart=>exact ⟨wd,0,rfl,by omega,by omega,fun m h1 h2=>by omega,rfl⟩
 case round =>
  obtain ⟨k,nq0,rfl,hwk,hj,hall,rfl⟩:=hrel
  have HA:=Lib.hid hall
  clear hall
  by_cases hlt:k≤15
  ·obtain ⟨j,hje⟩:∃ j,k - wd = j:=⟨_,rfl⟩
   have HSUB:=Lib.hid (show (k:Int) - (wd:Int) = (j:Int) by omega)
   have hj0:¬ (k:Int) - (wd:Int) < 0:=by omega
   have hj1:¬ (j:Int) < 0:=by omega
   have hr:=room l k hlt hsum
   have h2k:(2:Nat) ^ k≤2 ^ 15:=Nat.pow_le_pow_right (by omega) (by omega)
   have HP:=Lib.hid (show endP l n wd k = (decide (0 < k) && (decide (0 < cntL l k) && (decide (n * 2 ^ j < fstL l k + cntL l k) && decide (fstL l k≤n * 2 ^ j + (2 ^ j - 1))))) by unfold endP;rw [hje])
   have kc:=(b1.cell_ _ (code_c (tab_len _) k (by omega)))
   have kf:=(b1.cell_ _ (code_f (tab_len _) (tab_len _) k (by omega)))
   rw [tab_at _ k (by omega)] at kc kf
   have hYk:=HY.out k hwk hlt
   have HYK:=Lib.hid hYk
   have hlo:n * 2 ^ j + 2 ^ j≤32768:=low_le HNW.out (by omega)
   have HL:=Lib.hid (low_val n j hlo)
   have HH:=Lib.hid (high_val n j hlo)
   have hpj:0 < (2:Nat) ^ j:=Nat.pow_pos (by omega)
   have hj15:j≤15:=by omega
   clear hYk hje
   obtain ⟨f,hf⟩:∃ x,fstL l k = x:=⟨_,rfl⟩
   obtain ⟨c,hc⟩:∃ x,cntL l k = x:=⟨_,rfl⟩
   rw [hf,hc] at hr HP
   rw [hf] at kf
   rw [hc] at kc
   have hcf:f + c≤32768:=Nat.le_trans hr h2k
   clear hr h2k hf hc
   go_wp2_with fail
   try rw [HSUB.out]
   clear hj0
   go_quiet (fail)
   rw [HH.out,HL.out]
   obtain ⟨nq1,hnq1⟩:∃ x,nq0 + nq = x:=⟨_,rfl⟩
   rw [show (w.drewN nq0).drewN nq = w.drewN nq1 from by rw [← hnq1,World.drewN_drewN]]
   clear hnq1
   clear HL HH hpj
   obtain ⟨lo,hlo'⟩:∃ x,n * 2 ^ j = x:=⟨_,rfl⟩
   obtain ⟨hi,hhi'⟩:∃ x,lo + (2 ^ j - 1) = x:=⟨_,rfl⟩
   rw [hlo',hhi'] at HP ⊢
   clear hlo' hhi' hlo
   try go_wp2_with fail
   by_cases hk0:0 < k
   ·by_cases hc0:0 < c
    ·by_cases hl0:lo < f + c
     ·by_cases hh0:f≤hi
      ·have hx:v = 4:=by rw [← HV.out];exact HYK.out (by rw [HP.out];simp [hk0,hc0,hl0,hh0])
       subst hx
       have i1:(k:Int) > 0:=by omega
       have i2:(c:Int) > 0:=by omega
       have i3:(lo:Int) < (f:Int) + (c:Int):=by omega
       have i4:(hi:Int) ≥ (f:Int):=by omega
       go_quiet (fail)
       go_wp2
       go_ret
       exact ⟨rfl,_,World.drewN_drewN _ _ _⟩
      ·have i1:(k:Int) > 0:=by omega
       have i2:(c:Int) > 0:=by omega
       have i3:(lo:Int) < (f:Int) + (c:Int):=by omega
       have i4:¬ (hi:Int) ≥ (f:Int):=by omega
       have hE:endP l n wd k = false:=by rw [HP.out];simp [hh0]
       have HE:=Lib.hid hE
       clear hE
       go_quiet (fail)
       go_wp2
       go_roundw
       case rel=>exact ⟨k + 1,_,by go_num,by omega,by omega,fun m h1 h2=>(Nat.lt_succ_iff_lt_or_eq.1 h2).elim (HA.out m h1) (fun e=>by rw [e];exact HE.out),rfl⟩
       case measure=>simp [intOf];omega
     ·have i1:(k:Int) > 0:=by omega
      have i2:(c:Int) > 0:=by omega
      have i3:¬ (lo:Int) < (f:Int) + (c:Int):=by omega
      have hE:endP l n wd k = false:=by rw [HP.out];simp [hl0]
      have HE:=Lib.hid hE
      clear hE
      go_quiet (fail)
      go_wp2
      go_roundw
      case rel=>exact ⟨k + 1,_,by go_num,by omega,by omega,fun m h1 h2=>(Nat.lt_succ_iff_lt_or_eq.1 h2).elim (HA.out m h1) (fun e=>by rw [e];exact HE.out),rfl⟩
      case measure=>simp [intOf];omega
    ·have i1:(k:Int) > 0:=by omega
     have i2:¬ (c:Int) > 0:=by omega
     have hE:endP l n wd k = false:=by rw [HP.out];simp [hc0]
     have HE:=Lib.hid hE
     clear hE
     go_quiet (fail)
     go_wp2
     go_roundw
     case rel=>exact ⟨k + 1,_,by go_num,by omega,by omega,fun m h1 h2=>(Nat.lt_succ_iff_lt_or_eq.1 h2).elim (HA.out m h1) (fun e=>by rw [e];exact HE.out),rfl⟩
     case measure=>simp [intOf];omega
   ·have i1:¬ (k:Int) > 0:=by omega
    have hE:endP l n wd k = false:=by rw [HP.out];simp [hk0]
    have HE:=Lib.hid hE
    clear hE
    go_quiet (fail)
    go_wp2
    go_roundw
    case rel=>exact ⟨k + 1,_,by go_num,by omega,by omega,fun m h1 h2=>(Nat.lt_succ_iff_lt_or_eq.1 h2).elim (HA.out m h1) (fun e=>by rw [e];exact HE.out),rfl⟩
    case measure=>simp [intOf];omega
  ·by_cases h0:wd = 0
   ·have hx:v = 4:=by rw [← HV.out];unfold endedL;rw [if_pos (Or.inr h0)]
    subst hx
    have h0I:((wd:Int) == 0) = true:=by simp [h0]
    subst h0
    go_wp2_with fail
    go_ret
    exact ⟨rfl,_,rfl⟩
   ·have hx:v = 40:=by rw [← HV.out];exact HN.out (fun m h1 h2=>HA.out m h1 (by omega)) h0
    subst hx
    have h0I:((wd:Int) == 0) = false:=by simp [h0]
    go_wp2_with fail
    go_ret
    exact ⟨rfl,_,rfl⟩
end LenW
end Go.Proofs.YtnpncpoiiikafaaGreat
namespace Go.Proofs.YtnpncpoiiikafaaGreat
open Go.RowKit
namespace LenW
open BitW (rdr RLeft getB_short getB_yes)
def getGo (l:List Int):List Nat → Nat → Nat → Nat → Int × Nat × Int
 | _,_,_,0=>(0,0,40)
 | [],n,w,_ + 1=>(0,0,endedL l n w)
 | b :: r,n,w,f + 1=>if (findL l (2 * n + b) (w + 1)).2 = true then ((findL l (2 * n + b) (w + 1)).1,w + 1,0) else getGo l r (2 * n + b) (w + 1) f
def getC (l:List Int) (bs:List Nat):Int × Nat × Int:=getGo l bs 0 0 15
theorem grown_below {w w':World} {gl:Nat} (h:w.grownBy w' (some gl)) (hl:gl < w.heap.size):Below gl w w':=⟨h.os,h.tape,h.output,h.size,fun k hk=>h.block k (by omega) (by simp;omega)⟩
theorem shl_or (n b:Nat) (hn:n≤65536) (hb:b < 2):bits BinOp.or .i64 ((n:Int) * 2) (b:Int) = ((2 * n + b:Nat):Int):=by
 have h5:=or_shift 1 b n (by omega)
 rw [show (n:Int) * 2 = ((n * 2 ^ 1:Nat):Int) by omega]
 rw [bits_nat_or .i64 (n * 2 ^ 1) b (by simp [IntKind.bits];omega) (by simp [IntKind.bits];omega),Nat.or_comm,h5,show b + n * 2 ^ 1 = 2 * n + b by omega]
 exact w64k (by omega) (by omega)
theorem cget_any (l:List Int) (hk:chkL l = 0) (B g gr:Nat) (s:List UInt8) (p:Nat) (w:World) (hC:CodeAt w B g l) (hr:Blk w gr 198 (rdr s p)) (hp:p≤8 * s.length) (hs:s.length≤1000000) (v:Int × Nat × Int) (hv:getC l ((bitsB s).drop p) = v) :
 Calls Tryz.prog 91 #[.pointer (some ⟨g,0,none⟩),.pointer (some ⟨gr,0,none⟩)] w fun e w'=>e = .returned (.tuple #[.int .i64 v.1,.int .i64 v.2.2])∧RLeft w w' gr s (p + v.2.1):=by
 have HK:=Lib.hid hk
 have hgr:=hr.lt
 have hr':=hr
 obtain ⟨c0,c1,f0,f1,z⟩:=blk2 hr'
 have km:w.cell? ⟨g,50,none⟩ = some (.bool true):=by
  obtain ⟨gW,gS,h1,h2,h3,b1,b2,b3⟩:=hC
  exact b1.cell_ 50 (code_m (tab_len _) (tab_len _) (tab_len _))
 clear hr' hk
 go_enter Tryz.func91,Tryz.ntmps91
 go_wp2_with fail
 have HB:Below w.heap.size w (w.alloc (.cells (rdr s p) 198)):=(Below.refl _ w).alloc (Nat.le_refl _) _
 have hL:=Blk.new w 198 (rdr s p)
 go_loopw [7,8] (fun n wd wr=>∃ (j n0:Nat),n = .int .i64 n0∧wd = .int .i64 ((j + 1:Nat):Int)∧j≤15∧n0 < 2 ^ j∧p + j≤8 * s.length∧getGo l ((bitsB s).drop (p + j)) n0 j (15 - j) = v∧Blk wr w.heap.size 198 (rdr s (p + j))∧Below w.heap.size w wr) (fun _ wd _=>16 - (intOf wd).toNat)
 case atStart=>exact ⟨0,0,rfl,rfl,by omega,by omega,by omega,hv,hL,HB⟩
 case round =>
  clear hL HB
  obtain ⟨j,n0,rfl,rfl,hj,hn0,hpj,hgo,hL,HB⟩:=hrel
  have hr1:=hr.below HB hgr
  have hsz:=HB.size
  have hll:=hL.lt
  have HG:=Lib.hid hgo
  have HN0:=Lib.hid hn0
  clear hgo hn0
  have hbl:=bitsB_len s
  have hn65:n0≤65536:=by have:=HN0.out;have h2y:(2:Nat) ^ j≤2 ^ 15:=Nat.pow_le_pow_right (by omega) (by omega);omega
  by_cases h15:j = 15
  ·subst h15
   have hx:v = (0,0,40):=by rw [← HG.out];unfold getGo;rfl
   subst hx
   go_wp2_with fail
   go_ret2
   exact ⟨rfl,hr1,⟨HB.os,HB.tape,HB.output,HB.size,fun k hk _=>HB.block k hk⟩⟩
  ·obtain ⟨f,hf⟩:∃ f,15 - j = f + 1:=⟨14 - j,by omega⟩
   by_cases hend:p + j = 8 * s.length
   ·have hx:v = (0,0,endedL l n0 j):=by
     rw [← HG.out,hf,List.drop_of_length_le (by omega)];rfl
    subst hx
    have C:=BitW.get_any w.heap.size s (p + j) 1 wr hL hpj hs _ (getB_short (by omega) (by omega))
    have HEL:=Lib.hid (rfl:endedL l n0 j = endedL l n0 j)
    obtain ⟨ev,hev⟩:∃ ev,endedL l n0 j = ev:=⟨_,rfl⟩
    rw [hev]
    clear hend hbl HEL
    go_wp2_with fail
    refine C.mono ?_
    clear C
    rintro e w1 ⟨rfl,hRL⟩
    rw [if_neg (by simp)] at hRL
    have hb1:=HB.trans (grown_below hRL.2 hll)
    have C2:=ended_any l HK.out B g n0 j w1 (hC.below hb1) HN0.out hj ev hev
    go_wp2_with fail
    refine C2.mono ?_
    clear C2
    rintro e w2 ⟨rfl,nq,rfl⟩
    go_wp2_with fail
    go_ret2
    exact ⟨rfl,(hr.below hb1 hgr).drewN _,⟨hb1.os,hb1.tape,hb1.output,hb1.size,fun k hk _=>hb1.block k hk⟩⟩
   ·have hlt:p + j < (bitsB s).length:=by omega
    have hb2:=bitsB_lt s _ (List.getElem_mem hlt)
    obtain ⟨b,hb⟩:∃ b,(bitsB s)[p + j] = b:=⟨_,rfl⟩
    rw [hb] at hb2
    have hdrop:(bitsB s).drop (p + j) = b :: (bitsB s).drop (p + (j + 1)):=by rw [List.drop_eq_getElem_cons hlt,hb];rfl
    have hg1:getB (bitsB s) ((p + j:Nat):Int) 1 = ((b:Int),0):=by
     rw [show (1:Int) = ((1:Nat):Int) from rfl,getB_yes (by omega) (by omega),hdrop]
     simp [num]
    have C:=BitW.get_any w.heap.size s (p + j) 1 wr hL hpj hs _ hg1
    rw [if_pos rfl] at C
    have HG2:=HG.out
    rw [hf,hdrop] at HG2
    unfold getGo at HG2
    have HG3:=Lib.hid HG2
    have hn1:2 * n0 + b < 2 ^ (j + 1):=by have:=HN0.out;rw [Nat.pow_succ];omega
    have HN1:=Lib.hid hn1
    have hn2:2 * n0 + b≤65536:=by have h2y:(2:Nat) ^ (j + 1)≤2 ^ 15:=Nat.pow_le_pow_right (by omega) (by omega);omega
    obtain ⟨fv,hfv⟩:∃ fv,findL l (2 * n0 + b) (j + 1) = fv:=⟨_,rfl⟩
    rw [hfv] at HG3
    have hor:=shl_or n0 b hn65 hb2
    have HOR:=Lib.hid hor
    have hpj1:p + (j + 1)≤8 * s.length:=by omega
    clear HG2 hg1 hdrop hb hbl hn1 hend hlt hor
    go_wp2_with fail
    refine C.mono ?_
    clear C
    rintro e w1 ⟨rfl,hRL⟩
    have hb1:=HB.trans (grown_below hRL.2 hll)
    have C2:=find_any l HK.out B g (2 * n0 + b) (j + 1) w1 (hC.below hb1) hn2 (by omega) fv hfv
    go_wp2_with fail
    try rw [HOR.out]
    refine C2.mono ?_
    clear C2
    rintro e w2 ⟨rfl,nq,rfl⟩
    have hb2':Below w.heap.size w (w1.drewN nq):=hb1.drewN_ nq
    by_cases hfo:fv.2 = true
    ·rw [hfo]
     have hx:v = (fv.1,j + 1,0):=by rw [← HG3.out,if_pos hfo]
     subst hx
     have hLr:=(hRL.1).drewN nq
     have hrr:=hr.below hb2' hgr
     have hLr':=hLr
     have hrr':=hrr
     obtain ⟨a0,a1,g0,g1,z1⟩:=blk2 hLr'
     obtain ⟨e0,e1,i0,i1,z2⟩:=blk2 hrr'
     clear hLr' hrr'
     go_wp2_with fail
     go_ret2
     refine ⟨rfl,blk_eq ((hrr.set 0 (.string ⟨s.toArray⟩)).set 1 (.int .i64 ((p:Int) + (j:Int) + 1))) ?_,hb2'.os,hb2'.tape,hb2'.output,by simpa [World.setCell] using hb2'.size,?_⟩
     ·simp [str]
      omega
     ·intro k hk hne
      have hkg:¬ k = gr:=fun e=>hne (by rw [e])
      rw [Below.heap_setCell _ _ _ k hkg,Below.heap_setCell _ _ _ k hkg]
      exact hb2'.block k hk
    ·have hfo':fv.2 = false:=by simpa using hfo
     rw [hfo']
     have HG4:=Lib.hid (show getGo l ((bitsB s).drop (p + (j + 1))) (2 * n0 + b) (j + 1) f = v by rw [← HG3.out,if_neg hfo])
     go_wp2_with fail
     go_roundw
     case rel=>exact ⟨j + 1,2 * n0 + b,rfl,by go_num,by omega,HN1.out,hpj1,by rw [show 15 - (j + 1) = f by omega];exact HG4.out,hRL.1.drewN _,hb2'⟩
     case measure=>simp [intOf];omega
end LenW
end Go.Proofs.YtnpncpoiiikafaaGreat
namespace Go.Proofs.YtnpncpoiiikafaaGreat
open Go.RowKit
namespace LenW
open BitW (rdr RLeft El_int2 left_any)
def unpG (get:Nat → Int × Nat × Int):Nat → Nat → List Int × Nat × Int
 | 0,p=>([],p,0)
 | n + 1,p=>if (get p).2.2 = 0 then ((get p).1 :: (unpG get n (p + (get p).2.1)).1,(unpG get n (p + (get p).2.1)).2) else ([],p,(get p).2.2)
theorem unpG_len (get:Nat → Int × Nat × Int):∀ (n p:Nat),(unpG get n p).1.length≤n:=by
 intro n
 induction n with
 | zero=>intro p;simp [unpG]
 | succ n ih =>
  intro p
  unfold unpG
  have:=ih (p + (get p).2.1)
  split <;> simp <;> omega
theorem getGo_len (l:List Int):∀ (f:Nat) (bs:List Nat) (n w:Nat),(getGo l bs n w f).2.2 = 0 → (getGo l bs n w f).2.1≤w + bs.length:=by
 intro f
 induction f with
 | zero=>intro bs n w h;simp [getGo] at h
 | succ f ih =>
  intro bs n w h
  cases bs with
  | nil=>simp [getGo]
  | cons b r =>
   unfold getGo at h ⊢
   split
   ·simp <;> omega
   ·rename_i hh
    rw [if_neg hh] at h
    have:=ih r (2 * n + b) (w + 1) h
    simp only [List.length_cons]
    omega
theorem getC_len (l:List Int) (bs:List Nat) (p:Nat) (hp:p≤bs.length) (h:(getC l (bs.drop p)).2.2 = 0):p + (getC l (bs.drop p)).2.1≤bs.length:=by
 have:=getGo_len l 15 (bs.drop p) 0 0 h
 unfold getC
 rw [List.length_drop] at this
 omega
end LenW
end Go.Proofs.YtnpncpoiiikafaaGreat
namespace Go.Proofs.YtnpncpoiiikafaaGreat
open Go.RowKit
namespace LenW
end LenW
end Go.Proofs.YtnpncpoiiikafaaGreat
namespace Go.Proofs.YtnpncpoiiikafaaGreat
open Go.RowKit
namespace LenW
def dgs (l:List Int) (s:Int):List Nat:=dg (wordV l s).1.2.toNat (wordV l s).1.1.toNat
theorem wordV_at (l:List Int) (k:Nat) (h:k < l.length):wordV l k = if (wordF l k).2 = 0 then ((0,0),70) else (wordF l k,0):=by
 unfold wordV
 rw [Int.toNat_natCast]
 by_cases h2:(wordF l k).2 = 0
 ·rw [if_pos h2,if_neg (by simp [h2])]
 ·rw [if_neg h2,if_pos ⟨by omega,by omega,h2⟩]
theorem wordV_out (l:List Int) (s:Int) (h:s < 0 ∨ (l.length:Int)≤s):wordV l s = ((0,0),70):=by
 unfold wordV
 rw [if_neg (by omega)]
end LenW
end Go.Proofs.YtnpncpoiiikafaaGreat
namespace Go.Proofs.YtnpncpoiiikafaaGreat
open Go.RowKit
namespace LenW
open BitW (El_int2)
end LenW
end Go.Proofs.YtnpncpoiiikafaaGreat
namespace Go.Proofs.YtnpncpoiiikafaaGreat
open Go.RowKit
namespace LenW
open Classical
theorem wordV_V {l:List Int} {s:Nat} (h:Vs l s):wordV l s = (((nm l s:Int),(wd l s:Int)),0):=by
 obtain ⟨h1,h2⟩:=id h
 have:=wd_pos h
 rw [wordV_at l s h1,wordF_V h,if_neg (by simp;omega)]
theorem wordV_N {l:List Int} {s:Nat} (h:¬ Vs l s):wordV l s = ((0,0),70):=by
 by_cases h1:s < l.length
 ·rw [wordV_at l s h1,wordF_N h,if_pos rfl]
 ·exact wordV_out l s (.inr (by omega))
theorem Vs_iff {l:List Int} {s:Nat}:(wordV l s).2 = 0 ↔ Vs l s:=by
 constructor
 ·intro h
  exact Decidable.byContradiction fun e=>by rw [wordV_N e] at h;exact absurd h (by decide)
 ·intro h;rw [wordV_V h]
theorem dgs_V {l:List Int} {s:Nat} (h:Vs l s):dgs l s = wb l s:=by
 unfold dgs wb
 rw [wordV_V h]
 rfl
theorem find_of {l:List Int} (hk:chkL l = 0) {s:Nat} (h:Vs l s):findL l (nm l s) (wd l s) = ((s:Int),true):=by
 have h1:=rk_lt h
 unfold findL
 have e:nm l s - fstL l (wd l s) = rk l s:=by unfold nm;omega
 rw [e,if_pos ⟨by unfold nm;omega,h1⟩,sortF_get h]
 rfl
theorem find_is {l:List Int} (hk:chkL l = 0) {n w:Nat} (h0:0 < w) (h:(findL l n w).2 = true):∃ s,Vs l s∧wd l s = w∧nm l s = n∧findL l n w = ((s:Int),true):=by
 have hc:fstL l w≤n∧n - fstL l w < cntL l w:=by
  unfold findL at h
  split at h
  ·assumption
  ·simp at h
 obtain ⟨s,h1,h2,h3⟩:=word_ex l w n h0 hc.1 (by omega)
 refine ⟨s,h1,h2,h3,?_⟩
 rw [← h2,← h3]
 exact find_of hk h1
theorem Vs_pre {l:List Int} (hk:chkL l = 0) {s:Nat} (h:Vs l s) (L:List Nat) (h2:∀ d ∈ L,d < 2):wb l s <+: L ↔ wd l s≤L.length∧num (L.take (wd l s)) = nm l s:=pre_word L h2 (nm_lt hk h)
theorem find_pre {l:List Int} (hk:chkL l = 0) (L:List Nat) (h2:∀ d ∈ L,d < 2) (w:Nat) (h0:0 < w) (hw:w≤L.length) (h:(findL l (num (L.take w)) w).2 = true):∃ s,Vs l s∧wd l s = w∧wb l s <+: L∧findL l (num (L.take w)) w = ((s:Int),true):=by
 obtain ⟨s,h1,h3,h4,h5⟩:=find_is hk h0 h
 exact ⟨s,h1,h3,(Vs_pre hk h1 L h2).2 ⟨by omega,by rw [h3,h4]⟩,h5⟩
theorem num_take_snoc (L:List Nat) (w:Nat) (h:w < L.length):num (L.take (w + 1)) = 2 * num (L.take w) + L[w]:=by
 rw [List.take_succ_eq_append_getElem h,num_snoc]
theorem getGo_one {l:List Int} (hk:chkL l = 0) (L:List Nat) (h2:∀ d ∈ L,d < 2) {u:Nat} (hu:Vs l u) (hp:wb l u <+: L):∀ (f w:Nat),w + f = 15 → w < wd l u → getGo l (L.drop w) (num (L.take w)) w f = ((u:Int),wd l u,0):=by
 have hup:=(Vs_pre hk hu L h2).1 hp
 have hu15:=wd_le hk hu
 intro f
 induction f with
 | zero=>intro w h1 hw;omega
 | succ f ih =>
  intro w h1 hw
  have hwl:w < L.length:=by omega
  rw [List.drop_eq_getElem_cons hwl,getGo,← num_take_snoc L w hwl]
  by_cases he:w + 1 = wd l u
  ·have hf:findL l (num (L.take (w + 1))) (w + 1) = ((u:Int),true):=by rw [he,hup.2];exact find_of hk hu
   rw [hf,if_pos rfl,he]
  ·rw [if_neg,ih (w + 1) (by omega) (by omega)]
   intro hf
   obtain ⟨s,q1,q2,q3,_⟩:=find_pre hk L h2 (w + 1) (by omega) (by omega) hf
   have:=wb_free hk q1 hu L q3 hp
   subst this
   omega
theorem getC_one {l:List Int} (hk:chkL l = 0) (L:List Nat) (h2:∀ d ∈ L,d < 2) {u:Nat} (hu:Vs l u) (hp:wb l u <+: L):getC l L = ((u:Int),wd l u,0):=by
 have:=getGo_one hk L h2 hu hp 15 0 rfl (wd_pos hu)
 simpa [getC,num] using this
end LenW
end Go.Proofs.YtnpncpoiiikafaaGreat
namespace Go.Proofs.YtnpncpoiiikafaaGreat
open Go.RowKit
namespace LenW
open BitW (El_int2)
theorem dgs_lt (l:List Int) (r:List Int):∀ d ∈ symsB l r,d < 2:=by
 induction r with
 | nil=>intro d h;simp [symsB] at h
 | cons s r ih =>
  intro d h
  rw [symsB,List.mem_append] at h
  exact h.elim (dg_lt _ _ d) (ih d)
end LenW
end Go.Proofs.YtnpncpoiiikafaaGreat
namespace Go.Proofs.YtnpncpoiiikafaaGreat
open Go.RowKit
namespace LenW
open Classical
theorem sym_nat {l:List Int} {s:Int} (h:(wordV l s).2 = 0):∃ u:Nat,s = (u:Int)∧Vs l u:=by
 by_cases h0:s < 0
 ·rw [wordV_out l s (.inl h0)] at h;exact absurd h (by decide)
 ·obtain ⟨u,rfl⟩:=Int.eq_ofNat_of_zero_le (show 0≤s by omega)
  exact ⟨u,rfl,Vs_iff.1 h⟩
theorem symsB_cons (l:List Int) (s:Int) (r:List Int):symsB l (s :: r) = dgs l s ++ symsB l r:=rfl
theorem symsOk_cons {l:List Int} {s:Int} {r:List Int}:symsOk l (s :: r) = true ↔ (wordV l s).2 = 0∧symsOk l r = true:=by
 unfold symsOk
 rw [List.all_cons,Bool.and_eq_true,decide_eq_true_eq]
theorem back_at {l:List Int} (hk:chkL l = 0) (L:List Nat) (h2:∀ d ∈ L,d < 2):∀ (r:List Int) (p:Nat) (rest:List Nat),symsOk l r = true → L.drop p = symsB l r ++ rest → unpG (fun p=>getC l (L.drop p)) r.length p = (r,p + (symsB l r).length,0):=by
 intro r
 induction r with
 | nil=>intro p rest _ _;simp [unpG,symsB]
 | cons s r ih =>
  intro p rest ho hd
  obtain ⟨h1,h3⟩:=symsOk_cons.1 ho
  obtain ⟨u,rfl,hu⟩:=sym_nat h1
  rw [symsB_cons,dgs_V hu,List.append_assoc] at hd
  have hg:getC l (L.drop p) = ((u:Int),wd l u,0):=getC_one hk _ (fun d hd=>h2 d (List.mem_of_mem_drop hd)) hu (by rw [hd];exact List.prefix_append _ _)
  have hwl:(wb l u).length = wd l u:=by unfold wb;rw [dg_len]
  have hd2:L.drop (p + wd l u) = symsB l r ++ rest:=by rw [← List.drop_drop,hd,List.drop_left' hwl]
  rw [List.length_cons,unpG]
  try dsimp only
  rw [hg,if_pos rfl]
  try dsimp only
  rw [ih _ rest h3 hd2,symsB_cons,dgs_V hu,List.length_append,hwl,Nat.add_assoc]
end LenW
end Go.Proofs.YtnpncpoiiikafaaGreat
