/- VarF -/
import Derived.Test.YtnpncpoiiikafaaGreatAppQt
import Derived.Test.YtnpncpoiiikafaaGreatMemQt
set_option linter.unusedVariables false
set_option linter.unusedSimpArgs false
set_option linter.unnecessarySimpa false
set_option maxRecDepth 100000
set_option maxHeartbeats 32000000
namespace Go.Proofs.YtnpncpoiiikafaaGreat
open Go.RowKit
namespace VarW
def fitsB (n:Int) (k:Nat):Bool:=decide (0≤n) && decide (n < (256:Int) ^ k)
theorem pow8 (k:Nat):(2:Int) ^ (8 * k) = 256 ^ k:=by rw [Int.pow_mul];rfl
theorem shr_zero (n:Int) (k:Nat) (h0:0≤n):(n / 2 ^ (8 * k) == 0) = decide (n < (256:Int) ^ k):=by
 rw [pow8]
 have hp:(0:Int) < 256 ^ k:=Int.pow_pos (by omega)
 by_cases h:n < (256:Int) ^ k
 ·rw [decide_eq_true h,beq_iff_eq]
  exact Int.ediv_eq_zero_of_lt h0 h
 ·rw [decide_eq_false h,beq_eq_false_iff_ne]
  intro e
  have:=Int.lt_ediv_add_one_mul_self n hp
  rw [e] at this
  omega
theorem fits8 (n:Int) (h:n≤9223372036854775807):n < (256:Int) ^ 8:=by
 have:(256:Int) ^ 8 = 18446744073709551616:=by decide
 omega
theorem fits_any (n:Int) (k:Nat) (w:World) (h1:1≤k) (h8:k≤8) (hn:n≤9223372036854775807) (v:Bool) (hv:fitsB n k = v) :
 Calls Tryz.prog 168 #[.int .i64 n,.int .i64 (k:Int)] w fun e w'=>e = .returned (.bool v)∧w' = w:=by
 have HV:=Lib.hid hv
 clear hv
 by_cases h0:0≤n
 ·by_cases hk:k = 8
  ·have hkI:((k:Int) == 8) = true:=by rw [beq_iff_eq];omega
   have HK:=Lib.hid hk
   clear hk
   go_enter Tryz.func168,Tryz.ntmps168
   go_wp2_with fail
   go_ret
   refine ⟨ret_bool ?_,rfl⟩
   rw [← HV.out,HK.out,fitsB,decide_eq_true h0,decide_eq_true (fits8 n hn)]
   rfl
  ·have hkI:((k:Int) == 8) = false:=by rw [beq_eq_false_iff_ne];omega
   go_enter Tryz.func168,Tryz.ntmps168
   go_wp2_with fail
   go_ret
   refine ⟨ret_bool ?_,rfl⟩
   show (n / 2 ^ (8 * k) == 0) = v
   rw [← HV.out,fitsB,decide_eq_true h0,shr_zero n k h0]
   rfl
 ·have HN:=Lib.hid (show fitsB n k = false by simp [fitsB,h0])
  go_enter Tryz.func168,Tryz.ntmps168
  go_wp2_with fail
  go_ret
  exact ⟨ret_bool (by rw [← HV.out,HN.out]),rfl⟩
theorem fixV_no {n width:Int} (h:width < 1 ∨ 8 < width ∨ n < 0 ∨ (256:Int) ^ width.toNat≤n):fixV n width = ([],2):=by unfold fixV;rw [if_pos h]
theorem fixV_yes {n:Nat} {k:Nat} (h1:1≤k) (h8:k≤8) (h:(n:Int) < (256:Int) ^ k):fixV n k = (fbytes k n,0):=by
 unfold fixV
 rw [if_neg (by rw [Int.toNat_natCast];omega)]
 simp
theorem fbytes_step (k n:Nat):fbytes (k + 1) n = UInt8.ofNat (n % 256) :: fbytes k (n / 256):=rfl
theorem fix_any (n width:Int) (w:World) (hn:I64 n) :
 Calls Tryz.prog 126 #[.int .i64 n,.int .i64 width] w fun e w'=>e = .returned (.tuple #[str (fixV n width).1,.int .i64 (fixV n width).2])∧Below w.heap.size w w':=by
 obtain ⟨hn1,hn2⟩:=hn
 by_cases hw:width < 1 ∨ 8 < width
 ·have HV:=Lib.hid (fixV_no (n:=n) (width:=width) (by omega))
  have hw':width < 1 ∨ (¬ width < 1∧8 < width):=by omega
  clear hw
  rcases hw' with hw | ⟨hw,hw2⟩
  all_goals
   go_enter Tryz.func126,Tryz.ntmps126
   go_wp2_with fail
   go_ret2
   rw [HV.out]
   exact ⟨rfl,(by first | exact Below.refl _ _ | (repeat (first | exact Below.refl _ _ | assumption | refine Below.drew ?_ | refine Below.drewN_ ?_ _ | refine Below.alloc ?_ (by first | exact Nat.le_refl _ | (simp;done) | (simp;omega) | omega) _ | refine Below.setCell ?_ (by first | exact Nat.le_refl _ | (simp;done) | (simp;omega) | omega) _ | (refine Below.trans ?_ (Below.mono (by assumption) (by first | exact Nat.le_refl _ | (simp;done) | (simp;omega) | omega))))))⟩
 ·obtain ⟨k,rfl⟩:=Int.eq_ofNat_of_zero_le (show 0≤width by omega)
  have hk1:¬ (k:Int) < 1:=by omega
  have hk2:¬ (8:Int) < (k:Int):=by omega
  by_cases hf:fitsB n k = true
  ·have h0:0≤n:=by simp [fitsB] at hf;exact hf.1
   obtain ⟨x,rfl⟩:=Int.eq_ofNat_of_zero_le h0
   have hx:(x:Int) < (256:Int) ^ k:=by simp only [fitsB,Bool.and_eq_true,decide_eq_true_eq] at hf;exact hf.2
   have HV:=Lib.hid (fixV_yes (n:=x) (k:=k) (by omega) (by omega) hx)
   have HF:=Lib.hid hf
   have hmk:∀ w,(Instr.makeSlice 99 (.int .i64 0) (.int .i64 8)).run Tryz.prog w = .ok (.slice (some ⟨w.heap.size,0,none⟩) 0 8) (w.alloc (.cells (Array.replicate 8 (.int .u8 0)) 5)):=fun _=>by kernel_rfl
   clear hf hx hw
   go_enter Tryz.func126,Tryz.ntmps126
   go_wp2_with fail
   refine (fits_any x k w (by omega) (by omega) (by omega) true HF.out).mono ?_
   rintro e w1 ⟨rfl,rfl⟩
   go_wp2_with fail
   have o0:Own (w1.alloc (.cells (Array.replicate 8 (.int .u8 0)) 5)) w1.heap.size 5 1 (some ⟨w1.heap.size,0,none⟩) 0 8 (byts []):=by
    have:=own_made (W0:=w1) (t:=5) (base:=w1.heap.size) (n:=0) (c:=8) (size:=1) (cs:=Array.replicate 8 (.int .u8 0)) rfl (by omega) (by simp) (Nat.le_refl _) (by decide)
    simpa [byts] using this
   have HB0:Below w1.heap.size w1 (w1.alloc (.cells (Array.replicate 8 (.int .u8 0)) 5)):=(by first | exact Below.refl _ _ | (repeat (first | exact Below.refl _ _ | assumption | refine Below.drew ?_ | refine Below.drewN_ ?_ _ | refine Below.alloc ?_ (by first | exact Nat.le_refl _ | (simp;done) | (simp;omega) | omega) _ | refine Below.setCell ?_ (by first | exact Nat.le_refl _ | (simp;done) | (simp;omega) | omega) _ | (refine Below.trans ?_ (Below.mono (by assumption) (by first | exact Nat.le_refl _ | (simp;done) | (simp;omega) | omega))))))
   clear hmk
   go_loopw [0,6,21] (fun y b i wr=>∃ (j a:Nat) (A1:Option Addr) (c1:Nat) (l1:List UInt8),i = .int .i64 j∧y = .int .i64 a∧b = .slice A1 j c1∧j≤k∧a≤x∧l1 ++ fbytes (k - j) a = fbytes k x ∧
    Own wr w1.heap.size 5 1 A1 j c1 (byts l1)∧Below w1.heap.size w1 wr) (fun _ _ i _=>k - (intOf i).toNat)
   case atStart=>exact ⟨0,x,_,8,[],rfl,rfl,rfl,by omega,by omega,rfl,o0,HB0⟩
   case round =>
    obtain ⟨j,a,A1,c1,l1,rfl,rfl,rfl,hj,ha,hl,ho,hbw⟩:=hrel
    have HL:=Lib.hid hl
    have hsz:=hbw.size
    clear hl
    by_cases hlt:j < k
    ·have hby:[Value.int .u8 ((a:Int) % 256)] = byts [UInt8.ofNat (a % 256)]:=by
      rw [show (a:Int) % 256 = ((a % 256:Nat):Int) from by omega,byt_of _ (by omega)];rfl
     have HBY:=Lib.hid hby
     have HS:=Lib.hid (fbytes_step (k - (j + 1)) a)
     clear hby
     go_wp2_with (at_builtin;with_reducible refine wp_append El_u8 rfl (s:=.tmp 23) (x:=.tmp 26) rfl rfl (ho.alloc _) rfl (rd_new (cs:=[Value.int .u8 ((a:Int) % 256)]) (m:=1) rfl rfl) (by simp [Value.oneCell']) (by unfold maxLen;omega) (by omega) (by simp;omega) ?_;intro A4 c4 w4 o4 hg4 hat4)
     have hg':=grown_alloc hg4
     go_roundw
     case rel =>
      refine ⟨j + 1,a / 256,A4,c4,l1 ++ [UInt8.ofNat (a % 256)],by go_num,by go_num,rfl,by omega,by omega,?_,?_,below_grown hbw hg' ho (Nat.le_refl _)⟩
      ·rw [← HL.out,show k - j = (k - (j + 1)) + 1 from by omega,HS.out];simp
      ·rw [byts_app,← HBY.out];exact o4
     case measure=>simp [intOf];omega
    ·have hjk:j = k:=by omega
     have HL1:=Lib.hid (show l1 = fbytes k x by have:=HL.out;rw [hjk,Nat.sub_self] at this;simpa [fbytes] using this)
     have hcv:=run_bytes_str (P:=Tryz.prog) wr (c:=c1) Tryz.underlying99 Tryz.underlying5 Tryz.underlying9 ho.rd
     clear hjk
     go_wp2_with fail
     go_ret2
     rw [HV.out]
     refine ⟨?_,hbw⟩
     rw [HL1.out]
     rfl
  ·have hf':fitsB n k = false:=by simpa using hf
   have HV:=Lib.hid (fixV_no (n:=n) (width:=k) (by simp only [fitsB,Bool.and_eq_false_iff,decide_eq_false_iff_not] at hf';rw [Int.toNat_natCast];omega))
   have HF:=Lib.hid hf'
   clear hf hf' hw
   go_enter Tryz.func126,Tryz.ntmps126
   go_wp2_with fail
   refine (fits_any n k w (by omega) (by omega) (by omega) false HF.out).mono ?_
   rintro e w1 ⟨rfl,rfl⟩
   go_wp2_with fail
   go_ret2
   rw [HV.out]
   exact ⟨rfl,(by first | exact Below.refl _ _ | (repeat (first | exact Below.refl _ _ | assumption | refine Below.drew ?_ | refine Below.drewN_ ?_ _ | refine Below.alloc ?_ (by first | exact Nat.le_refl _ | (simp;done) | (simp;omega) | omega) _ | refine Below.setCell ?_ (by first | exact Nat.le_refl _ | (simp;done) | (simp;omega) | omega) _ | (refine Below.trans ?_ (Below.mono (by assumption) (by first | exact Nat.le_refl _ | (simp;done) | (simp;omega) | omega))))))⟩
theorem unfixV_arg {s:List UInt8} {a width:Int} (h:width < 1 ∨ 8 < width ∨ a < 0 ∨ (s.length:Int) < a):unfixV s a width = (0,0,2):=by unfold unfixV;rw [if_pos h]
theorem unfixV_short {s:List UInt8} {p k:Nat} (h1:1≤k) (h8:k≤8) (hp:p≤s.length) (h:s.length < p + k):unfixV s p k = (0,0,4):=by
 unfold unfixV
 rw [if_neg (by omega),if_pos (by omega)]
def fvW (s:List UInt8) (p k m:Nat):Nat:=fval (((s.drop p).take k).drop m)
theorem unfixV_in {s:List UInt8} {p k:Nat} (h1:1≤k) (h8:k≤8) (h:p + k≤s.length):unfixV s p k = if 9223372036854775808≤fvW s p k 0 then (0,0,5) else ((fvW s p k 0:Int),(p:Int) + k,0):=by
 unfold unfixV fvW
 rw [if_neg (by omega),if_neg (by omega)]
 simp
theorem fvW_end (s:List UInt8) (p k:Nat):fvW s p k k = 0:=by
 unfold fvW
 rw [List.drop_of_length_le (by simp;omega)]
 rfl
theorem fvW_step (s:List UInt8) (p k m:Nat) (hm:m < k) (h:p + k≤s.length):fvW s p k m = (s[p + m]'(by omega)).toNat + 256 * fvW s p k (m + 1):=by
 unfold fvW
 rw [List.drop_eq_getElem_cons (i:=m) (by simp;omega),fval]
 simp
theorem fvW_lt (s:List UInt8) (p k m:Nat) (hm:1≤m) (hk:k≤8):fvW s p k m < 72057594037927936:=by
 unfold fvW
 have h1:=fval_lt (((s.drop p).take k).drop m)
 have h2:(((s.drop p).take k).drop m).length≤7:=by simp;omega
 have h3:256 ^ (((s.drop p).take k).drop m).length≤256 ^ 7:=Nat.pow_le_pow_right (by omega) h2
 have h4:(256:Nat) ^ 7 = 72057594037927936:=by decide
 omega
theorem fvW_lt0 (s:List UInt8) (p k:Nat) (hk:k≤8):fvW s p k 0 < 18446744073709551616:=by
 unfold fvW
 have h1:=fval_lt (((s.drop p).take k).drop 0)
 have h2:(((s.drop p).take k).drop 0).length≤8:=by simp;omega
 have h3:256 ^ (((s.drop p).take k).drop 0).length≤256 ^ 8:=Nat.pow_le_pow_right (by omega) h2
 have h4:(256:Nat) ^ 8 = 18446744073709551616:=by decide
 omega
end VarW
end Go.Proofs.YtnpncpoiiikafaaGreat
namespace Go.Proofs.YtnpncpoiiikafaaGreat
open Go.RowKit
namespace VarW
theorem ofNat_lt (n:Nat) (h:n < 256):(UInt8.ofNat n).toNat = n:=by simp;omega
theorem vdec_put (f:Nat):∀ (n:Nat) (fst:Bool) (r:List UInt8),n < 128 ^ f → 0 < f → (fst = true ∨ 0 < n) → vdec f fst (vput f n ++ r) = (n,vl f n,0):=by
 induction f with
 | zero=>intro n fst r _ h;omega
 | succ f ih =>
  intro n fst r hn _ hz
  by_cases hs:n < 128
  ·rw [vput,if_pos hs,vl,if_pos hs,List.singleton_append,vdec,ofNat_lt n (by omega),if_neg (by omega),if_neg]
   rintro ⟨h1,h2⟩
   rcases hz with hz | hz
   ·rw [hz] at h2;cases h2
   ·omega
  ·have h2:n / 128 < 128 ^ f:=by rw [Nat.div_lt_iff_lt_mul (by omega)];rw [Nat.pow_succ] at hn;exact hn
   have hf:0 < f:=by
    rcases Nat.eq_zero_or_pos f with rfl | h
    ·simp at hn;omega
    ·exact h
   have hi:=ih (n / 128) false r h2 hf (.inr (by omega))
   rw [vput,if_neg hs,vl,if_neg hs,List.cons_append,vdec,ofNat_lt (128 + n % 128) (by omega),if_pos (by omega),hi]
   rw [if_pos rfl]
   dsimp only
   congr 1
   ·omega
   ·congr 1
    omega
theorem getV_at (p l:List UInt8):getV (p ++ l) (p.length:Nat) = resV p.length 0 0 (vdec 9 true l):=by
 rw [getV_in (by simp)]
 simp
theorem getV_put (p r:List UInt8) (n:Nat) (h:n≤9223372036854775807):getV (p ++ (vbytes n ++ r)) (p.length:Nat) = ((n:Int),((p.length + vlen n:Nat):Int),0):=by
 rw [getV_at,show vbytes n = vput 9 n from rfl,vdec_put 9 n true r (by omega) (by omega) (.inl rfl)]
 unfold resV
 simp [vlen]
theorem vdec_inv (f:Nat):∀ (fst:Bool) (l:List UInt8),(vdec f fst l).2.2 = 0 → vput f (vdec f fst l).1 = l.take (vdec f fst l).2.1∧(fst = false → 0 < (vdec f fst l).1):=by
 induction f with
 | zero=>intro fst l h;simp [vdec] at h
 | succ f ih =>
  intro fst l h
  cases l with
  | nil=>simp [vdec] at h
  | cons b r =>
   have hb:=b.toNat_lt
   by_cases h1:128≤b.toNat
   ·by_cases h2:(vdec f false r).2.2 = 0
    ·have e:vdec (f + 1) fst (b :: r) = (b.toNat - 128 + 128 * (vdec f false r).1,(vdec f false r).2.1 + 1,0):=by rw [vdec,if_pos h1,if_pos h2]
     obtain ⟨i1,i2⟩:=ih false r h2
     have i3:=i2 rfl
     rw [e]
     dsimp only
     refine ⟨?_,fun _=>by omega⟩
     rw [vput,if_neg (by omega),List.take_succ_cons,← i1]
     congr 1
     ·apply UInt8.toNat_inj.1
      rw [ofNat_lt _ (by omega)]
      omega
     ·congr 1
      omega
    ·have e:vdec (f + 1) fst (b :: r) = (0,0,(vdec f false r).2.2):=by rw [vdec,if_pos h1,if_neg h2]
     rw [e] at h
     exact absurd h h2
   ·by_cases h3:b.toNat = 0∧fst = false
    ·have e:vdec (f + 1) fst (b :: r) = (0,0,5):=by rw [vdec,if_neg h1,if_pos h3]
     rw [e] at h;cases h
    ·have e:vdec (f + 1) fst (b :: r) = (b.toNat,1,0):=by rw [vdec,if_neg h1,if_neg h3]
     rw [e]
     dsimp only
     refine ⟨?_,fun hf=>?_⟩
     ·rw [vput,if_pos (by omega)]
      simp
     ·rcases Nat.eq_zero_or_pos b.toNat with h | h
      ·exact absurd ⟨h,hf⟩ h3
      ·exact h
theorem getV_inv {s:List UInt8} {a:Int} (h:(getV s a).2.2 = 0):vbytes (getV s a).1.toNat = (s.drop a.toNat).take ((getV s a).2.1 - a).toNat:=by
 by_cases h1:a < 0 ∨ (s.length:Int) < a
 ·rw [getV_out h1] at h;cases h
 ·obtain ⟨p,rfl⟩:=Int.eq_ofNat_of_zero_le (show 0≤a by omega)
  rw [getV_in (by omega)] at h ⊢
  unfold resV at *
  by_cases h2:(vdec 9 true (s.drop p)).2.2 = 0
  ·rw [if_pos h2]
   obtain ⟨i1,_⟩:=vdec_inv 9 true (s.drop p) h2
   simp only [Nat.pow_zero,Nat.one_mul,Nat.zero_add,Int.toNat_natCast,Nat.add_zero]
   rw [show (((p + (vdec 9 true (s.drop p)).2.1:Nat):Int) - (p:Int)).toNat = (vdec 9 true (s.drop p)).2.1 from by omega]
   exact i1
  ·rw [if_neg h2] at h;exact absurd h h2
end VarW
end Go.Proofs.YtnpncpoiiikafaaGreat
namespace Go.Proofs.YtnpncpoiiikafaaGreat
open VarW
def numsV (s:List UInt8):Nat → Int → List Int × Int × Int
 | 0,p=>([],p,0)
 | k + 1,p=>if (getV s p).2.2 = 0 then ((getV s p).1 :: (numsV s k (getV s p).2.1).1,(numsV s k (getV s p).2.1).2) else ([],p,(getV s p).2.2)
theorem numsV_yes {s:List UInt8} {k:Nat} {p x tz:Int} (h:getV s p = (x,tz,0)):numsV s (k + 1) p = (x :: (numsV s k tz).1,(numsV s k tz).2):=by rw [numsV,h];rfl
theorem numsV_no {s:List UInt8} {k:Nat} {p x tz e:Int} (h:getV s p = (x,tz,e)) (he:e ≠ 0):numsV s (k + 1) p = ([],p,e):=by rw [numsV,h];exact if_neg he
theorem numsV_len {s:List UInt8}:∀ {k:Nat} {p:Int},(numsV s k p).2.2 = 0 → (numsV s k p).1.length = k
 | 0,p,_=>rfl
 | k + 1,p,h=>by
  rw [numsV] at h ⊢
  split at h
  ·next h0 =>
   rw [if_pos h0]
   rw [List.length_cons,numsV_len h]
  ·next h0=>exact absurd h h0
theorem numsV_ok {s:List UInt8}:∀ {k:Nat} {p:Int},(numsV s k p).2.2 = 0 → 0≤p → p≤s.length → p + k≤(numsV s k p).2.1∧(numsV s k p).2.1≤s.length∧∀ x ∈ (numsV s k p).1,0≤x∧x≤9223372036854775807
 | 0,p,_,h0,h1=>⟨by simp [numsV],h1,by simp [numsV]⟩
 | k + 1,p,h,h0,h1=>by
  rw [numsV] at h ⊢
  split at h
  ·next hg =>
   rw [if_pos hg]
   obtain ⟨g1,g2,g3,g4,g5⟩:=getV_ok hg
   obtain ⟨i1,i2,i3⟩:=numsV_ok h (by omega) g3
   refine ⟨by push_cast;omega,i2,fun x hx=>?_⟩
   rcases List.mem_cons.1 hx with rfl | hx
   ·exact ⟨g4,g5⟩
   ·exact i3 x hx
  ·next hg=>exact absurd h hg
theorem numsV_put (l:List Int) (hl:∀ n ∈ l,0≤n∧n≤9223372036854775807):∀ (p r:List UInt8),numsV (p ++ (lput l ++ r)) l.length (p.length:Nat) = (l,((p.length + (lput l).length:Nat):Int),0):=by
 induction l with
 | nil=>intro p r;simp [numsV,lput]
 | cons n l ih =>
  intro p r
  obtain ⟨h0,h1⟩:=hl n (List.mem_cons_self ..)
  have e:lput (n :: l) = vbytes n.toNat ++ lput l:=by simp [lput]
  have g:=getV_put p (lput l ++ r) n.toNat (by omega)
  rw [e,List.append_assoc,List.length_cons,numsV_yes g]
  have hv:vlen n.toNat = (vbytes n.toNat).length:=(vbytes_len n.toNat).symm
  have ih2:=ih (fun x hx=>hl x (List.mem_cons_of_mem _ hx)) (p ++ vbytes n.toNat) r
  rw [List.append_assoc,List.length_append,← hv] at ih2
  rw [ih2,List.length_append,← hv]
  refine Prod.ext ?_ (Prod.ext ?_ rfl)
  ·show (n.toNat:Int) :: l = n :: l
   rw [show ((n.toNat:Nat):Int) = n by omega]
  ·show (((p.length + vlen n.toNat + (lput l).length:Nat)):Int) = _
   congr 1
   omega
end Go.Proofs.YtnpncpoiiikafaaGreat
namespace Go.Proofs.YtnpncpoiiikafaaGreat
open Go.RowKit
namespace FrontW
def mtf (r:List UInt8) (i:Nat):List UInt8:=r.getD i 0 :: (r.take i ++ r.drop (i + 1))
def initK (k:Nat):List UInt8:=(List.range 256).map fun j=>if j < k then UInt8.ofNat j else 0
def init:List UInt8:=(List.range 256).map UInt8.ofNat
def rowC (r:List UInt8):Array Value:=(byts r).toArray
theorem initK_len (k:Nat):(initK k).length = 256:=by simp [initK]
theorem init_len:init.length = 256:=by simp [init]
theorem initK_last:initK 256 = init:=by
 unfold initK init
 refine List.map_congr_left fun j hj=>?_
 rw [if_pos (by simpa using hj)]
theorem initK_set (k:Nat) (hk:k < 256):(initK k).set k (UInt8.ofNat k) = initK (k + 1):=by
 refine List.ext_getElem (by simp [initK]) fun i h1 h2=>?_
 simp only [initK,List.getElem_set,List.getElem_map,List.getElem_range]
 by_cases h:k = i
 ·subst h;simp
 ·rw [if_neg h]
  by_cases h':i < k
  ·rw [if_pos h',if_pos (by omega)]
  ·rw [if_neg h',if_neg (by omega)]
theorem mtf_perm (r:List UInt8) (i:Nat) (hi:i < r.length):(mtf r i).Perm r:=by
 have h1:r = r.take i ++ r.getD i 0 :: r.drop (i + 1):=by
  have h2:=List.take_append_drop i r
  rw [List.drop_eq_getElem_cons hi] at h2
  simpa [List.getD,List.getElem?_eq_getElem hi] using h2.symm
 unfold mtf
 conv=>rhs;rw [h1]
 exact (List.perm_middle).symm
def Full (r:List UInt8):Prop:=r.Perm init
theorem full_init:Full init:=List.Perm.refl _
theorem Full.len {r:List UInt8} (h:Full r):r.length = 256:=by rw [List.Perm.length_eq h];exact init_len
theorem Full.mem {r:List UInt8} (h:Full r) (b:UInt8):b ∈ r:=by
 refine (List.Perm.mem_iff h).2 ?_
 unfold init
 exact List.mem_map.2 ⟨b.toNat,List.mem_range.2 b.toNat_lt,by simp⟩
theorem init_nodup:init.Nodup:=by
 unfold init
 refine List.Pairwise.map _ ?_ (List.nodup_range (n:=256) |>.imp_of_mem (S:=fun a b=>a < 256∧b < 256∧a ≠ b) ?_)
 ·rintro a b ⟨ha,hb,hne⟩ h
  apply hne
  have:=congrArg UInt8.toNat h
  simp at this
  omega
 ·intro a b ha hb hne
  exact ⟨by simpa using ha,by simpa using hb,hne⟩
theorem Full.nodup {r:List UInt8} (h:Full r):r.Nodup:=(List.Perm.nodup_iff h).2 init_nodup
theorem Full.mtf {r:List UInt8} (h:Full r) {i:Nat} (hi:i < 256):Full (mtf r i):=(mtf_perm r i (by rw [h.len];exact hi)).trans h
theorem Full.idx {r:List UInt8} (h:Full r) (b:UInt8):r.idxOf b < 256:=by
 have:=List.idxOf_lt_length_of_mem (h.mem b)
 rwa [h.len] at this
def stepR (x:List UInt8 × List Int) (b:UInt8):List UInt8 × List Int:=(mtf x.1 (x.1.idxOf b),x.2 ++ [(x.1.idxOf b:Int)])
def runR (s:List UInt8):List UInt8 × List Int:=s.foldl stepR (init,[])
theorem runR_snoc (s:List UInt8) (k:Nat) (hk:k < s.length):runR (s.take (k + 1)) = stepR (runR (s.take k)) s[k]:=by
 rw [runR,List.take_succ_eq_append_getElem hk,List.foldl_append];rfl
theorem runR_full (s:List UInt8):Full (runR s).1:=by
 unfold runR
 suffices h:∀ (x:List UInt8 × List Int),Full x.1 → Full (s.foldl stepR x).1 from h _ full_init
 induction s with
 | nil=>exact fun x h=>h
 | cons b s ih=>exact fun x h=>ih _ (h.mtf (h.idx b))
theorem runR_len (s:List UInt8):(runR s).2.length = s.length:=by
 unfold runR
 suffices h:∀ (x:List UInt8 × List Int),(s.foldl stepR x).2.length = x.2.length + s.length by simpa using h (init,[])
 induction s with
 | nil=>simp
 | cons b s ih=>intro x;rw [List.foldl_cons,ih];simp [stepR];omega
def stepT (x:List UInt8 × List UInt8) (n:Int):List UInt8 × List UInt8:=(mtf x.1 n.toNat,x.2 ++ [x.1.getD n.toNat 0])
def runT (l:List Int):List UInt8 × List UInt8:=l.foldl stepT (init,[])
def okT (l:List Int):Prop:=∀ n ∈ l,0≤n∧n≤255
theorem runT_snoc (l:List Int) (k:Nat) (hk:k < l.length):runT (l.take (k + 1)) = stepT (runT (l.take k)) l[k]:=by
 rw [runT,List.take_succ_eq_append_getElem hk,List.foldl_append];rfl
theorem runT_full (l:List Int) (h:okT l):Full (runT l).1:=by
 unfold runT
 suffices g:∀ (x:List UInt8 × List UInt8),Full x.1 → okT l → Full (l.foldl stepT x).1 from g _ full_init h
 clear h
 induction l with
 | nil=>exact fun x h _=>h
 | cons n l ih=>exact fun x h ho=>ih _ (h.mtf (by have:=ho n (by simp);omega)) (fun m hm=>ho m (by simp [hm]))
end FrontW
end Go.Proofs.YtnpncpoiiikafaaGreat
