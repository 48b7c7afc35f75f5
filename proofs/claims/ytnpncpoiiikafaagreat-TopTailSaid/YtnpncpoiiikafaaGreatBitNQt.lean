/- BitN -/
import Derived.Test.YtnpncpoiiikafaaGreatBitUQt
import Derived.Test.YtnpncpoiiikafaaGreatBitWQt
import Derived.Test.YtnpncpoiiikafaaGreatLenBQt
set_option linter.unusedVariables false
set_option linter.unusedSimpArgs false
set_option linter.unnecessarySimpa false
set_option maxRecDepth 100000
set_option maxHeartbeats 32000000
namespace Go.Proofs.YtnpncpoiiikafaaGreat
open Go.RowKit
namespace BitW
def nz:List Nat → Nat
 | []=>0
 | d :: r=>if d = 0 then nz r + 1 else 0
theorem nz_le (l:List Nat):nz l≤l.length:=by
 induction l with
 | nil=>exact Nat.le_refl _
 | cons d r ih=>unfold nz;split <;> simp;omega
theorem nz_app_zero {l r:List Nat} (h:nz l = l.length):nz (l ++ r) = l.length + nz r:=by
 induction l with
 | nil=>simp
 | cons d l ih =>
  unfold nz at h
  split at h
  ·rename_i hd
   have h':nz l = l.length:=by simpa using h
   rw [List.cons_append,nz,if_pos hd,ih h']
   simp;omega
  ·simp at h
theorem cut_one (s:List UInt8) (a m:Nat) (h:a + (m + 1)≤8 * s.length):∃ d,cut s a 1 = [d]∧d < 2∧cut s a (m + 1) = d :: cut s (a + 1) m:=by
 have hl:=cut_len s a 1 (by omega)
 obtain ⟨d,hd⟩:=List.length_eq_one_iff.1 hl
 refine ⟨d,hd,cut_lt s a 1 d (by rw [hd];simp),?_⟩
 rw [Nat.add_comm m 1,cut_app,hd]
 rfl
theorem noughts_any (g:Nat) (s:List UInt8) (p m:Nat) (w:World) (h:Blk w g 198 (rdr s p)) (hm:p + m≤8 * s.length) (hs:s.length≤1000000) :
 Calls Tryz.prog 140 #[.pointer (some ⟨g,0,none⟩),.int .i64 m] w fun e w'=>e = .returned (.int .i64 (nz (cut s p m):Nat))∧∃ nq,w' = w.drewN nq:=by
 go_enter Tryz.func140,Tryz.ntmps140
 go_wp2_with fail
 go_loopw [5] (fun kv wr=>∃ (k nq:Nat),k≤m∧kv = .int .i64 k∧nz (cut s p m) = k + nz (cut s (p + k) (m - k))∧wr = w.drewN nq) (fun kv _=>m - (intOf kv).toNat)
 case atStart=>exact ⟨0,0,by omega,rfl,by simp,rfl⟩
 case round =>
  obtain ⟨k,nq,hk,rfl,hz,rfl⟩:=hrel
  have HZ:=Lib.hid hz
  clear hz
  have h':=h.drewN nq
  by_cases hlt:k < m
  ·obtain ⟨d,hd1,hd2,hd3⟩:=cut_one s (p + k) (m - k - 1) (by omega)
   rw [show m - k - 1 + 1 = m - k from by omega] at hd3
   have C:=peek_any g s p (p + k) 1 _ h' (by omega) (by omega) hs
   rw [hd1,show num [d] = d from by simp [num]] at C
   have HD:=Lib.hid hd3
   have hb:=h'
   obtain ⟨c0,c1,_,_,_⟩:=blk2 hb
   have hpk:(p:Int) + (k:Int) = ((p + k:Nat):Int):=by omega
   have hwr:IntKind.i64.wrap ((p:Int) + (k:Int)) = ((p + k:Nat):Int):=by rw [IntWalk.i64_in _ (by omega)];omega
   have HPK:=Lib.hid hpk
   clear hd1 hd3 hb hpk
   by_cases hd0:d = 0
   ·subst hd0
    go_wp2_with fail
    try rw [HPK.out]
    refine C.mono ?_
    clear C
    rintro e w2 ⟨rfl,nq2,rfl⟩
    go_wp2_with fail
    go_roundw
    case rel=>exact ⟨k + 1,nq + nq2,by omega,by go_num,by rw [HZ.out,HD.out,nz,if_pos rfl,show p + (k + 1) = p + k + 1 from by omega,show m - (k + 1) = m - k - 1 from by omega];omega,rfl⟩
    case measure=>simp [intOf];omega
   ·have hdI:((d:Int) == 0) = false:=by rw [beq_eq_false_iff_ne];omega
    have hf:nz (cut s p m) = k:=by rw [HZ.out,HD.out,nz,if_neg hd0];omega
    have HF:=Lib.hid hf
    clear hf
    go_wp2_with fail
    try rw [HPK.out]
    refine C.mono ?_
    clear C
    rintro e w2 ⟨rfl,nq2,rfl⟩
    go_wp2_with fail
    go_ret
    exact ⟨by rw [HF.out];rfl,nq + nq2,rfl⟩
  ·have hf:nz (cut s p m) = k:=by rw [HZ.out,show m - k = 0 from by omega];simp [cut,nz]
   have HF:=Lib.hid hf
   clear hf
   go_wp2_with fail
   go_ret
   exact ⟨by rw [HF.out];rfl,nq,rfl⟩
def doneB (s:List UInt8) (p:Nat):Bool:=decide (8 * s.length - p < 8) && decide (nz (cut s p (8 * s.length - p)) = 8 * s.length - p)
def ungB (s:List UInt8) (p:Nat):Nat × Int × Nat :=
 if 8 * s.length - p = 0 ∨ nz (cut s p (8 * s.length - p)) = 8 * s.length - p then (0,4,0)
 else if 32≤nz (cut s p (8 * s.length - p)) then (0,40,0)
 else if 8 * s.length - p < 2 * nz (cut s p (8 * s.length - p)) + 1 then (0,4,0)
 else (num (cut s (p + nz (cut s p (8 * s.length - p))) (nz (cut s p (8 * s.length - p)) + 1)),0,2 * nz (cut s p (8 * s.length - p)) + 1)
theorem gamma_any (g:Nat) (s:List UInt8) (p:Nat) (w:World) (h:Blk w g 198 (rdr s p)) (hp:p≤8 * s.length) (hs:s.length≤1000000) (v:Nat × Int × Nat) (hv:ungB s p = v) :
 Calls Tryz.prog 134 #[.pointer (some ⟨g,0,none⟩)] w fun e w'=>e = .returned (.tuple #[.int .i64 v.1,.int .i64 v.2.1])∧RLeft w w' g s (p + v.2.2):=by
 have CL:=left_any g s p w h hp hs
 have CN:=fun w h=>noughts_any g s p (8 * s.length - p) w h (by omega) hs
 have CP:=fun k w h hk=>peek_any g s p (p + k) (k + 1) w h (show p + k + (k + 1)≤8 * s.length from hk)
 have hle:=nz_le (cut s p (8 * s.length - p))
 rw [cut_len s p _ (by omega)] at hle
 have hLL:8 * s.length - p + p≤8 * s.length:=by omega
 unfold ungB at hv
 generalize 8 * s.length - p = L at *
 generalize nz (cut s p L) = z at *
 have H:=Lib.hid h
 have HCP:=Lib.hid CP
 clear h CP
 by_cases h0:L = 0
 ·rw [if_pos (.inl h0)] at hv
  subst hv
  subst h0
  go_enter Tryz.func134,Tryz.ntmps134
  go_wp2_with fail
  refine CL.mono ?_
  rintro e w2 ⟨rfl,nq,rfl⟩
  go_wp2_with fail
  go_ret2
  exact ⟨rfl,RLeft.drewN H.out nq⟩
 ·have h0I:((L:Int) == 0) = false:=by rw [beq_eq_false_iff_ne];omega
  by_cases hz:z = L
  ·rw [if_pos (.inr hz)] at hv
   subst hv
   subst hz
   clear h0
   go_enter Tryz.func134,Tryz.ntmps134
   go_wp2_with fail
   refine CL.mono ?_
   rintro e w2 ⟨rfl,nq,rfl⟩
   go_wp2_with fail
   refine (CN _ (H.out.drewN nq)).mono ?_
   rintro e w3 ⟨rfl,nq2,rfl⟩
   go_wp2_with fail
   go_ret2
   exact ⟨rfl,RLeft.drewN H.out (nq + nq2)⟩
  ·have hzI:((z:Int) == (L:Int)) = false:=by rw [beq_eq_false_iff_ne];omega
   rw [if_neg (by omega)] at hv
   by_cases h32:32≤z
   ·rw [if_pos h32] at hv
    subst hv
    have h32I:(32:Int)≤(z:Int):=by omega
    clear h0 hz
    go_enter Tryz.func134,Tryz.ntmps134
    go_wp2_with fail
    refine CL.mono ?_
    rintro e w2 ⟨rfl,nq,rfl⟩
    go_wp2_with fail
    refine (CN _ (H.out.drewN nq)).mono ?_
    rintro e w3 ⟨rfl,nq2,rfl⟩
    go_wp2_with fail
    go_ret2
    exact ⟨rfl,RLeft.drewN H.out (nq + nq2)⟩
   ·rw [if_neg h32] at hv
    have h32I:¬ (32:Int)≤(z:Int):=by omega
    by_cases hsh:L < 2 * z + 1
    ·rw [if_pos hsh] at hv
     subst hv
     have hshI:(L:Int) < 2 * (z:Int) + 1:=by omega
     clear h0 hz
     go_enter Tryz.func134,Tryz.ntmps134
     go_wp2_with fail
     refine CL.mono ?_
     rintro e w2 ⟨rfl,nq,rfl⟩
     go_wp2_with fail
     refine (CN _ (H.out.drewN nq)).mono ?_
     rintro e w3 ⟨rfl,nq2,rfl⟩
     go_wp2_with fail
     go_ret2
     exact ⟨rfl,RLeft.drewN H.out (nq + nq2)⟩
    ·rw [if_neg hsh] at hv
     subst hv
     have hshI:¬ (L:Int) < 2 * (z:Int) + 1:=by omega
     have e1:(p:Int) + (z:Int) = ((p + z:Nat):Int):=by omega
     have e2:(z:Int) + 1 = ((z + 1:Nat):Int):=by omega
     have E1:=Lib.hid e1
     have E2:=Lib.hid e2
     clear h0 hz e1 e2
     go_enter Tryz.func134,Tryz.ntmps134
     go_wp2_with fail
     refine CL.mono ?_
     rintro e w2 ⟨rfl,nq,rfl⟩
     go_wp2_with fail
     refine (CN _ (H.out.drewN nq)).mono ?_
     rintro e w3 ⟨rfl,nq2,rfl⟩
     have h3:Blk (w.drewN (nq + nq2)) g 198 (rdr s p):=H.out.drewN (nq + nq2)
     have C:=HCP.out z (w.drewN (nq + nq2)) h3 (by omega) (by omega) hs
     have h3':=h3
     obtain ⟨c0,c1,f0,f1,z3⟩:=blk2 h3'
     clear h3'
     go_wp2_with fail
     rw [E1.out,E2.out]
     refine C.mono ?_
     clear C
     rintro e w4 ⟨rfl,nq3,rfl⟩
     have h4:Blk (w.drewN (nq + nq2 + nq3)) g 198 (rdr s p):=H.out.drewN (nq + nq2 + nq3)
     have h4':=h4
     clear c0 c1 f0 f1 z3
     obtain ⟨c0,c1,f0,f1,z3⟩:=blk2 h4'
     go_wp2_with fail
     go_ret2
     refine ⟨rfl,?_,?_⟩
     ·have:=h4.set 1 (.int .i64 ((p:Int) + (2 * (z:Int) + 1)))
      exact blk_eq this (by simp)
     ·exact ⟨rfl,rfl,rfl,by simp [World.setCell],fun k _ hne=>Below.heap_setCell _ _ _ k (fun e=>hne (by rw [e]))⟩
end BitW
end Go.Proofs.YtnpncpoiiikafaaGreat
namespace Go.Proofs.YtnpncpoiiikafaaGreat
open Go.RowKit
namespace BitW
theorem done_any (g:Nat) (s:List UInt8) (p:Nat) (w:World) (h:Blk w g 198 (rdr s p)) (hp:p≤8 * s.length) (hs:s.length≤1000000) :
 Calls Tryz.prog 92 #[.pointer (some ⟨g,0,none⟩)] w fun e w'=>e = .returned (.bool (doneB s p))∧∃ nq,w' = w.drewN nq:=by
 have CL:=left_any g s p w h hp hs
 have CN:=fun w h=>noughts_any g s p (8 * s.length - p) w h (by omega) hs
 have hle:=nz_le (cut s p (8 * s.length - p))
 rw [cut_len s p _ (by omega)] at hle
 have hD:=Lib.hid (show doneB s p = (decide (8 * s.length - p < 8) && decide (nz (cut s p (8 * s.length - p)) = 8 * s.length - p)) from rfl)
 generalize 8 * s.length - p = L at *
 generalize nz (cut s p L) = z at *
 have H:=Lib.hid h
 clear h
 by_cases h0:L = 0
 ·subst h0
  obtain rfl:z = 0:=by omega
  go_enter Tryz.func92,Tryz.ntmps92
  go_wp2_with fail
  refine CL.mono ?_
  rintro e w2 ⟨rfl,nq,rfl⟩
  go_wp2_with fail
  go_ret
  exact ⟨by rw [hD.out];rfl,nq,rfl⟩
 ·have h0I:((L:Int) == 0) = false:=by rw [beq_eq_false_iff_ne];omega
  by_cases h8:L < 8
  ·have h8I:(L:Int) < 8:=by omega
   have hb:((z:Int) == (L:Int)) = decide (z = L):=by rw [Bool.eq_iff_iff,beq_iff_eq,decide_eq_true_iff];omega
   have hd8:decide (L < 8) = true:=decide_eq_true h8
   clear h0
   go_enter Tryz.func92,Tryz.ntmps92
   go_wp2_with fail
   refine CL.mono ?_
   rintro e w2 ⟨rfl,nq,rfl⟩
   go_wp2_with fail
   refine (CN _ (H.out.drewN nq)).mono ?_
   rintro e w3 ⟨rfl,nq2,rfl⟩
   go_wp2_with fail
   go_ret
   exact ⟨by rw [hD.out];simp [h8],nq + nq2,rfl⟩
  ·have h8I:¬ (L:Int) < 8:=by omega
   clear h0
   go_enter Tryz.func92,Tryz.ntmps92
   go_wp2_with fail
   refine CL.mono ?_
   rintro e w2 ⟨rfl,nq,rfl⟩
   go_wp2_with fail
   go_ret
   exact ⟨by rw [hD.out];simp [h8],nq,rfl⟩
end BitW
end Go.Proofs.YtnpncpoiiikafaaGreat
namespace Go.Proofs.YtnpncpoiiikafaaGreat
open Go.RowKit
namespace BitW
theorem dg_zero (k:Nat):dg k 0 = List.replicate k 0:=by
 induction k with
 | zero=>rfl
 | succ k ih=>rw [dg,Nat.zero_div,ih,List.replicate_succ']
theorem blen_eq {x k:Nat} (h:x < 2 ^ 32) (h1:2 ^ k≤x) (h2:x < 2 ^ (k + 1)):blen x = k + 1:=by
 have h0:0 < x:=Nat.lt_of_lt_of_le (Nat.pow_pos (by omega)) h1
 obtain ⟨a1,a2,a3,a4⟩:=blen_facts h0 h
 have c1:¬ blen x≤k:=fun hc=>by have:=Nat.pow_le_pow_right (n:=2) (by omega) hc;omega
 have c2:¬ k + 2≤blen x:=fun hc=>by have:=Nat.pow_le_pow_right (n:=2) (by omega) (show k + 1≤blen x - 1 by omega);omega
 omega
end BitW
end Go.Proofs.YtnpncpoiiikafaaGreat
namespace Go.Proofs.YtnpncpoiiikafaaGreat
open Go.RowKit
namespace BitW
theorem nz_rep (k:Nat):nz (List.replicate k 0) = k:=by
 induction k with
 | zero=>rfl
 | succ k ih=>rw [List.replicate_succ,nz,if_pos rfl,ih]
theorem gam_len {x:Nat} (h0:0 < x) (h:x < 2 ^ 32):(gam x).length + 1 = 2 * blen x∧1≤blen x∧blen x≤32:=by
 obtain ⟨a1,a2,_,_⟩:=blen_facts h0 h
 refine ⟨?_,a1,a2⟩
 rw [gam,List.length_append,dg_len,dg_len]
 omega
theorem top_one {x:Nat} (h0:0 < x) (h:x < 2 ^ 32):∃ r,dg (blen x) x = 1 :: r:=by
 obtain ⟨a1,a2,a3,a4⟩:=blen_facts h0 h
 obtain ⟨b,hb⟩:∃ b,blen x = b + 1:=⟨blen x - 1,by omega⟩
 rw [hb] at a3 a4 ⊢
 rw [Nat.add_sub_cancel] at a4
 refine ⟨dg b x,?_⟩
 rw [dg_more]
 have:x / 2 ^ b = 1:=by
  have hp:0 < 2 ^ b:=Nat.pow_pos (by omega)
  rw [Nat.pow_succ] at a3
  apply Nat.le_antisymm
  ·have:=(Nat.div_lt_iff_lt_mul hp).2 (show x < 2 * 2 ^ b by omega);omega
  ·exact Nat.div_pos a4 hp
 rw [this]
theorem ung_at {s:List UInt8} {pre rest:List Nat} {x:Nat} (h0:0 < x) (h:x < 2 ^ 32) (hs:bitsB s = pre ++ (gam x ++ rest)):ungB s pre.length = (x,0,(gam x).length):=by
 obtain ⟨g1,g2,g3⟩:=gam_len h0 h
 obtain ⟨_,_,hlt,_⟩:=blen_facts h0 h
 have hl:=bitsB_len s
 rw [hs] at hl
 simp only [List.length_append] at hl
 have hL:8 * s.length - pre.length = (gam x ++ rest).length:=by rw [List.length_append];omega
 have hc:cut s pre.length (gam x ++ rest).length = gam x ++ rest:=by
  unfold cut
  rw [hs,List.drop_left,List.take_of_length_le (Nat.le_refl _)]
 obtain ⟨r,hr⟩:=top_one h0 h
 have hz:nz (gam x ++ rest) = blen x - 1:=by
  rw [gam,List.append_assoc,nz_app_zero (by rw [dg_zero,nz_rep,List.length_replicate]),dg_len,hr]
  simp [nz]
 have hgl:(gam x).length = 2 * (blen x - 1) + 1:=by omega
 unfold ungB
 rw [hL,hc,hz,List.length_append]
 rw [if_neg (by omega),if_neg (by omega),if_neg (by omega)]
 have hcut:cut s (pre.length + (blen x - 1)) (blen x - 1 + 1) = dg (blen x) x:=by
  unfold cut
  rw [hs,← List.drop_drop,List.drop_left,gam,List.append_assoc,List.drop_left' (dg_len _ _),List.take_left' (by rw [dg_len];omega)]
 rw [hcut,num_dg,Nat.mod_eq_of_lt hlt,← hgl]
theorem done_at {s:List UInt8} {pre:List Nat} {k:Nat} (hk:k < 8) (hs:bitsB s = pre ++ List.replicate k 0):doneB s pre.length = true:=by
 have hl:=bitsB_len s
 rw [hs] at hl
 simp only [List.length_append,List.length_replicate] at hl
 have hL:8 * s.length - pre.length = k:=by omega
 unfold doneB
 rw [hL]
 unfold cut
 rw [hs,List.drop_left,List.take_of_length_le (by simp),nz_rep]
 simp [hk]
end BitW
end Go.Proofs.YtnpncpoiiikafaaGreat
namespace Go.Proofs.YtnpncpoiiikafaaGreat
open Go.RowKit
namespace TabW
open LenW (okL okL_at chkL chk0)
open BitW (gam blen ungB ung_at gam_len blen_facts cut cut_len cut_lt cut_app cut_one nz nz_le)
def addR:List (Int × Int) → Int → List (Int × Int)
 | [],x=>[(x,1)]
 | [(y,k)],x=>if y = x then [(y,k + 1)] else [(y,k),(x,1)]
 | p :: q :: r,x=>p :: addR (q :: r) x
def rle:List Int → List (Int × Int)
 | []=>[]
 | x :: l=>match rle l with
  | []=>[(x,1)]
  | (y,k) :: r=>if x = y then (y,k + 1) :: r else (x,1) :: (y,k) :: r
def conR (x:Int):List (Int × Int) → List (Int × Int)
 | []=>[(x,1)]
 | (y,k) :: r=>if x = y then (y,k + 1) :: r else (x,1) :: (y,k) :: r
theorem con_cons (x y k:Int) (r:List (Int × Int)):conR x ((y,k) :: r) = if x = y then (y,k + 1) :: r else (x,1) :: (y,k) :: r:=rfl
theorem rle_cons (x:Int) (l:List Int):rle (x :: l) = conR x (rle l):=by
 rw [rle]
 cases rle l with
 | nil=>rfl
 | cons p r=>rfl
theorem con_add (a x:Int) (R:List (Int × Int)):conR a (addR R x) = addR (conR a R) x:=by
 match R with
 | [] =>
  by_cases h:a = x
  ·simp [addR,conR,h]
  ·simp [addR,conR,h]
 | [(y,k)] =>
  by_cases h:y = x
  ·subst h
   by_cases h2:a = y
   ·subst h2;simp [addR,conR]
   ·simp [addR,conR,h2]
  ·by_cases h2:a = y
   ·subst h2;simp [addR,conR,h]
   ·simp [addR,conR,h,h2]
 | (y,k) :: q :: r =>
  by_cases h2:a = y
  ·subst h2;simp [addR,conR]
  ·simp [addR,conR,h2]
theorem rle_snoc (l:List Int) (x:Int):rle (l ++ [x]) = addR (rle l) x:=by
 induction l with
 | nil=>rfl
 | cons a l ih=>rw [List.cons_append,rle_cons,ih,con_add,← rle_cons]
theorem addR_last {R:List (Int × Int)} {j:Nat} {x k:Int} (hj:R.length = j + 1) (h:R[j]'(by omega) = (x,k)):addR R x = R.set j (x,k + 1):=by
 induction R generalizing j with
 | nil=>simp at hj
 | cons p R ih =>
  cases R with
  | nil =>
   obtain rfl:j = 0:=by simpa using hj
   simp at h
   subst h
   simp [addR]
  | cons q r =>
   obtain ⟨i,rfl⟩:∃ i,j = i + 1:=⟨j - 1,by simp only [List.length_cons] at hj;omega⟩
   rw [addR,ih (j:=i) (by simpa using hj) (by simpa using h)]
   rfl
theorem addR_new {R:List (Int × Int)} {x:Int} (h:∀ (j:Nat) (hj:R.length = j + 1),(R[j]'(by omega)).1 ≠ x):addR R x = R ++ [(x,1)]:=by
 induction R with
 | nil=>rfl
 | cons p R ih =>
  cases R with
  | nil =>
   obtain ⟨y,k⟩:=p
   have:y ≠ x:=h 0 rfl
   simp [addR,this]
  | cons q r =>
   rw [addR,ih (fun j hj=>by have:=h (j + 1) (by simpa using hj);simpa using this)]
   rfl
def expR (R:List (Int × Int)):List Int:=R.flatMap fun r=>List.replicate r.2.toNat r.1
theorem expR_con (x:Int) (R:List (Int × Int)) (h:∀ r ∈ R,0 < r.2):expR (conR x R) = x :: expR R:=by
 cases R with
 | nil=>rfl
 | cons p r =>
  obtain ⟨y,k⟩:=p
  have hk:0 < k:=h (y,k) (by simp)
  by_cases hx:x = y
  ·subst hx
   simp only [conR,if_pos,expR,List.flatMap_cons]
   rw [show (k + 1).toNat = k.toNat + 1 by omega,List.replicate_succ]
   rfl
  ·simp only [conR,if_neg hx,expR,List.flatMap_cons]
   rfl
theorem con_pos (x:Int) (R:List (Int × Int)) (h:∀ r ∈ R,0 < r.2):∀ r ∈ conR x R,0 < r.2:=by
 cases R with
 | nil=>intro r hr;simp [conR] at hr;subst hr;show (0:Int) < 1;decide
 | cons p R =>
  obtain ⟨y,k⟩:=p
  have hk:0 < k:=h (y,k) (by simp)
  have hR:∀ r ∈ R,0 < r.2:=fun r hr=>h r (by simp [hr])
  intro r hr
  rw [con_cons] at hr
  by_cases h2:x = y
  ·rw [if_pos h2] at hr
   rcases List.mem_cons.1 hr with rfl | hr
   ·show 0 < k + 1;omega
   ·exact hR r hr
  ·rw [if_neg h2] at hr
   rcases List.mem_cons.1 hr with rfl | hr
   ·show (0:Int) < 1;decide
   ·exact h r hr
theorem rle_pos (l:List Int):∀ r ∈ rle l,0 < r.2:=by
 induction l with
 | nil=>intro r hr;simp [rle] at hr
 | cons x l ih=>rw [rle_cons];exact con_pos x _ ih
theorem exp_rle (l:List Int):expR (rle l) = l:=by
 induction l with
 | nil=>rfl
 | cons x l ih=>rw [rle_cons,expR_con x _ (rle_pos l),ih]
theorem rle_mem (l:List Int):∀ r ∈ rle l,r.1 ∈ l∧r.2≤l.length:=by
 intro r hr
 have hp:=rle_pos l r hr
 have h1:∀ y ∈ List.replicate r.2.toNat r.1,y ∈ expR (rle l):=fun y hy=>List.mem_flatMap.2 ⟨r,hr,hy⟩
 rw [exp_rle] at h1
 refine ⟨h1 _ (by simp;omega),?_⟩
 have h2:(List.replicate r.2.toNat r.1).Sublist (expR (rle l)):=by
  obtain ⟨a,b,hab⟩:=List.append_of_mem hr
  rw [hab]
  unfold expR
  rw [List.flatMap_append,List.flatMap_cons]
  exact (List.sublist_append_left _ _).trans (List.sublist_append_right _ _)
 rw [exp_rle] at h2
 have:=h2.length_le
 rw [List.length_replicate] at this
 omega
theorem con_len (x:Int) (R:List (Int × Int)):(conR x R).length≤R.length + 1:=by
 cases R with
 | nil=>exact Nat.le_refl _
 | cons p R =>
  obtain ⟨y,k⟩:=p
  rw [con_cons]
  by_cases h:x = y
  ·rw [if_pos h];simp
  ·rw [if_neg h];simp
theorem rle_len (l:List Int):(rle l).length≤l.length:=by
 induction l with
 | nil=>exact Nat.le_refl _
 | cons x l ih =>
  rw [rle_cons,List.length_cons]
  have:=con_len x (rle l)
  omega
def apartR:List (Int × Int) → Prop
 | p :: q :: r=>p.1 ≠ q.1∧apartR (q :: r)
 | _=>True
theorem con_apart (x:Int) (R:List (Int × Int)) (h:apartR R):apartR (conR x R):=by
 match R with
 | []=>trivial
 | [(y,k)] =>
  by_cases hx:x = y
  ·simp [conR,hx,apartR]
  ·simp [conR,hx,apartR]
 | (y,k) :: q :: r =>
  by_cases hx:x = y
  ·simp [conR,hx,apartR] at h ⊢;exact h
  ·simp [conR,hx,apartR] at h ⊢;exact h
theorem rle_apart (l:List Int):apartR (rle l):=by
 induction l with
 | nil=>trivial
 | cons x l ih=>rw [rle_cons];exact con_apart x _ ih
theorem apart_app {A:List (Int × Int)} {p q:Int × Int} {B:List (Int × Int)} (h:apartR (A ++ p :: q :: B)):p.1 ≠ q.1:=by
 induction A with
 | nil=>exact h.1
 | cons a A ih =>
  cases A with
  | nil=>exact ih h.2
  | cons b A=>exact ih h.2
theorem rle_app (l:List Int) (x:Int) (m:Nat) (h:∀ (j:Nat) (hj:(rle l).length = j + 1),((rle l)[j]'(by omega)).1 ≠ x):rle (l ++ List.replicate (m + 1) x) = rle l ++ [(x,((m + 1:Nat):Int))]:=by
 induction m with
 | zero =>
  rw [show List.replicate (0 + 1) x = [x] from rfl,rle_snoc,addR_new h]
  rfl
 | succ m ih =>
  rw [List.replicate_succ',← List.append_assoc,rle_snoc,ih]
  rw [addR_last (j:=(rle l).length) (x:=x) (k:=((m + 1:Nat):Int)) (by simp) (by simp)]
  rw [List.set_append_right _ _ (Nat.le_refl _)]
  simp
def runB (r:Int × Int):List Nat:=dg 4 r.1.toNat ++ gam r.2.toNat
def runsB (R:List (Int × Int)):List Nat:=R.flatMap runB
def tabB (l:List Int):List Nat:=runsB (rle l)
theorem runsB_app (a b:List (Int × Int)):runsB (a ++ b) = runsB a ++ runsB b:=by simp [runsB]
theorem runsB_snoc (R:List (Int × Int)) (k:Nat) (h:k < R.length):runsB (R.take (k + 1)) = runsB (R.take k) ++ runB R[k]:=by
 rw [List.take_succ_eq_append_getElem h,runsB_app]
 simp [runsB]
theorem gam_lt2 (n:Nat):∀ d ∈ gam n,d < 2:=by
 intro d hd
 unfold gam at hd
 rw [List.mem_append] at hd
 exact hd.elim (dg_lt _ _ d) (dg_lt _ _ d)
theorem runsB_lt (R:List (Int × Int)):∀ d ∈ runsB R,d < 2:=by
 intro d hd
 obtain ⟨r,_,hd⟩:=List.mem_flatMap.1 hd
 unfold runB at hd
 rw [List.mem_append] at hd
 exact hd.elim (dg_lt _ _ d) (gam_lt2 _ d)
def goodR (r:Int × Int):Prop:=0≤r.1∧r.1≤15∧1≤r.2∧r.2≤257
theorem rle_good {l:List Int} (hk:chkL l = 0):∀ r ∈ rle l,goodR r:=by
 intro r hr
 obtain ⟨h257,hok,_⟩:=chk0 hk
 obtain ⟨h1,h2⟩:=rle_mem l r hr
 have h3:=rle_pos l r hr
 obtain ⟨i,hi,he⟩:=List.getElem_of_mem h1
 have:=okL_at l i hi hok
 rw [he] at this
 exact ⟨this.1,this.2,by omega,by omega⟩
theorem runB_len {r:Int × Int} (h:goodR r):(runB r).length≤67:=by
 obtain ⟨h1,h2,h3,h4⟩:=h
 have:=gam_len (x:=r.2.toNat) (by omega) (by omega)
 unfold runB
 rw [List.length_append,dg_len]
 omega
theorem runsB_len (R:List (Int × Int)) (h:∀ r ∈ R,goodR r):(runsB R).length≤67 * R.length:=by
 induction R with
 | nil=>simp [runsB]
 | cons r R ih =>
  have h1:=runB_len (h r (by simp))
  have h2:=ih (fun r hr=>h r (by simp [hr]))
  have e:runsB (r :: R) = runB r ++ runsB R:=by simp [runsB]
  rw [e,List.length_append,List.length_cons]
  omega
end TabW
end Go.Proofs.YtnpncpoiiikafaaGreat
namespace Go.Proofs.YtnpncpoiiikafaaGreat
open Go.RowKit
namespace TabW
open LenW (okL okL_at chkL chk0)
open BitW (gam blen ungB ung_at gam_len blen_eq dg_zero blen_facts cut cut_len cut_lt cut_app cut_one nz nz_le getB_yes getB_short)
theorem nz_split (l:List Nat) (h:nz l < l.length) (h2:∀ d ∈ l,d < 2):∃ r,l = List.replicate (nz l) 0 ++ 1 :: r:=by
 induction l with
 | nil=>simp [nz] at h
 | cons d l ih =>
  by_cases hd:d = 0
  ·subst hd
   rw [nz,if_pos rfl] at h ⊢
   obtain ⟨r,hr⟩:=ih (by simpa using h) (fun d hd=>h2 d (by simp [hd]))
   exact ⟨r,by rw [List.replicate_succ,List.cons_append,← hr]⟩
  ·have:d = 1:=by have:=h2 d (by simp);omega
   subst this
   rw [nz,if_neg hd]
   exact ⟨l,rfl⟩
theorem ung_conv {s:List UInt8} {p n k:Nat} (hp:p≤8 * s.length) (h:ungB s p = (n,0,k)):p + k≤8 * s.length∧0 < n∧n < 2 ^ 32∧cut s p k = gam n:=by
 unfold ungB at h
 obtain ⟨L,hL⟩:∃ L,8 * s.length - p = L:=⟨_,rfl⟩
 rw [hL] at h
 have hcl:=cut_len s p L (by omega)
 have hle:=nz_le (cut s p L)
 rw [hcl] at hle
 have hsp:=fun q=>nz_split (cut s p L) q (cut_lt s p L)
 rw [hcl] at hsp
 generalize hz:nz (cut s p L) = z at *
 by_cases c1:L = 0 ∨ z = L
 ·rw [if_pos c1] at h;simp at h
 ·rw [if_neg c1] at h
  by_cases c2:32≤z
  ·rw [if_pos c2] at h;simp at h
  ·rw [if_neg c2] at h
   by_cases c3:L < 2 * z + 1
   ·rw [if_pos c3] at h;simp at h
   ·rw [if_neg c3] at h
    simp only [Prod.mk.injEq] at h
    obtain ⟨rfl,_,rfl⟩:=h
    obtain ⟨r,hr⟩:=hsp (by omega)
    have e1:cut s p L = cut s p z ++ cut s (p + z) (L - z):=by rw [← cut_app,show z + (L - z) = L by omega]
    have e2:=cut_len s p z (by omega)
    rw [e1] at hr
    obtain ⟨e3,e4⟩:=List.append_inj hr (by rw [e2,List.length_replicate])
    have e5:cut s (p + z) (L - z) = cut s (p + z) (z + 1) ++ cut s (p + z + (z + 1)) (L - z - (z + 1)):=by rw [← cut_app,show z + 1 + (L - z - (z + 1)) = L - z by omega]
    have e6:=cut_len s (p + z) (z + 1) (by omega)
    obtain ⟨t,ht⟩:∃ t,cut s (p + z) (z + 1) = 1 :: t:=by
     rw [e5] at e4
     cases hc:cut s (p + z) (z + 1) with
     | nil=>rw [hc] at e6;simp at e6
     | cons a t=>rw [hc] at e4;simp only [List.cons_append,List.cons.injEq] at e4;exact ⟨t,by rw [e4.1]⟩
    have htl:t.length = z:=by rw [ht] at e6;simpa using e6
    have hn:=num_app [1] t
    have ht2:=num_lt t (fun d hd=>cut_lt s (p + z) (z + 1) d (by rw [ht];simp [hd]))
    rw [htl] at hn ht2
    have hlow:2 ^ z≤num (cut s (p + z) (z + 1)):=by rw [ht,show (1 :: t) = [1] ++ t from rfl,hn];simp [num]
    have hup:num (cut s (p + z) (z + 1)) < 2 ^ (z + 1):=by
     have:=num_lt (cut s (p + z) (z + 1)) (cut_lt s (p + z) (z + 1))
     rwa [e6] at this
    have h32:(2:Nat) ^ (z + 1)≤2 ^ 32:=Nat.pow_le_pow_right (by omega) (by omega)
    have hz0:0 < (2:Nat) ^ z:=Nat.pow_pos (by omega)
    have hdn:=dg_num (cut s (p + z) (z + 1)) (cut_lt s (p + z) (z + 1))
    rw [e6] at hdn
    refine ⟨by omega,by omega,by omega,?_⟩
    have hb:=blen_eq (x:=num (cut s (p + z) (z + 1))) (k:=z) (by omega) hlow hup
    unfold gam
    rw [hb,Nat.add_sub_cancel,dg_zero,hdn,← e3,← cut_app,show z + (z + 1) = 2 * z + 1 by omega]
def getT (s:List UInt8) (n:Nat):Nat → Nat → List Int → Int → List Int × Nat × Int
 | 0,_,_,_=>([],0,0)
 | f + 1,p,acc,last =>
  if n≤acc.length then (if chkL acc = 0 then (acc,p,0) else ([],0,chkL acc))
  else if (getB (bitsB s) p 4).2 ≠ 0 then ([],0,(getB (bitsB s) p 4).2)
  else if (ungB s (p + 4)).2.1 ≠ 0 then ([],0,(ungB s (p + 4)).2.1)
  else if (getB (bitsB s) p 4).1 = last then ([],0,5)
  else if (n:Int) - (acc.length:Nat) < ((ungB s (p + 4)).1:Nat) then ([],0,40)
  else getT s n f (p + 4 + (ungB s (p + 4)).2.2) (acc ++ List.replicate (ungB s (p + 4)).1 (getB (bitsB s) p 4).1) (getB (bitsB s) p 4).1
def tabG (s:List UInt8) (n:Nat):List Int × Nat × Int:=getT s n (n + 1) 0 [] (-1)
theorem getB_conv {s:List UInt8} {p:Nat} (h:(getB (bitsB s) (p:Nat) 4).2 = 0):p + 4≤8 * s.length∧∃ x:Nat,(getB (bitsB s) (p:Nat) 4).1 = (x:Int)∧dg 4 x = cut s p 4:=by
 have hl:=bitsB_len s
 by_cases h1:((bitsB s).length:Int) < (p:Int) + 4
 ·rw [getB_short (by omega) h1] at h;simp at h
 ·have e:=getB_yes (l:=bitsB s) (p:=p) (w:=4) (by omega) (by omega)
  refine ⟨by omega,num (((bitsB s).drop p).take 4),?_,?_⟩
  ·rw [show (4:Int) = ((4:Nat):Int) from rfl,e]
  ·have h3:=dg_num (cut s p 4) (cut_lt s p 4)
   rw [cut_len s p 4 (by omega)] at h3
   exact h3
theorem getT_forms (s:List UInt8) (n:Nat):∀ (f p:Nat) (acc:List Int) (last:Int) (x:List Int × Nat × Int),p≤8 * s.length → acc.length≤n → n - acc.length < f → tabB acc = (bitsB s).take p → (∀ (j:Nat) (hj:(rle acc).length = j + 1),((rle acc)[j]'(by omega)).1 = last) →
 getT s n f p acc last = x → x.2.2 = 0 → x.1.length = n∧chkL x.1 = 0∧x.2.1≤8 * s.length∧tabB x.1 = (bitsB s).take x.2.1:=by
 intro f
 induction f with
 | zero=>intro p acc last x _ _ h;omega
 | succ f ih =>
  intro p acc last x hp ha hf ht hl hx he
  unfold getT at hx
  by_cases h1:n≤acc.length
  ·rw [if_pos h1] at hx
   by_cases h2:chkL acc = 0
   ·rw [if_pos h2] at hx;subst hx;exact ⟨by dsimp only;omega,h2,hp,ht⟩
   ·rw [if_neg h2] at hx;subst hx;exact absurd he h2
  ·rw [if_neg h1] at hx
   by_cases h2:(getB (bitsB s) p 4).2 ≠ 0
   ·rw [if_pos h2] at hx;subst hx;exact absurd he h2
   ·rw [if_neg h2] at hx
    by_cases h3:(ungB s (p + 4)).2.1 ≠ 0
    ·rw [if_pos h3] at hx;subst hx;exact absurd he h3
    ·rw [if_neg h3] at hx
     by_cases h4:(getB (bitsB s) p 4).1 = last
     ·rw [if_pos h4] at hx;subst hx;exact absurd he (by decide)
     ·rw [if_neg h4] at hx
      by_cases h5:(n:Int) - (acc.length:Nat) < ((ungB s (p + 4)).1:Nat)
      ·rw [if_pos h5] at hx;subst hx;exact absurd he (by decide)
      ·rw [if_neg h5] at hx
       obtain ⟨b1,y,b2,b3⟩:=getB_conv (s:=s) (p:=p) (by simpa using h2)
       rcases hu:ungB s (p + 4) with ⟨k,er,sz⟩
       rw [hu] at h3 h5 hx
       have her:er = 0:=by simpa using h3
       subst her
       obtain ⟨u1,u2,u3,u4⟩:=ung_conv b1 hu
       dsimp only at h5 hx
       rw [b2] at h4 hx
       obtain ⟨m,rfl⟩:∃ m,k = m + 1:=⟨k - 1,by omega⟩
       have hra:=rle_app acc (y:Int) m (fun j hj=>by rw [hl j hj];exact fun e=>h4 e.symm)
       refine ih (p + 4 + sz) _ _ x (by omega) (by rw [List.length_append,List.length_replicate];omega) (by rw [List.length_append,List.length_replicate];omega) ?_ ?_ hx he
       ·unfold tabB at ht ⊢
        rw [hra,runsB_app,ht]
        have e1:runsB [((y:Int),((m + 1:Nat):Int))] = cut s p 4 ++ cut s (p + 4) sz:=by
         rw [u4,← b3];simp [runsB,runB]
        rw [e1,← cut_app]
        unfold cut
        rw [Nat.add_assoc]
        exact List.take_add.symm
       ·intro j hj
        have:j = (rle acc).length:=by rw [hra] at hj;simpa using hj.symm
        subst this
        simp [hra]
theorem getT_back (s:List UInt8) (l:List Int) (hk:chkL l = 0) (rest:List Nat) (hs:bitsB s = tabB l ++ rest):∀ (R2 R1:List (Int × Int)) (f:Nat) (last:Int),R1 ++ R2 = rle l → R2.length < f → ((R1 = []∧last = -1) ∨ ∃ A q,R1 = A ++ [q]∧last = q.1) →
 getT s l.length f (runsB R1).length (expR R1) last = (l,(tabB l).length,0):=by
 have hg:=rle_good hk
 have hsl:=bitsB_len s
 intro R2
 induction R2 with
 | nil =>
  intro R1 f last h1 hf hl
  obtain ⟨f,rfl⟩:∃ g,f = g + 1:=⟨f - 1,by simp at hf;omega⟩
  rw [List.append_nil] at h1
  subst h1
  rw [exp_rle,getT,if_pos (Nat.le_refl _),if_pos hk]
  rfl
 | cons r R2 ih =>
  intro R1 f last h1 hf hl
  obtain ⟨f,rfl⟩:∃ g,f = g + 1:=⟨f - 1,by simp at hf;omega⟩
  have hmem:r ∈ rle l:=by rw [← h1];simp
  obtain ⟨g1,g2,g3,g4⟩:=hg r hmem
  have hexp:expR R1 ++ (List.replicate r.2.toNat r.1 ++ expR R2) = l:=by
   have:=exp_rle l
   rw [← h1] at this
   unfold expR at this ⊢
   rw [List.flatMap_append,List.flatMap_cons] at this
   exact this
  have hlen:(expR R1).length + (r.2.toNat + (expR R2).length) = l.length:=by
   have:=congrArg List.length hexp
   simpa using this
  have hbits:bitsB s = runsB R1 ++ (dg 4 r.1.toNat ++ (gam r.2.toNat ++ (runsB R2 ++ rest))):=by
   rw [hs]
   unfold tabB
   rw [← h1,runsB_app]
   have:runsB (r :: R2) = dg 4 r.1.toNat ++ gam r.2.toNat ++ runsB R2:=by simp [runsB,runB]
   rw [this]
   simp
  have hbl:=congrArg List.length hbits
  rw [hsl] at hbl
  simp only [List.length_append,dg_len] at hbl
  have hB:getB (bitsB s) ((runsB R1).length:Nat) 4 = (r.1,0):=by
   rw [show (4:Int) = ((4:Nat):Int) from rfl,getB_yes (by omega) (by rw [hsl];omega),hbits,List.drop_left,List.take_left' (dg_len _ _),num_dg,Nat.mod_eq_of_lt (by omega)]
   rw [Int.toNat_of_nonneg g1]
  have hU:ungB s ((runsB R1).length + 4) = (r.2.toNat,0,(gam r.2.toNat).length):=by
   have:=ung_at (s:=s) (pre:=runsB R1 ++ dg 4 r.1.toNat) (rest:=runsB R2 ++ rest) (x:=r.2.toNat) (by omega) (by omega) (by rw [hbits,List.append_assoc])
   rwa [List.length_append,dg_len] at this
  have hne:r.1 ≠ last:=by
   rcases hl with ⟨_,rfl⟩ | ⟨A,q,rfl,rfl⟩
   ·omega
   ·have:=rle_apart l
    rw [← h1,List.append_assoc] at this
    exact fun e=>apart_app this e.symm
  rw [getT,if_neg (by omega),hB,hU]
  rw [if_neg (by simp),if_neg (by simp),if_neg hne,if_neg (by dsimp only;omega)]
  dsimp only
  have e1:(runsB R1).length + 4 + (gam r.2.toNat).length = (runsB (R1 ++ [r])).length:=by
   rw [runsB_app];simp [runsB,runB,dg_len];omega
  have e2:expR R1 ++ List.replicate r.2.toNat r.1 = expR (R1 ++ [r]):=by simp [expR]
  rw [e1,e2]
  exact ih (R1 ++ [r]) f r.1 (by rw [List.append_assoc];exact h1) (by simp at hf;omega) (.inr ⟨R1,r,rfl,rfl⟩)
theorem tab_forms (s:List UInt8) (n:Nat) (x:List Int × Nat × Int) (hx:tabG s n = x) (he:x.2.2 = 0):x.1.length = n∧chkL x.1 = 0∧x.2.1≤8 * s.length∧tabB x.1 = (bitsB s).take x.2.1 :=
 getT_forms s n (n + 1) 0 [] (-1) x (by omega) (by simp) (by simp) rfl (fun j hj=>by simp [rle] at hj) hx he
end TabW
end Go.Proofs.YtnpncpoiiikafaaGreat
