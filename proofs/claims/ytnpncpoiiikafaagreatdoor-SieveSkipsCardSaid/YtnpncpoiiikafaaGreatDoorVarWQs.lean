/- VarW -/
import Derived.Test.YtnpncpoiiikafaaGreatDoorZruPQs
import Derived.Test.YtnpncpoiiikafaaGreatDoorAppQs
import Derived.WalkMore
import Derived.ScopeJumps
import Derived.Deep.LoopGhost
import Derived.Test.YtnpncpoiiikafaaGreatDoorMemQs
set_option linter.unusedVariables false
set_option linter.unusedSimpArgs false
set_option linter.unnecessarySimpa false
namespace Go.Proofs.YtnpncpoiiikafaaGreatDoor
open Go.RowKit
namespace VarW
theorem El_u8:El Tryz.prog 62 5 1 1:=El.mk' Tryz.underlying62 (z:=.int .u8 0) (by kernel_rfl) rfl (by decide)
abbrev tri (x:Int × Int × Int):Value:=.tuple #[.int .i64 x.1,.int .i64 x.2.1,.int .i64 x.2.2]
theorem get_no (s:List UInt8) (a:Int) (w:World) (h:a < 0 ∨ (s.length:Int) < a) :
    Calls Tryz.prog 63 #[str s,.int .i64 a] w fun e w'=>e = .returned (tri (0,0,2))∧w' = w:=by
  have h':a < 0 ∨ (¬ a < 0∧(s.length:Int) < a):=by omega
  clear h
  rcases h' with h | ⟨h,h2⟩
  all_goals
    go_enter Tryz.func63,Tryz.ntmps63
    go_wp2_with fail
    go_step3
    go_wp2_with fail
    try rw [Exit.noGoto_ret]
    go_ret3
    exact ⟨rfl,rfl⟩
set_option maxRecDepth 100000 in
set_option maxHeartbeats 2000000 in
theorem get_yes (s:List UInt8) (p:Nat) (w:World) (hs:s.length≤9223372036854775807) (hp:p≤s.length) (x:Int × Int × Int) (hx:getV s p = x) :
    Calls Tryz.prog 63 #[str s,.int .i64 p] w fun e w'=>e = .returned (tri x)∧w' = w:=by
  rw [getV_in hp] at hx
  have HX:=Lib.hid hx
  clear hx
  have hp0:(p:Int)≤(s.length:Int):=by omega
  have hp1:¬ (p:Int) < 0:=by omega
  have hd1:decide ((p:Int) < 0) = false:=decide_eq_false hp1
  have hd2:decide ((s.length:Int) < (p:Int)) = false:=decide_eq_false (by omega)
  have hd3:decide (s.length < p) = false:=decide_eq_false (by omega)
  go_enter Tryz.func63,Tryz.ntmps63
  go_wp2_with fail
  go_step3
  go_wp2_with fail
  go_step3
  go_wp2_with fail
  go_loop [4,7,8] (fun n sh i=>∃ j v:Nat,i = .int .i64 ((p:Int) + (j:Int))∧sh = .int .i64 (7 * (j:Int))∧n = .int .i64 v∧v < 128 ^ j∧j≤9∧p + j≤s.length∧resV p j v (vdec (9 - j) (decide (j = 0)) (s.drop (p + j))) = x) (fun _ _ i=>s.length - (intOf i).toNat)
  case atStart=>exact ⟨0,0,by simp,by simp,rfl,by decide,by omega,by omega,HX.out⟩
  case round =>
    obtain ⟨j,v,rfl,rfl,rfl,hv,hj,hpj,hr⟩:=hrel
    have HV:=Lib.hid hv
    have HR:=Lib.hid hr
    clear hv hr
    by_cases hj9:j < 9
    · obtain ⟨f,hf⟩:∃ f,9 - j = f + 1:=⟨8 - j,by omega⟩
      by_cases hlt:p + j < s.length
      · obtain ⟨b,hb,hb'⟩:∃ b,(⟨s.toArray⟩:ByteArray)[p + j]'(by show p + j < s.toArray.size;simpa using hlt) = b∧s[p + j] = b:=⟨_,rfl,rfl⟩
        have hb256:b.toNat < 256:=b.toNat_lt
        obtain ⟨o1,o2,o3⟩:=or7 v j b.toNat HV.out hb256 hj9
        have O1:=Lib.hid o1
        have O2:=Lib.hid o2
        have HF:=Lib.hid hf
        have HB':=Lib.hid hb'
        have hlI:(p:Int) + (j:Int) < (s.length:Int):=by omega
        have hjI:7 * (j:Int) < 63:=by omega
        clear o1 o2 o3 hf hb'
        by_cases hbig:128≤b.toNat
        · go_wp2_with fail
          go_round
          case rel =>
            refine ⟨j + 1,v + (b.toNat % 128) * 128 ^ j,by first | go_num | (congr 1 <;> omega),by first | go_num | (congr 1 <;> omega),by rw [O1.out],O2.out,by omega,by omega,?_⟩
            have h1:=HR.out
            rw [HF.out,vdec_more f _ s (p + j) hlt (by rw [HB'.out];exact hbig),HB'.out] at h1
            rw [show 9 - (j + 1) = f from by have:=HF.out;omega,show decide (j + 1 = 0) = false from by simp]
            exact h1
          case measure=>simp [intOf];omega
        · by_cases hz:b.toNat = 0∧0 < j
          · obtain ⟨hz1,hz2⟩:=hz
            have hx:x = (0,0,5):=by
              have h1:=HR.out
              rw [HF.out,show decide (j = 0) = false from by simp;omega,vdec_zero f s (p + j) hlt (by rw [HB'.out];exact hz1)] at h1
              exact h1.symm
            subst hx
            have hgt:(p:Int) < (p:Int) + (j:Int):=by omega
            go_wp2_with fail
            try rw [Exit.noGoto_ret]
            go_ret3
            exact ⟨rfl,rfl⟩
          · have hx:x = (((v + b.toNat * 128 ^ j:Nat):Int),((p + j + 1:Nat):Int),0):=by
              have h1:=HR.out
              rw [HF.out,vdec_last f _ s (p + j) hlt (by rw [HB'.out];omega) (by rw [HB'.out];intro h;simp;omega),HB'.out] at h1
              exact h1.symm
            subst hx
            have hmod:b.toNat % 128 = b.toNat:=by omega
            have O1':Hid (bits .or .i64 (v:Int) (wrap64 (wrap64 (bits .and .u8 (b.toNat:Int) 127) * 2 ^ (7 * j))) = ((v + b.toNat * 128 ^ j:Nat):Int)):=Lib.hid (by have:=O1.out;rwa [hmod] at this)
            have hgz:b.toNat = 0 → j = 0:=by omega
            clear hmod hz
            by_cases hb0:b.toNat = 0
            · have hb0I:((b.toNat:Int) == 0) = true:=by rw [beq_iff_eq];omega
              have hgt:¬ (p:Int) < (p:Int) + (j:Int):=by omega
              have hgd:decide ((p:Int) < (p:Int) + (j:Int)) = false:=decide_eq_false hgt
              clear hb0 hgz
              go_wp2_with fail
              try rw [Exit.noGoto_ret]
              go_ret3
              refine ⟨?_,rfl⟩
              rw [O1'.out]
              congr 1
            · have hb0I:((b.toNat:Int) == 0) = false:=by rw [beq_eq_false_iff_ne];omega
              clear hgz
              go_wp2_with fail
              try rw [Exit.noGoto_ret]
              go_ret3
              refine ⟨?_,rfl⟩
              rw [O1'.out]
              congr 1
      · have hx:x = (0,0,4):=by
          have h1:=HR.out
          rw [hf,vdec_short f _ s (p + j) (by omega)] at h1
          exact h1.symm
        subst hx
        clear hf
        have hlI:¬ (p:Int) + (j:Int) < (s.length:Int):=by omega
        have hjI:7 * (j:Int) < 63:=by omega
        go_wp2_with fail
        try rw [Exit.noGoto_ret]
        go_ret3
        exact ⟨rfl,rfl⟩
    · have hx:x = (0,0,5):=by
        have h1:=HR.out
        rw [show 9 - j = 0 from by omega,vdec_full] at h1
        exact h1.symm
      subst hx
      have hjI:¬ 7 * (j:Int) < 63:=by omega
      by_cases hlt:p + j < s.length
      · have hlI:(p:Int) + (j:Int) < (s.length:Int):=by omega
        go_wp2_with fail
        try rw [Exit.noGoto_ret]
        go_ret3
        exact ⟨rfl,rfl⟩
      · have hlI:¬ (p:Int) + (j:Int) < (s.length:Int):=by omega
        go_wp2_with fail
        try rw [Exit.noGoto_ret]
        go_ret3
        exact ⟨rfl,rfl⟩
theorem get_any (s:List UInt8) (a:Int) (w:World) (hs:s.length≤9223372036854775807) (x:Int × Int × Int) (hx:getV s a = x) :
    Calls Tryz.prog 63 #[str s,.int .i64 a] w fun e w'=>e = .returned (tri x)∧w' = w:=by
  by_cases h:a < 0 ∨ (s.length:Int) < a
  · rw [getV_out h] at hx
    subst hx
    exact get_no s a w h
  · obtain ⟨p,rfl⟩:=Int.eq_ofNat_of_zero_le (show 0≤a by omega)
    exact get_yes s p w hs (by omega) x hx
theorem byt_of (n:Nat) (h:n < 256):Value.int .u8 (n:Int) = byt (UInt8.ofNat n):=by
  simp only [byt,UInt8.toNat_ofNat']
  rw [Nat.mod_eq_of_lt h]
theorem byts_app (l m:List UInt8):byts (l ++ m) = byts l ++ byts m:=by simp [byts]
set_option maxRecDepth 100000 in
set_option maxHeartbeats 2000000 in
theorem add_any (A:Option Addr) (n c base:Nat) (l:List UInt8) (x:Nat) (w:World) (hx:x≤9223372036854775807) (h:AppOk w base 5 1 A n c (byts l)) (hn:n≤1000000000) (hb:base≤w.heap.size) :
    Calls Tryz.prog 36 #[.slice A n c,.int .i64 x] w fun e w'=>∃ A' c',e = .returned (.slice A' (n + vlen x) c')∧Own w' base 5 1 A' (n + vlen x) c' (byts (l ++ vbytes x))∧Below base w w':=by
  have hv9:=vlen_le x
  go_enter Tryz.func36,Tryz.ntmps36
  go_wp2_with fail
  go_loopw [0,1] (fun s y wr=>∃ (a f:Nat) (A1:Option Addr) (n1 c1:Nat) (l1:List UInt8),y = .int .i64 a∧s = .slice A1 n1 c1∧a≤x∧a < 128 ^ f∧0 < f∧f≤9∧n1 + vl f a = n + vlen x∧l1 ++ vput f a = l ++ vbytes x ∧
      AppOk wr base 5 1 A1 n1 c1 (byts l1)∧Below base w wr) (fun _ y _=>(intOf y).toNat)
  case atStart=>exact ⟨x,9,A,n,c,l,rfl,rfl,by omega,by omega,by omega,by omega,rfl,rfl,h,Below.refl _ _⟩
  case round =>
    obtain ⟨a,f,A1,n1,c1,l1,rfl,rfl,ha,haf,hf,hf9,hnl,hll,ho,hbw⟩:=hrel
    have hsz:=hbw.size
    have hvl:=vl_le f a
    have HNL:=Lib.hid hnl
    have HLL:=Lib.hid hll
    have HAF:=Lib.hid haf
    have hn1:n1≤1000000009:=by omega
    obtain ⟨f,rfl⟩:∃ g,f = g + 1:=⟨f - 1,by omega⟩
    clear hnl hll haf hvl
    by_cases hp:128≤a
    · have hby:[Value.int .u8 (bits .or .u8 ((a:Int) % 256) 128)] = byts [UInt8.ofNat (128 + a % 128)]:=by
        rw [show (a:Int) % 256 = ((a % 256:Nat):Int) from by omega,bits_u8_128 (a % 256) (by omega),show a % 256 % 128 = a % 128 from by omega,byt_of _ (by omega)]
        rfl
      have HBY:=Lib.hid hby
      have hv:vput (f + 1) a = UInt8.ofNat (128 + a % 128) :: vput f (a / 128):=by rw [vput,if_neg (by omega)]
      have hl:vl (f + 1) a = 1 + vl f (a / 128):=by rw [vl,if_neg (by omega)]
      have HV:=Lib.hid hv
      have HL:=Lib.hid hl
      have haf:a / 128 < 128 ^ f:=by
        rw [Nat.div_lt_iff_lt_mul (by omega)];have:=HAF.out;rw [Nat.pow_succ] at this;exact this
      have hf1:0 < f:=by
        rcases Nat.eq_zero_or_pos f with h | h
        · subst h;have:=HAF.out;omega
        · exact h
      have HAF':=Lib.hid haf
      clear hby hv hl haf
      go_wp2_with (at_builtin;with_reducible refine wp_append_ok El_u8 rfl (s:=.tmp 9) (x:=.tmp 13) rfl rfl (ho.alloc _) rfl (rd_new (cs:=[Value.int .u8 (bits .or .u8 ((a:Int) % 256) 128)]) (m:=1) rfl rfl) (by omega) (by simp [Value.oneCell']) (by unfold maxLen;omega) (by omega) (by simp;omega) ?_;intro A4 c4 w4 row o4 hg4 hr4)
      have hb4:=Below.grown hbw (grown_alloc hg4) (by omega) hr4
      go_roundw
      case rel =>
        refine ⟨a / 128,f,A4,n1 + 1,c4,l1 ++ [UInt8.ofNat (128 + a % 128)],by go_num,rfl,by omega,HAF'.out,hf1,by omega,?_,?_,.inl ?_,hb4⟩
        · have:=HNL.out;rw [HL.out] at this;omega
        · rw [← HLL.out,HV.out];simp
        · rw [byts_app,← HBY.out];exact o4
      case measure=>simp [intOf];omega
    · have hby:[Value.int .u8 (a:Int)] = byts [UInt8.ofNat a]:=by
        rw [byt_of _ (by omega)];rfl
      have HBY:=Lib.hid hby
      have HV:=Lib.hid (show vput (f + 1) a = [UInt8.ofNat a] by rw [vput,if_pos (by omega)])
      have HL:=Lib.hid (show vl (f + 1) a = 1 by rw [vl,if_pos (by omega)])
      clear hby
      go_wp2_with (at_builtin;with_reducible refine wp_append_ok El_u8 rfl (s:=.tmp 15) (x:=.tmp 18) rfl rfl (ho.alloc _) rfl (rd_new (cs:=[Value.int .u8 (a:Int)]) (m:=1) rfl rfl) (by omega) (by simp [Value.oneCell']) (by unfold maxLen;omega) (by omega) (by simp;omega) ?_;intro A4 c4 w4 row o4 hg4 hr4)
      have hb4:=Below.grown hbw (grown_alloc hg4) (by omega) hr4
      go_ret
      have e1:n1 + 1 = n + vlen x:=by have:=HNL.out;rw [HL.out] at this;exact this
      refine ⟨A4,c4,by rw [e1];rfl,?_,hb4⟩
      · rw [← HLL.out,HV.out,byts_app,← HBY.out,← e1];exact o4
set_option maxRecDepth 100000 in
set_option maxHeartbeats 1000000 in
theorem put_yes (x:Nat) (w:World) (hx:x≤9223372036854775807) :
    Calls Tryz.prog 21 #[.int .i64 x] w fun e w'=>e = .returned (.tuple #[str (vbytes x),.int .i64 0])∧Below w.heap.size w w':=by
  have hmk:∀ w,(Instr.makeSlice 62 (.int .i64 0) (.int .i64 9)).run Tryz.prog w = .ok (.slice (some ⟨w.heap.size,0,none⟩) 0 9) (w.alloc (.cells (Array.replicate 9 (.int .u8 0)) 5)):=fun _=>by kernel_rfl
  have HV:=Lib.hid (show vbytes x = [] ++ vbytes x from rfl)
  go_enter Tryz.func21,Tryz.ntmps21
  go_wp2_with fail
  have o0:Own (w.alloc (.cells (Array.replicate 9 (.int .u8 0)) 5)) w.heap.size 5 1 (some ⟨w.heap.size,0,none⟩) 0 9 (byts []):=by
    have:=own_made (W0:=w) (t:=5) (base:=w.heap.size) (n:=0) (c:=9) (size:=1) (cs:=Array.replicate 9 (.int .u8 0)) rfl (by omega) (by simp) (Nat.le_refl _) (by decide)
    simpa [byts] using this
  refine (add_any (some ⟨w.heap.size,0,none⟩) 0 9 w.heap.size [] x _ hx (.inl o0) (by omega) (by simp)).mono ?_
  rintro e w1 ⟨A1,c1,rfl,o1,hb0⟩
  have hcv:=run_bytes_str (P:=Tryz.prog) w1 (c:=c1) Tryz.underlying62 Tryz.underlying5 Tryz.underlying9 o1.rd
  rw [← HV.out] at hcv
  rw [Nat.zero_add] at hcv
  have hb1:Below w.heap.size w w1:=Below.trans (by first | exact Below.refl _ _ | (repeat (first | exact Below.refl _ _ | assumption | refine Below.drew ?_ | refine Below.drewN_ ?_ _ | refine Below.alloc ?_ (by first | exact Nat.le_refl _ | (simp;done) | (simp;omega) | omega) _ | refine Below.setCell ?_ (by first | exact Nat.le_refl _ | (simp;done) | (simp;omega) | omega) _ | (refine Below.trans ?_ (Below.mono (by assumption) (by first | exact Nat.le_refl _ | (simp;done) | (simp;omega) | omega)))))) hb0
  clear hmk
  go_wp2_with fail
  go_ret2
  exact ⟨rfl,hb1⟩
end VarW
end Go.Proofs.YtnpncpoiiikafaaGreatDoor
namespace Go.Proofs.YtnpncpoiiikafaaGreatDoor
open Go.RowKit
namespace VarW
def fitsB (n:Int) (k:Nat):Bool:=decide (0≤n) && decide (n < (256:Int) ^ k)
end VarW
end Go.Proofs.YtnpncpoiiikafaaGreatDoor
namespace Go.Proofs.YtnpncpoiiikafaaGreatDoor
open Go.RowKit
namespace VarW
theorem ofNat_lt (n:Nat) (h:n < 256):(UInt8.ofNat n).toNat = n:=by simp;omega
theorem vdec_put (f:Nat):∀ (n:Nat) (fst:Bool) (r:List UInt8),n < 128 ^ f → 0 < f → (fst = true ∨ 0 < n) → vdec f fst (vput f n ++ r) = (n,vl f n,0):=by
  induction f with
  | zero=>intro n fst r _ h;omega
  | succ f ih =>
    intro n fst r hn _ hz
    by_cases hs:n < 128
    · rw [vput,if_pos hs,vl,if_pos hs,List.singleton_append,vdec,ofNat_lt n (by omega),if_neg (by omega),if_neg]
      rintro ⟨h1,h2⟩
      rcases hz with hz | hz
      · rw [hz] at h2;cases h2
      · omega
    · have h2:n / 128 < 128 ^ f:=by rw [Nat.div_lt_iff_lt_mul (by omega)];rw [Nat.pow_succ] at hn;exact hn
      have hf:0 < f:=by
        rcases Nat.eq_zero_or_pos f with rfl | h
        · simp at hn;omega
        · exact h
      have hi:=ih (n / 128) false r h2 hf (.inr (by omega))
      rw [vput,if_neg hs,vl,if_neg hs,List.cons_append,vdec,ofNat_lt (128 + n % 128) (by omega),if_pos (by omega),hi]
      rw [if_pos rfl]
      dsimp only
      congr 1
      · omega
      · congr 1
        omega
theorem getV_at (p l:List UInt8):getV (p ++ l) (p.length:Nat) = resV p.length 0 0 (vdec 9 true l):=by
  rw [getV_in (by simp)]
  simp
theorem getV_put (p r:List UInt8) (n:Nat) (h:n≤9223372036854775807):getV (p ++ (vbytes n ++ r)) (p.length:Nat) = ((n:Int),((p.length + vlen n:Nat):Int),0):=by
  rw [getV_at,show vbytes n = vput 9 n from rfl,vdec_put 9 n true r (by omega) (by omega) (.inl rfl)]
  unfold resV
  simp [vlen]
end VarW
end Go.Proofs.YtnpncpoiiikafaaGreatDoor
namespace Go.Proofs.YtnpncpoiiikafaaGreatDoor
open VarW
def numsV (s:List UInt8):Nat → Int → List Int × Int × Int
  | 0,p=>([],p,0)
  | k + 1,p=>if (getV s p).2.2 = 0 then ((getV s p).1 :: (numsV s k (getV s p).2.1).1,(numsV s k (getV s p).2.1).2) else ([],p,(getV s p).2.2)
theorem numsV_yes {s:List UInt8} {k:Nat} {p x to:Int} (h:getV s p = (x,to,0)):numsV s (k + 1) p = (x :: (numsV s k to).1,(numsV s k to).2):=by rw [numsV,h];rfl
theorem numsV_no {s:List UInt8} {k:Nat} {p x to e:Int} (h:getV s p = (x,to,e)) (he:e ≠ 0):numsV s (k + 1) p = ([],p,e):=by rw [numsV,h];exact if_neg he
theorem numsV_put (l:List Int) (hl:∀ n ∈ l,0≤n∧n≤9223372036854775807):∀ (p r:List UInt8),numsV (p ++ (lput l ++ r)) l.length (p.length:Nat) = (l,((p.length + (lput l).length:Nat):Int),0):=by
  induction l with
  | nil=>intro p r;simp [numsV,lput]
  | cons n l ih =>
    intro p r
    obtain ⟨h0,h1⟩:=hl n (List.mem_cons_self ..)
    have e:lput (n :: l) = vbytes n.toNat ++ lput l:=by simp [lput]
    have g:=getV_put p (lput l ++ r) n.toNat (by omega)
    rw [e,List.append_assoc,List.length_cons,numsV_yes g]
    have hv:vlen n.toNat = (vbytes n.toNat).length:=(vbytes_len n.toNat).symm
    have ih2:=ih (fun x hx=>hl x (List.mem_cons_of_mem _ hx)) (p ++ vbytes n.toNat) r
    rw [List.append_assoc,List.length_append,← hv] at ih2
    rw [ih2,List.length_append,← hv]
    refine Prod.ext ?_ (Prod.ext ?_ rfl)
    · show (n.toNat:Int) :: l = n :: l
      rw [show ((n.toNat:Nat):Int) = n by omega]
    · show (((p.length + vlen n.toNat + (lput l).length:Nat)):Int) = _
      congr 1
      omega
end Go.Proofs.YtnpncpoiiikafaaGreatDoor
namespace Go.Proofs.YtnpncpoiiikafaaGreatDoor
open Go.RowKit
namespace FrontW
def mtf (r:List UInt8) (i:Nat):List UInt8:=r.getD i 0 :: (r.take i ++ r.drop (i + 1))
def initK (k:Nat):List UInt8:=(List.range 256).map fun j=>if j < k then UInt8.ofNat j else 0
def init:List UInt8:=(List.range 256).map UInt8.ofNat
def rowC (r:List UInt8):Array Value:=(byts r).toArray
theorem initK_len (k:Nat):(initK k).length = 256:=by simp [initK]
theorem init_len:init.length = 256:=by simp [init]
theorem initK_last:initK 256 = init:=by
  unfold initK init
  refine List.map_congr_left fun j hj=>?_
  rw [if_pos (by simpa using hj)]
theorem initK_set (k:Nat) (hk:k < 256):(initK k).set k (UInt8.ofNat k) = initK (k + 1):=by
  refine List.ext_getElem (by simp [initK]) fun i h1 h2=>?_
  simp only [initK,List.getElem_set,List.getElem_map,List.getElem_range]
  by_cases h:k = i
  · subst h;simp
  · rw [if_neg h]
    by_cases h':i < k
    · rw [if_pos h',if_pos (by omega)]
    · rw [if_neg h',if_neg (by omega)]
theorem mtf_perm (r:List UInt8) (i:Nat) (hi:i < r.length):(mtf r i).Perm r:=by
  have h1:r = r.take i ++ r.getD i 0 :: r.drop (i + 1):=by
    have h2:=List.take_append_drop i r
    rw [List.drop_eq_getElem_cons hi] at h2
    simpa [List.getD,List.getElem?_eq_getElem hi] using h2.symm
  unfold mtf
  conv=>rhs;rw [h1]
  exact (List.perm_middle).symm
def Full (r:List UInt8):Prop:=r.Perm init
theorem full_init:Full init:=List.Perm.refl _
theorem Full.len {r:List UInt8} (h:Full r):r.length = 256:=by rw [List.Perm.length_eq h];exact init_len
theorem Full.mem {r:List UInt8} (h:Full r) (b:UInt8):b ∈ r:=by
  refine (List.Perm.mem_iff h).2 ?_
  unfold init
  exact List.mem_map.2 ⟨b.toNat,List.mem_range.2 b.toNat_lt,by simp⟩
theorem init_nodup:init.Nodup:=by
  unfold init
  refine List.Pairwise.map _ ?_ (List.nodup_range (n:=256) |>.imp_of_mem (S:=fun a b=>a < 256∧b < 256∧a ≠ b) ?_)
  · rintro a b ⟨ha,hb,hne⟩ h
    apply hne
    have:=congrArg UInt8.toNat h
    simp at this
    omega
  · intro a b ha hb hne
    exact ⟨by simpa using ha,by simpa using hb,hne⟩
theorem Full.nodup {r:List UInt8} (h:Full r):r.Nodup:=(List.Perm.nodup_iff h).2 init_nodup
theorem Full.mtf {r:List UInt8} (h:Full r) {i:Nat} (hi:i < 256):Full (mtf r i):=(mtf_perm r i (by rw [h.len];exact hi)).trans h
theorem Full.idx {r:List UInt8} (h:Full r) (b:UInt8):r.idxOf b < 256:=by
  have:=List.idxOf_lt_length_of_mem (h.mem b)
  rwa [h.len] at this
def stepR (x:List UInt8 × List Int) (b:UInt8):List UInt8 × List Int:=(mtf x.1 (x.1.idxOf b),x.2 ++ [(x.1.idxOf b:Int)])
def runR (s:List UInt8):List UInt8 × List Int:=s.foldl stepR (init,[])
theorem runR_snoc (s:List UInt8) (k:Nat) (hk:k < s.length):runR (s.take (k + 1)) = stepR (runR (s.take k)) s[k]:=by
  rw [runR,List.take_succ_eq_append_getElem hk,List.foldl_append];rfl
theorem runR_full (s:List UInt8):Full (runR s).1:=by
  unfold runR
  suffices h:∀ (x:List UInt8 × List Int),Full x.1 → Full (s.foldl stepR x).1 from h _ full_init
  induction s with
  | nil=>exact fun x h=>h
  | cons b s ih=>exact fun x h=>ih _ (h.mtf (h.idx b))
theorem runR_len (s:List UInt8):(runR s).2.length = s.length:=by
  unfold runR
  suffices h:∀ (x:List UInt8 × List Int),(s.foldl stepR x).2.length = x.2.length + s.length by simpa using h (init,[])
  induction s with
  | nil=>simp
  | cons b s ih=>intro x;rw [List.foldl_cons,ih];simp [stepR];omega
def okT (l:List Int):Prop:=∀ n ∈ l,0≤n∧n≤255
end FrontW
end Go.Proofs.YtnpncpoiiikafaaGreatDoor
