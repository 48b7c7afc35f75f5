/- BwV -/
import Derived.Test.YtnpncpoiiikafaaGreatBwSQt
import Derived.Test.YtnpncpoiiikafaaGreatZruPQt
import Derived.Test.YtnpncpoiiikafaaGreatBitUQt
import Derived.Test.YtnpncpoiiikafaaGreatSuWQt
import Derived.Test.YtnpncpoiiikafaaGreatPartsQt
import Derived.BigQuiet
import Derived.Test.YtnpncpoiiikafaaGreatAppQt
import Derived.Lib.AppendZeros
import Derived.Laws.AppendOwn
import Derived.Laws.OwnMore
set_option linter.unusedVariables false
set_option linter.unusedSimpArgs false
set_option linter.unnecessarySimpa false
set_option maxRecDepth 100000
set_option maxHeartbeats 32000000
namespace Go.Proofs.YtnpncpoiiikafaaGreat
open Go.RowKit
namespace BwW
open SufW (stepB atB w64s nt nt_len nt_at nt_set step_lt invGo)
theorem Inverse_bad (L:List UInt8) (pr:Int) (w:World) (x:Int) (hx:x ≠ 0) (C:∀ w,Calls Tryz.prog 147 #[str L,.int .i64 pr] w fun e w'=>e = .returned (.tuple #[.slice none 0 0,.int .i64 x])∧Below w.heap.size w w') :
 Calls Tryz.prog 95 #[str L,.int .i64 pr] w fun e w'=>e = .returned (.tuple #[str [],.int .i64 x])∧Below w.heap.size w w':=by
 have HC:=Lib.hid C
 clear C
 have hxb:(x != 0) = true:=by simp [hx]
 go_enter Tryz.func95,Tryz.ntmps95
 go_wp2_with fail
 refine (HC.out _).mono ?_
 rintro e w1 ⟨rfl,HB⟩
 go_wp2_with fail
 go_ret2
 exact ⟨rfl,HB⟩
theorem Inverse_big (L:List UInt8) (pr:Int) (w:World) (hL:20000 < L.length) :
 Calls Tryz.prog 95 #[str L,.int .i64 pr] w fun e w'=>e = .returned (.tuple #[str [],.int .i64 3])∧Below w.heap.size w w' :=
 Inverse_bad L pr w 3 (by decide) fun w=>Steps_big L pr w hL
theorem Inverse_not (L:List UInt8) (pr:Int) (w:World) (hL:L.length≤20000) (hm:mayB L.length pr = false) :
 Calls Tryz.prog 95 #[str L,.int .i64 pr] w fun e w'=>e = .returned (.tuple #[str [],.int .i64 130])∧Below w.heap.size w w' :=
 Inverse_bad L pr w 130 (by decide) fun w=>Steps_not L pr w hL hm
def invX:Option (List UInt8) → List UInt8 × Int
 | some t=>(t,0)
 | none=>([],130)
theorem made_bytes0 (n:Nat):madeCells #[.int .u8 0] n = (byts (List.replicate n 0)).toArray:=by
 apply Array.ext
 ·simp [madeCells,byts]
 ·intro i h1 h2
  simp only [madeCells,Array.getElem_map,Array.getElem_range,byts,List.getElem_toArray,List.getElem_map,List.getElem_replicate]
  simp [Nat.mod_one,byt]
theorem made_bt (n:Nat) (hn:n≤1000002) (w:World):(Instr.makeSlice 99 (.int .i64 (n:Int)) (.int .i64 (n:Int))).run Tryz.prog w = .ok (.slice (some ⟨w.heap.size,0,none⟩) n n) (w.alloc (.cells (byts (List.replicate n 0)).toArray 5)):=by
 have hmk:=LenW.run_made (P:=Tryz.prog) 99 5 (.int .u8 0) 1 1 Tryz.underlying99 (by kernel_rfl) n (by omega) (by omega) w
 rw [← made_bytes0]
 rw [Nat.mul_one] at hmk
 exact hmk
theorem bt_set (k:Nat) (acc:List UInt8) (b:UInt8):(byts (List.replicate (k + 1) 0 ++ acc)).toArray.setIfInBounds k (byt b) = (byts (List.replicate k 0 ++ (b :: acc))).toArray:=by
 rw [List.setIfInBounds_toArray]
 congr 1
 simp only [byts,List.map_append,List.map_replicate,List.map_cons]
 rw [List.set_append_left _ _ (by simp),List.replicate_succ',List.set_append_right _ _ (by simp)]
 simp
theorem Inverse_go (L:List UInt8) (pr:Nat) (w:World) (hL:L.length≤20000) (hm:mayB L.length (pr:Int) = true) (x:List UInt8 × Int) (hx:invX (invGo L pr L.length 0 []) = x) :
 Calls Tryz.prog 95 #[str L,.int .i64 pr] w fun e w'=>e = .returned (.tuple #[str x.1,.int .i64 x.2])∧Below w.heap.size w w':=by
 have hpl:pr≤L.length:=by
  unfold mayB at hm
  split at hm
  ·have:=of_decide_eq_true hm;omega
  ·simp at hm;omega
 have CS:=Lib.hid (fun w=>Steps_ok L pr w hL hm)
 have HX:=Lib.hid hx
 clear hx hm
 have hl1:IntKind.i64.wrap ((L.length:Int) - 1) = (L.length:Int) - 1:=w64s (by omega) (by omega)
 go_enter Tryz.func95,Tryz.ntmps95
 go_wp2_with fail
 refine (CS.out _).mono ?_
 clear CS
 rintro e w1 ⟨g,rfl,hg,BS,HB⟩
 have hmk:=made_bt L.length (by omega) w1
 obtain ⟨gO,hgO⟩:∃ gO,w1.heap.size = gO:=⟨_,rfl⟩
 have BO:=Blk.new w1 5 (byts (List.replicate L.length 0)).toArray
 have BS2:=BS.alloc (.cells (byts (List.replicate L.length 0)).toArray 5)
 have HB2:=HB.alloc HB.size (.cells (byts (List.replicate L.length 0)).toArray 5)
 have hlt:=BS.lt
 have hws:=HB.size
 clear BS HB
 rw [hgO] at hmk BO hlt hws
 go_wp2_with fail
 generalize w1.alloc (.cells (byts (List.replicate L.length 0)).toArray 5) = w2 at *
 clear hmk hgO
 go_loopw [9,10] (fun v9 v10 wr=>∃ (k row:Nat) (acc:List UInt8) (i:Int),v9 = .int .i64 (row:Nat)∧v10 = .int .i64 i∧i = (k:Int) - 1∧k≤L.length∧row≤L.length∧acc.length + k = L.length∧Hid (invX (invGo L pr k row acc) = x)∧Blk wr gO 5 (byts (List.replicate k 0 ++ acc)).toArray∧Blk wr g 3 (nt (rowsT L pr (L.length + 1))).toArray∧Below w.heap.size w wr) (fun _ v10 _=>(intOf v10 + 1).toNat)
 case atStart=>exact ⟨L.length,0,[],_,rfl,rfl,rfl,Nat.le_refl _,by omega,by simp,HX,by simpa using BO,BS2,HB2⟩
 case round =>
  clear BO BS2 HB2 HX
  obtain ⟨k,row,acc,i,rfl,rfl,hi,hk,hr,hal,HX,BO,BS,HB⟩:=hrel
  cases k with
  | zero =>
   obtain rfl:i = -1:=by simpa using hi
   have hi0:¬ (0:Int)≤-1:=by omega
   by_cases hrp:row = pr
   ·subst hrp
    have hx2:=HX.out
    rw [invGo,if_pos rfl] at hx2
    subst hx2
    have hcv:=run_bytes_str (P:=Tryz.prog) wr (c:=L.length) Tryz.underlying99 Tryz.underlying5 Tryz.underlying9 (Rd.of_blk (m:=L.length) (by simpa using BO) (by rw [byts_len];omega):Rd wr (gO + 1) 1 (some ⟨gO,0,none⟩) L.length (byts acc))
    clear HX hi
    go_wp2_with fail
    go_ret2
    exact ⟨rfl,HB⟩
   ·have hx2:=HX.out
    rw [invGo,if_neg hrp] at hx2
    subst hx2
    have hrI:¬ (row:Int) = (pr:Int):=by omega
    have hrb:((row:Int) != (pr:Int)) = true:=by simp;omega
    clear HX hi
    go_wp2_with fail
    go_ret2
    exact ⟨rfl,HB⟩
  | succ k =>
   obtain rfl:i = (k:Int):=by omega
   have hi0:(0:Int)≤(k:Int):=by omega
   by_cases hrp:row = pr
   ·subst hrp
    have hx2:=HX.out
    rw [invGo,if_pos rfl] at hx2
    subst hx2
    clear HX hi
    go_wp2_with fail
    go_ret2
    exact ⟨rfl,HB⟩
   ·have hrI:¬ (row:Int) = (pr:Int):=by omega
    have hrb:((row:Int) == (pr:Int)) = false:=by simp;omega
    have HX2:Hid (invX (invGo L pr k (stepB L pr row) (atB L pr row :: acc)) = x):=Lib.hid (by
     have:=HX.out
     rwa [invGo,if_neg hrp] at this)
    have hst:stepB L pr row≤L.length:=step_lt L pr row hr hpl
    have CA:=at_any L pr row wr hpl hr hrp (by omega)
    have hkw:IntKind.i64.wrap ((k:Int) - 1) = (k:Int) - 1:=w64s (by omega) (by omega)
    have hkI:(k:Int) < (L.length:Int):=by omega
    have hrI2:(row:Int) < (L.length:Int) + 1:=by omega
    have hr0:(0:Int)≤(row:Int):=by omega
    have hrw:(nt (rowsT L pr (L.length + 1)))[row]? = some (.int .i64 (stepB L pr row:Nat)):=nt_at _ _ _ (by rw [rowsT_at _ _ _ _ (by omega),if_pos (by omega)])
    clear HX hi
    generalize stepB L pr row = st at *
    generalize atB L pr row = bt at *
    go_wp2_with fail
    refine CA.mono ?_
    clear CA
    rintro e w3 ⟨rfl,hb3⟩
    replace BO:=BO.below hb3 BO.lt
    replace BS:=BS.below hb3 BS.lt
    replace HB:=HB.trans (hb3.mono HB.size)
    clear hb3
    obtain ⟨v0,cx⟩:∃ v,w3.cell? ⟨gO,k,none⟩ = some v:=by
     have hlt2:k < (byts (List.replicate (k + 1) 0 ++ acc)).toArray.size:=by rw [List.size_toArray,byts_len];simp;omega
     exact ⟨_,(BO.cell k).trans (Array.getElem?_eq_getElem hlt2)⟩
    have fz:=BO.frozen k
    have lO:=BO.lt
    have cs:w3.cell? ⟨g,row,none⟩ = some (.int .i64 (st:Nat)):=by rw [BS.cell,List.getElem?_toArray];exact hrw
    have bO:=BO.set k (byt bt)
    rw [bt_set] at bO
    have bS:=BS.far (p:=⟨gO,k,none⟩) (by dsimp only;omega) (byt bt)
    have hB:=HB.setCell (p:=⟨gO,k,none⟩) (by dsimp only;omega) (byt bt)
    have cs2:(w3.setCell ⟨gO,k,none⟩ (byt bt)).cell? ⟨g,row,none⟩ = some (.int .i64 (st:Nat)):=by rw [bS.cell,List.getElem?_toArray];exact hrw
    clear BO BS HB hrw
    go_wp2_with fail
    go_roundw
    case rel=>exact ⟨k,st,bt :: acc,_,by go_num,rfl,rfl,by omega,hst,by simp;omega,HX2,bO,bS,hB⟩
    case measure=>simp [intOf] <;> omega
end BwW
end Go.Proofs.YtnpncpoiiikafaaGreat
namespace Go.Proofs.YtnpncpoiiikafaaGreat
namespace ZruW
def kz:List Nat → Nat
 | []=>0
 | x :: r=>if x≤1 then kz r + 1 else 0
theorem kz_le (r:List Nat):kz r≤r.length:=by
 induction r with
 | nil=>simp [kz]
 | cons x r ih=>rw [kz];split <;> simp <;> omega
theorem kz_eq:∀ (r:List Nat) (j:Nat),(∀ i (h:i < r.length),i < j → r[i]≤1) → j≤r.length → (∀ h:j < r.length,1 < r[j]) → kz r = j
 | [],j,_,hj,_=>by simp at hj;rw [kz,hj]
 | x :: r,0,_,_,h=>by
  have:=h (by simp)
  rw [kz,if_neg (by simp at this;omega)]
 | x :: r,j + 1,h1,hj,h2=>by
  have h0:=h1 0 (by simp) (by omega)
  rw [kz,if_pos (by simpa using h0),kz_eq r j (fun i h hi=>by have:=h1 (i + 1) (by simp;omega) (by omega);simpa using this) (by simpa using hj) (fun h=>by have:=h2 (by simp;omega);simpa using this)]
theorem kz_small (r:List Nat):∀ x ∈ r.take (kz r),x≤1:=by
 induction r with
 | nil=>simp [kz]
 | cons x r ih =>
  rw [kz]
  split
  ·next h =>
   intro y hy
   rw [List.take_succ_cons] at hy
   rcases List.mem_cons.1 hy with e | e
   ·omega
   ·exact ih y e
  ·simp
theorem kz_next (r:List Nat) (h:kz r < r.length):1 < r[kz r]:=by
 induction r with
 | nil=>simp at h
 | cons x r ih =>
  by_cases hx:x≤1
  ·have e:kz (x :: r) = kz r + 1:=by rw [kz,if_pos hx]
   have h2:kz r < r.length:=by rw [e] at h;simpa using h
   have:=ih h2
   simp only [e,List.getElem_cons_succ]
   exact this
  ·have e:kz (x :: r) = 0:=by rw [kz,if_neg hx]
   simp only [e,List.getElem_cons_zero]
   omega
theorem unz_span (r:List Nat) (h:kz r = r.length):unzA r [] = List.replicate (valZ r) 0:=by
 have hs:=kz_small r
 rw [h,List.take_length] at hs
 have:=unzA_bits r [] hs []
 rw [List.append_nil,List.nil_append] at this
 rw [this,unzA]
theorem unz_more (r:List Nat) (h:kz r < r.length):unzA r [] = List.replicate (valZ (r.take (kz r))) 0 ++ (r[kz r] - 1) :: unzA (r.drop (kz r + 1)) []:=by
 have h1:=kz_next r h
 have e:r = r.take (kz r) ++ r[kz r] :: r.drop (kz r + 1):=by
  rw [← List.drop_eq_getElem_cons h,List.take_append_drop]
 have h2:=unzA_bits (r.take (kz r)) (r[kz r] :: r.drop (kz r + 1)) (kz_small r) []
 rw [← e,List.nil_append,unzA,if_neg (by omega)] at h2
 exact h2
theorem valZ_drop (d:List Nat) (j:Nat) (h:j < d.length):valZ (d.drop j) = 2 * valZ (d.drop (j + 1)) + d[j] + 1:=by
 rw [List.drop_eq_getElem_cons h,valZ]
end ZruW
end Go.Proofs.YtnpncpoiiikafaaGreat
namespace Go.Proofs.YtnpncpoiiikafaaGreat
open Go.RowKit
namespace BitW
theorem El_i64:El Tryz.prog 84 3 1 8:=El.mk' Tryz.underlying84 (z:=.int .i64 0) (by kernel_rfl) rfl (by decide)
end BitW
end Go.Proofs.YtnpncpoiiikafaaGreat
namespace Go.Proofs.YtnpncpoiiikafaaGreat
open Go.RowKit
namespace ZruW
open SufW (nt nt_len nt_at w64s)
theorem symbol_any (n:Int) (v:Bool) (hv:(decide (0≤n) && decide (n < 257)) = v) (w:World) :
 Calls Tryz.prog 141 #[.int .i64 n] w fun e w'=>e = .returned (.bool v)∧w = w':=by
 by_cases h0:n < 0
 ·have:v = false:=by rw [← hv];simp;omega
  subst this
  have h1:¬ 0≤n:=by omega
  go_enter Tryz.func141,Tryz.ntmps141
  go_wp2_with fail
  go_ret
  exact ⟨rfl,rfl⟩
 ·have h1:0≤n:=by omega
  by_cases h2:n < 257
  ·have:v = true:=by rw [← hv];simp;omega
   subst this
   go_enter Tryz.func141,Tryz.ntmps141
   go_wp2_with fail
   go_ret
   first | exact ⟨rfl,rfl⟩ | exact ⟨ret_bool (by simp;omega),rfl⟩
  ·have:v = false:=by rw [← hv];simp;omega
   subst this
   go_enter Tryz.func141,Tryz.ntmps141
   go_wp2_with fail
   go_ret
   first | exact ⟨rfl,rfl⟩ | exact ⟨ret_bool (by simp;omega),rfl⟩
theorem nt_take (r:List Nat) (k:Nat):(nt r).take k = nt (r.take k):=by simp [nt,ints,List.map_take]
theorem nt_drop (r:List Nat) (k:Nat):(nt r).drop k = nt (r.drop k):=by simp [nt,ints,List.map_drop]
def RunP (w w':World) (B n c:Nat) (r:List Nat) (e:Ending):Prop:=∃ A1 A2,e = .returned (.tuple #[.slice A1 (kz r) (kz r),.slice A2 (n - kz r) (c - kz r)])∧Rd w B 1 A1 (kz r) (nt (r.take (kz r)))∧Rd w B 1 A2 (n - kz r) (nt (r.drop (kz r)))∧∃ nq,w' = w.drewN nq
theorem run_any (A:Option Addr) (n c B:Nat) (r:List Nat) (w:World) (h:Rd w B 1 A n (nt r)) (hn:n≤1000000) (hc:n≤c) (hc2:c≤9223372036854775807) :
 Calls Tryz.prog 143 #[.slice A n c] w fun e w'=>RunP w w' B n c r e:=by
 have hrl:r.length = n:=by have:=h.len;rw [nt_len] at this;omega
 have HRL:=Lib.hid hrl
 clear hrl
 obtain ⟨ie,_,hie,_,hsz,_⟩:=BitW.El_i64.inf
 go_enter Tryz.func143,Tryz.ntmps143
 go_wp2_with fail
 go_loopw [4] (fun iv wr=>∃ j:Nat,iv = .int .i64 j∧j≤n∧(∀ i (h:i < r.length),i < j → r[i]≤1)∧wr = w) (fun iv _=>n - (intOf iv).toNat)
 case atStart=>exact ⟨0,rfl,by omega,by omega,rfl⟩
 case round =>
  obtain ⟨j,rfl,hj,hall,rfl⟩:=hrel
  have HALL:=Lib.hid hall
  clear hall
  have hfin:(∀ h:j < r.length,1 < r[j]) → kz r = j:=fun hx=>kz_eq r j HALL.out (by rw [HRL.out];exact hj) hx
  have HFIN:=Lib.hid hfin
  clear hfin
  by_cases hlt:j < n
  ·have hjr:j < r.length:=by rw [HRL.out];exact hlt
   obtain ⟨b,o,rfl,hb,hcc⟩:=h.at_ (by omega)
   obtain ⟨x,hx⟩:∃ x,r[j] = x:=⟨_,rfl⟩
   have cx:wr.cell? ⟨b,o + j,none⟩ = some (.int .i64 (x:Nat)):=by
    have hjn:j < (nt r).length:=by rw [nt_len];exact hjr
    have h2:=nt_at r j x (by rw [List.getElem?_eq_getElem hjr,hx])
    obtain ⟨_,h3⟩:=List.getElem?_eq_some_iff.1 h2
    rw [hcc j hjn,h3]
   have hjI:(j:Int) < (n:Int):=by omega
   have hj0:(0:Int)≤(j:Int):=by omega
   have hj1:IntKind.i64.wrap ((j:Int) + 1) = (j:Int) + 1:=w64s (by omega) (by omega)
   clear hcc
   rcases (show x = 0 ∨ x = 1 ∨ 1 < x by omega) with rfl | rfl | hbig
   ·have HN:Hid (∀ i (h:i < r.length),i < j + 1 → r[i]≤1):=Lib.hid (fun i h hi=>by
     by_cases e:i = j
     ·subst e;omega
     ·exact HALL.out i h (by omega))
    clear hx
    go_wp2_with fail
    go_roundw
    case rel=>exact ⟨j + 1,by go_num,by omega,HN.out,by trivial⟩
    case measure=>simp [intOf];omega
   ·have HN:Hid (∀ i (h:i < r.length),i < j + 1 → r[i]≤1):=Lib.hid (fun i h hi=>by
     by_cases e:i = j
     ·subst e;omega
     ·exact HALL.out i h (by omega))
    clear hx
    go_wp2_with fail
    go_roundw
    case rel=>exact ⟨j + 1,by go_num,by omega,HN.out,by trivial⟩
    case measure=>simp [intOf];omega
   ·have hk:kz r = j:=HFIN.out (fun _=>by omega)
    have HK:=Lib.hid hk
    have hx0:¬ (x:Int) = 0:=by omega
    have hx1:¬ (x:Int) = 1:=by omega
    have hb0:((x:Int) == 0) = false:=by simp;omega
    have hb1:((x:Int) == 1) = false:=by simp;omega
    have hsl:=run_slice_head (P:=Tryz.prog) Tryz.underlying84 hie (by rw [hsz];exact h) c j hj hc
    obtain ⟨A2,hsf,r2⟩:=run_slice_from (P:=Tryz.prog) Tryz.underlying84 hie (by rw [hsz];exact h) c j hj hc
    rw [hsz,Nat.mul_one,nt_drop] at r2
    have r1:=h.take j hj
    rw [Nat.mul_one,nt_take] at r1
    clear hk hx
    go_wp2_with fail
    go_quiet (fail)
    go_wp2_with fail
    go_ret2
    refine ⟨some ⟨b,o,none⟩,A2,by rw [HK.out];rfl,by rw [HK.out];exact r1,by rw [HK.out];exact r2,nq,rfl⟩
  ·have hk:kz r = j:=HFIN.out (fun h=>absurd h (by rw [HRL.out];exact hlt))
   have HK:=Lib.hid hk
   have hjI:¬ (j:Int) < (n:Int):=by omega
   have hsl:=run_slice_head (P:=Tryz.prog) Tryz.underlying84 hie (by rw [hsz];exact h) c j hj hc
   obtain ⟨A2,hsf,r2⟩:=run_slice_from (P:=Tryz.prog) Tryz.underlying84 hie (by rw [hsz];exact h) c j hj hc
   rw [hsz,Nat.mul_one,nt_drop] at r2
   have r1:=h.take j hj
   rw [Nat.mul_one,nt_take] at r1
   clear hk
   go_wp2_with fail
   go_quiet (fail)
   go_wp2_with fail
   go_ret2
   refine ⟨A,A2,by rw [HK.out];rfl,by rw [HK.out];exact r1,by rw [HK.out];exact r2,nq,rfl⟩
theorem value_any (A:Option Addr) (k c B:Nat) (d:List Nat) (w:World) (h:Rd w B 1 A k (nt d)) (hk:k≤1000000) (hd:∀ x ∈ d,x≤1) :
 Calls Tryz.prog 144 #[.slice A k c] w fun e w'=>e = .returned (.int .i64 (min (valZ d) 100001:Nat))∧w = w':=by
 have hdl:d.length = k:=by have:=h.len;rw [nt_len] at this;omega
 have HDL:=Lib.hid hdl
 have HD:=Lib.hid hd
 have hkw:IntKind.i64.wrap ((k:Int) - 1) = (k:Int) - 1:=w64s (by omega) (by omega)
 clear hdl hd
 go_enter Tryz.func144,Tryz.ntmps144
 go_wp2_with fail
 go_loopw [3,4] (fun nv iv wr=>∃ (j m:Nat),nv = .int .i64 (m:Nat)∧iv = .int .i64 ((j:Int) - 1)∧j≤k∧m = min (valZ (d.drop j)) 100001∧wr = w) (fun _ iv _=>(intOf iv + 1).toNat)
 case atStart=>exact ⟨k,0,rfl,by go_num,by omega,by rw [List.drop_eq_nil_of_le (by rw [HDL.out];omega)];rfl,rfl⟩
 case round =>
  obtain ⟨j,m,rfl,rfl,hj,hm,rfl⟩:=hrel
  have HM:=Lib.hid hm
  have hm2:m≤100001:=by omega
  clear hm
  cases j with
  | zero =>
   go_wp2_with fail
   go_ret
   exact ⟨by rw [HM.out,List.drop_zero];rfl,rfl⟩
  | succ j =>
   have hjl:j < d.length:=by rw [HDL.out];omega
   obtain ⟨x,hx⟩:∃ x,d[j] = x:=⟨_,rfl⟩
   have hxb:x≤1:=by rw [← hx];exact HD.out _ (List.getElem_mem hjl)
   obtain ⟨b,o,rfl,hb,hcc⟩:=h.at_ (by omega)
   have cx:wr.cell? ⟨b,o + j,none⟩ = some (.int .i64 (x:Nat)):=by
    have hjn:j < (nt d).length:=by rw [nt_len];exact hjl
    have h2:=nt_at d j x (by rw [List.getElem?_eq_getElem hjl,hx])
    obtain ⟨_,h3⟩:=List.getElem?_eq_some_iff.1 h2
    rw [hcc j hjn,h3]
   have HV:=Lib.hid (valZ_drop d j hjl)
   rw [hx] at HV
   obtain ⟨m2,hm3⟩:∃ m2,min (2 * m + x + 1) 100001 = m2:=⟨_,rfl⟩
   have HM2:Hid (m2 = min (valZ (d.drop j)) 100001):=Lib.hid (by rw [← hm3,HM.out,HV.out];omega)
   have hjI:(0:Int)≤((j + 1:Nat):Int) - 1:=by omega
   have hje:((j + 1:Nat):Int) - 1 = (j:Int):=by omega
   have hj0:(0:Int)≤(j:Int):=by omega
   have hjn:(j:Int) < (k:Int):=by omega
   have hjw:IntKind.i64.wrap ((j:Int) - 1) = (j:Int) - 1:=w64s (by omega) (by omega)
   have w1:IntKind.i64.wrap (2 * (m:Int)) = 2 * (m:Int):=w64s (by omega) (by omega)
   have w2:IntKind.i64.wrap (2 * (m:Int) + (x:Int)) = 2 * (m:Int) + (x:Int):=w64s (by omega) (by omega)
   have w3:IntKind.i64.wrap (2 * (m:Int) + (x:Int) + 1) = 2 * (m:Int) + (x:Int) + 1:=w64s (by omega) (by omega)
   clear hx hcc
   go_wp2_with fail
   go_roundw
   case rel=>exact ⟨j,m2,congrArg (Value.int .i64) (by omega),rfl,by omega,HM2.out,by trivial⟩
   case measure=>simp only [intOf];omega
def cntZ (r:List Nat):Nat:=min (unzA r []).length 100001
theorem cnt_more (r:List Nat) (h:kz r < r.length):(unzA r []).length = valZ (r.take (kz r)) + 1 + (unzA (r.drop (kz r + 1)) []).length:=by
 rw [unz_more r h,List.length_append,List.length_replicate,List.length_cons]
 omega
theorem count_any (A:Option Addr) (n c:Nat) (r:List Nat) (w:World) (h:Rd w w.heap.size 1 A n (nt r)) (hn:n≤1000000) (hc:n≤c) (hc2:c≤9223372036854775807) (hr:∀ x ∈ r,x≤256) :
 Calls Tryz.prog 142 #[.slice A n c] w fun e w'=>e = .returned (.int .i64 (cntZ r:Nat))∧∃ nq,w' = w.drewN nq:=by
 have hrl:r.length = n:=by have:=h.len;rw [nt_len] at this;omega
 obtain ⟨ie,_,hie,_,hsz,_⟩:=BitW.El_i64.inf
 have HR:=Lib.hid hr
 clear hr
 go_enter Tryz.func142,Tryz.ntmps142
 go_wp2_with fail
 go_loopw [0,3] (fun v0 nv wr=>∃ (A2:Option Addr) (m c2 i z nq:Nat),v0 = .slice A2 m c2∧nv = .int .i64 (z:Nat)∧m≤c2∧c2≤9223372036854775807∧(r.drop i).length = m∧m≤n∧Rd wr w.heap.size 1 A2 m (nt (r.drop i))∧z≤100001∧cntZ r = min (z + (unzA (r.drop i) []).length) 100001∧wr = w.drewN nq) (fun v0 _ _=>match v0 with | .slice _ m _=>m | _=>0)
 case atStart=>exact ⟨A,n,c,0,0,0,rfl,rfl,hc,hc2,by simpa using hrl,by omega,by simpa using h,by omega,by simp [cntZ],rfl⟩
 case round =>
  obtain ⟨A2,m,c2,i,z,nq,rfl,rfl,hmc,hc3,hm,hmn,r2,hz,hcnt,hw⟩:=hrel
  have HB:Below w.heap.size w wr:=by rw [hw];exact (Below.refl _ _).drewN_ nq
  have HW:=Lib.hid hw
  have HC:=Lib.hid hcnt
  obtain ⟨s,hs⟩:∃ s,r.drop i = s:=⟨_,rfl⟩
  have HSM:=Lib.hid (fun x (hx:x ∈ s)=>HR.out x (List.mem_of_mem_drop (by rw [hs];exact hx)))
  rw [hs] at hm r2 HC
  have HI:=Lib.hid hs
  have hml:=Lib.hid hm
  clear hw hcnt hs hm
  by_cases hm0:0 < m
  ·have hm0I:(0:Int) < (m:Int):=by omega
   have C:=run_any A2 m c2 w.heap.size s wr r2 (by omega) hmc hc3
   go_wp2_with fail
   refine C.mono ?_
   clear C
   rintro e w1 ⟨A3,A4,rfl,r3,r4,nq1,rfl⟩
   have hkl:=kz_le s
   rw [hml.out] at hkl
   have C:=value_any A3 (kz s) (kz s) w.heap.size (s.take (kz s)) (wr.drewN nq1) (r3.below ((Below.refl _ _).drewN_ nq1)) (by omega) (kz_small s)
   obtain ⟨v,hv⟩:∃ v,min (valZ (s.take (kz s))) 100001 = v:=⟨_,rfl⟩
   rw [hv] at C
   have HV:=Lib.hid hv
   have hv2:v≤100001:=by omega
   have HKN:=Lib.hid (kz_next s)
   have HCM:=Lib.hid (cnt_more s)
   have HCE:=Lib.hid (unz_span s)
   have hzw:IntKind.i64.wrap ((z:Int) + (v:Int)) = (z:Int) + (v:Int):=w64s (by omega) (by omega)
   obtain ⟨k,hk⟩:∃ k,kz s = k:=⟨_,rfl⟩
   rw [hk] at hkl r3 r4 C HV
   rw [hk]
   have HK:=Lib.hid hk
   clear hv hk
   go_wp2_with fail
   refine C.mono ?_
   clear C
   rintro e w2 ⟨rfl,rfl⟩
   obtain ⟨z2,hz2⟩:∃ z2,min (z + v) 100001 = z2:=⟨_,rfl⟩
   have hz2I:min ((z:Int) + (v:Int)) 100001 = (z2:Int):=by omega
   obtain ⟨q,hq⟩:∃ q,m - k = q:=⟨_,rfl⟩
   obtain ⟨cq,hcq⟩:∃ cq,c2 - k = cq:=⟨_,rfl⟩
   rw [hq] at r4
   rw [hq,hcq]
   have hqc:q≤cq:=by omega
   have hcq3:cq≤9223372036854775807:=by omega
   replace r4:=r4.below ((Below.refl _ _).drewN_ nq1)
   have HZ:=Lib.hid hz2
   have HW2:Hid (wr.drewN nq1 = w.drewN (nq + nq1)):=Lib.hid (by rw [HW.out,World.drewN_drewN])
   have hmq:m = k + q:=by omega
   have HMQ:=Lib.hid hmq
   have hz2b:z2≤100001:=by omega
   clear hq hcq r3 hmq
   generalize wr.drewN nq1 = w3 at *
   by_cases hq0:0 < q
   ·have hks:k < s.length:=by rw [hml.out];have:=HMQ.out;omega
    obtain ⟨x,hx⟩:∃ x,s[k] = x:=⟨_,rfl⟩
    have hxb:x≤256:=HSM.out x (by rw [← hx];exact List.getElem_mem _)
    obtain ⟨b,o,rfl,hb,hcc⟩:=r4.at_ hq0
    have cx:w3.cell? ⟨b,o,none⟩ = some (.int .i64 (x:Nat)):=by
     have h2:=nt_at (s.drop k) 0 x (by rw [List.getElem?_drop,Nat.add_zero,List.getElem?_eq_getElem hks,hx])
     obtain ⟨h4,h3⟩:=List.getElem?_eq_some_iff.1 h2
     have:=hcc 0 h4
     rw [Nat.add_zero] at this
     rw [this,h3]
    have r5:=r4.cut (k:=1) (cap:=cq) hq0 hqc
    rw [Nat.mul_one,nt_drop,List.drop_drop] at r5
    simp only [Option.map_some,add_lit] at r5
    have HC2:Hid (cntZ r = min (min (z2 + 1) 100001 + (unzA (s.drop (k + 1)) []).length) 100001):=Lib.hid (by
     have h1:=HCM.out (by rw [HK.out];exact hks)
     rw [HK.out] at h1
     have h2:=HV.out
     have h3:=HZ.out
     rw [HC.out,h1]
     omega)
    obtain ⟨z3,hz3⟩:∃ z3,min (z2 + 1) 100001 = z3:=⟨_,rfl⟩
    rw [hz3] at HC2
    have hz3I:min ((z2:Int) + 1) 100001 = (z3:Int):=by omega
    have hz3b:z3≤100001:=by omega
    have hq0I:(0:Int) < (q:Int):=by omega
    have hzw2:IntKind.i64.wrap ((z2:Int) + 1) = (z2:Int) + 1:=w64s (by omega) (by omega)
    have C:=symbol_any (x:Int) true (by simp;omega) w3
    clear hx hcc hz3 HZ HV HCM HCE HKN hz2
    go_wp2_with fail
    refine C.mono ?_
    clear C
    rintro e w4 ⟨rfl,rfl⟩
    go_wp2_with fail
    go_roundw
    case rel =>
     have e1:s.drop (k + 1) = r.drop (i + (k + 1)):=by rw [← HI.out,List.drop_drop]
     have hl:=HMQ.out
     refine ⟨_,q - 1,cq - 1,i + (k + 1),z3,nq + nq1,rfl,rfl,by omega,by omega,?_,by omega,?_,by omega,?_,HW2.out⟩
     ·rw [← e1,List.length_drop,hml.out];omega
     ·rw [← e1];exact r5
     ·rw [← e1];exact HC2.out
    case measure=>have hl:=HMQ.out;dsimp only;omega
   ·have hq00:q = 0:=by omega
    subst hq00
    have HC2:Hid (cntZ r = min (z2 + (unzA (s.drop k) []).length) 100001):=Lib.hid (by
     have h0:k = s.length:=by rw [hml.out];have:=HMQ.out;omega
     have h1:=HCE.out (by rw [HK.out];exact h0)
     have h2:=HV.out
     have h3:=HZ.out
     rw [HC.out,h1,List.length_replicate]
     rw [h0,List.take_length] at h2
     rw [h0,List.drop_length]
     simp [unzA,valZ]
     omega)
    clear HZ HV HCM HCE HKN hz2
    go_wp2_with fail
    go_roundw
    case rel =>
     have e1:s.drop k = r.drop (i + k):=by rw [← HI.out,List.drop_drop]
     have hl:=HMQ.out
     refine ⟨A4,0,cq,i + k,z2,nq + nq1,rfl,rfl,by omega,by omega,?_,by omega,?_,by omega,?_,HW2.out⟩
     ·rw [← e1,List.length_drop,hml.out];omega
     ·rw [← e1];exact r4
     ·rw [← e1];exact HC2.out
    case measure=>have hl:=HMQ.out;dsimp only;omega
  ·have hm00:m = 0:=by omega
   have HE:Hid (cntZ r = z):=Lib.hid (by
    have:s = []:=List.eq_nil_of_length_eq_zero (by rw [hml.out];exact hm00)
    rw [HC.out,this]
    simp [unzA,valZ]
    omega)
   subst hm00
   go_wp2_with fail
   go_ret
   exact ⟨by rw [HE.out];rfl,nq,HW.out⟩
end ZruW
end Go.Proofs.YtnpncpoiiikafaaGreat
namespace Go.Proofs.YtnpncpoiiikafaaGreat
open Go.RowKit
theorem zeroCells_int (k:Nat):Builtin.zeroCells #[.int .i64 0] k = (List.replicate k (Value.int .i64 0)).toArray:=by
 apply Array.ext
 ·simp [Builtin.zeroCells]
 ·intro i h1 h2
  simp [Builtin.zeroCells,Nat.mod_one]
theorem run_app_zeros {w:World} {base:Nat} {A:Option Addr} {n c:Nat} {xs:List Value} (hown:Own w base 3 1 A n c xs) (k:Nat) (hroom:n + k≤c) (hk:k≤1000000) (ty:TypeId) :
 ∃ w',(Builtin.append_ #[84,3] ty #[.slice A n c,.int .i64 k]).run Tryz.prog w = .ok (.slice A (n + k) c) w'∧Own w' base 3 1 A (n + k) c (xs ++ List.replicate k (.int .i64 0))∧w.grownBy w' (blkOf A):=by
 have hu:Tryz.prog.underlying 84 = some (.slice 3):=Tryz.underlying84
 have hi:Tryz.prog.underlying 3 = some (.int .i64):=Tryz.underlying3
 obtain ⟨i,z,hinf,hz,hsize,hby,hzs⟩:∃ (i:TypeInfo) (z:Value),Tryz.prog.info? 3 = some i∧i.zero = some (.int .i64 0)∧i.size = 1∧i.bytes = 8∧z = .int .i64 0:=by
  have h:(Tryz.prog.info? 3).map (fun i=>(i.zero,i.size,i.bytes)) = some (some (.int .i64 0),1,8):=by kernel_rfl
  obtain ⟨i,h1,h2⟩:=Option.map_eq_some_iff.1 h
  simp only [Prod.mk.injEq] at h2
  exact ⟨i,_,h1,h2.1,h2.2.1,h2.2.2,rfl⟩
 have hw:IntKind.i64.wrap (k:Int) = k:=by rw [IntKind.wrap_i64];omega
 have hw0:IntKind.i64.wrap 0 = 0:=by rw [IntKind.wrap_i64];omega
 have hneg:¬ ((k:Int) < 0):=by omega
 have h48:¬ (281474976710656 < (k:Int) * 8):=by omega
 have hxl:xs.length = n:=by have:=hown.len;omega
 have hlen:(xs ++ List.replicate k (Value.int .i64 0)).length = (n + k) * 1:=by rw [List.length_append,hxl,List.length_replicate,Nat.mul_one]
 rcases hown.2 with ⟨hv,h0⟩ | ⟨g,cap',cur,hv,hbg,hg,hnc,hcm,hcs,htake⟩
 ·simp only [Value.slice.injEq] at hv
  obtain ⟨rfl,rfl,rfl⟩:=hv
  obtain rfl:k = 0:=by omega
  refine ⟨w,?_,by simpa using hown,World.grownBy.refl w _⟩
  simp [Builtin.append_,run_underlying hu,run_underlying hi,sizeOf,typeInfo,hinf,hsize,hby,asInt,asIntOf,hw0,storeCells]
 ·simp only [Value.slice.injEq] at hv
  obtain ⟨rfl,_,rfl⟩:=hv
  have hcs':cur.size = c:=by simpa using hcs
  by_cases hk0:k = 0
  ·subst hk0
   refine ⟨w,?_,by simpa using hown,World.grownBy.refl w _⟩
   simp [Builtin.append_,run_underlying hu,run_underlying hi,sizeOf,typeInfo,hinf,hsize,hby,asInt,asIntOf,hw0,storeCells,hroom,hnc]
  ·have hst:=run_storeCells_at Tryz.prog g n 3 (List.replicate k (Value.int .i64 0)) 0 cur w hg (by simp;omega) (by intro v hv;rw [List.eq_of_mem_replicate hv];rfl)
   simp only [Nat.add_zero] at hst
   refine ⟨w.setRow g (cur.toList.take n ++ List.replicate k (Value.int .i64 0) ++ cur.toList.drop (n + (List.replicate k (Value.int .i64 0)).length)).toArray,?_,⟨hlen,.inr ⟨g,c,_,rfl,hbg,setRow_heap w g cur _ 3 _ hg,hroom,hcm,?_,?_⟩⟩,⟨rfl,rfl,rfl,by simp,fun k _ hk=>setRow_other w g k _ (fun e=>hk (by simp [blkOf,e]))⟩⟩
   ·have hz1:(Value.int .i64 0).cells = #[.int .i64 0]:=rfl
    simp [Builtin.append_,run_underlying hu,run_underlying hi,sizeOf,typeInfo,zeroValue,hinf,hsize,hby,hz,asInt,asIntOf,hw,hneg,h48,hk0,hroom,hz1,zeroCells_int,Addr.add_lit]
    rw [hst]
    simp
   ·simp only [List.size_toArray,List.length_append,List.length_take,List.length_drop,Array.length_toList,List.length_replicate]
    omega
   ·have ht':cur.toList.take n = xs:=by simpa using htake
    rw [ht',← hlen]
    exact List.take_left
theorem wp_app_zeros {w:World} {ops:Array Oper} {rest:List Oper} {o:Oper} {a:Act} {Q:Exit → Act → World → Prop} (hgd:o.guard = none) {s x:Operand}
 (ho:o.op = .call { callee:=.builtin .append,args:=#[s,x],argTypes:=#[84,3] })
 {base:Nat} {A:Option Addr} {n c:Nat} {xs:List Value} (hs:a.eval s = .slice A n c) (hown:Own w base 3 1 A n c xs) (k:Nat) (hx:a.eval x = .int .i64 k) (hroom:n + k≤c) (hk:k≤1000000)
 (h:∀ w',Own w' base 3 1 A (n + k) c (xs ++ List.replicate k (.int .i64 0)) → w.grownBy w' (blkOf A) → wpList Tryz.prog ops Q rest (a.put o.dst (.slice A (n + k) c)) w') :
 wpList Tryz.prog ops Q (o :: rest) a w:=by
 obtain ⟨w',hr,h2,h3⟩:=run_app_zeros hown k hroom hk o.type
 exact Lib.wpList_append_run w hgd s x 84 3 ho _ _ hs hx _ _ hr (h w' h2 h3)
theorem wp_app_fit {P:Program} {w:World} {t e size bytes:Nat} (hE:El P t e size bytes) {ops:Array Oper} {rest:List Oper} {o:Oper} {a:Act} {Q:Exit → Act → World → Prop} (hgd:o.guard = none) {s x:Operand}
 (ho:o.op = .call { callee:=.builtin .append,args:=#[s,x],argTypes:=#[t,t] })
 {base:Nat} {A:Option Addr} {n c:Nat} {xs:List Value} (hs:a.eval s = .slice A n c) (hown:Own w base e size A n c xs)
 {B:Nat} {A2:Option Addr} {m c2:Nat} {news:List Value} (hx:a.eval x = .slice A2 m c2) (hr:Rd w B size A2 m news) (hm:0 < m) (h1:∀ u ∈ news,u.oneCell' = true) (hroom:n + m≤c)
 (h:∀ w',Own w' base e size A (n + m) c (xs ++ news) → w.grownBy w' (blkOf A) → wpList P ops Q rest (a.put o.dst (.slice A (n + m) c)) w') :
 wpList P ops Q (o :: rest) a w:=by
 obtain ⟨i,z,hi,hz,hsize,hby,hzs⟩:=hE.inf
 obtain ⟨b,off,rfl,_,hc⟩:=hr.at_ hm
 have hA:∃ g,A = some ⟨g,0,none⟩:=by
  rcases hown.2 with ⟨hv,_⟩ | ⟨g,cap,cur,hv,_⟩
  ·simp only [Value.slice.injEq] at hv;omega
  ·simp only [Value.slice.injEq] at hv;exact ⟨g,hv.1⟩
 obtain ⟨g,rfl⟩:=hA
 obtain ⟨w',hrun,h2,h3⟩:=run_append_fits (P:=P) w base t o.type e i size hE.und hi hsize g n c xs hown ⟨b,off,none⟩ m c2 news hr.len (fun j u hu=>by
  obtain ⟨hj,rfl⟩:=List.getElem?_eq_some_iff.1 hu
  rw [add_lit]
  exact hc j hj) h1 hroom
 exact Lib.wpList_append_run w hgd s x t t ho _ _ hs hx _ _ hrun (h w' h2 (by simpa [blkOf] using h3))
end Go.Proofs.YtnpncpoiiikafaaGreat
