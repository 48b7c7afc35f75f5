/- BwS -/
import Derived.Laws.CopyOwn
import Derived.Test.YtnpncpoiiikafaaGreatSuWQt
import Derived.Test.YtnpncpoiiikafaaGreatFrontWQt
import Derived.Deep.WholeRow
import Derived.Deep.DeepCutAuto
set_option linter.unusedVariables false
set_option linter.unusedSimpArgs false
set_option linter.unnecessarySimpa false
set_option maxRecDepth 100000
set_option maxHeartbeats 32000000
namespace Go.Proofs.YtnpncpoiiikafaaGreat
open Go.RowKit
namespace BwW
open SufW (nt nt_len nt_at nt_set w64s startB)
def cntN (L:List UInt8) (b:Nat):Nat:=L.countP fun x=>decide (x.toNat = b)
def staN (L:List UInt8) (b:Nat):Nat:=1 + L.countP fun x=>decide (x.toNat < b)
def mixC (L:List UInt8) (j:Nat):List Nat:=(List.range 256).map fun b=>if b < j then staN L b else cntN L b
theorem mixC_len (L:List UInt8) (j:Nat):(mixC L j).length = 256:=by simp [mixC]
theorem mixC_at (L:List UInt8) (j b:Nat) (h:b < 256):(mixC L j)[b]? = some (if b < j then staN L b else cntN L b):=by simp [mixC,h]
theorem mixC_nil:mixC [] 0 = List.replicate 256 0:=by
 apply List.ext_getElem?
 intro b
 by_cases h:b < 256
 ·rw [mixC_at _ _ _ h,if_neg (Nat.not_lt_zero b),List.getElem?_replicate,if_pos h];rfl
 ·rw [List.getElem?_eq_none (by rw [mixC_len];omega),List.getElem?_eq_none (by rw [List.length_replicate];omega)]
theorem cntN_snoc (L:List UInt8) (x:UInt8) (b:Nat):cntN (L ++ [x]) b = cntN L b + if x.toNat = b then 1 else 0:=by
 simp [cntN,List.countP_append,List.countP_cons]
theorem mixC_snoc (L:List UInt8) (x:UInt8):mixC (L ++ [x]) 0 = (mixC L 0).set x.toNat (cntN L x.toNat + 1):=by
 have hx:=UInt8.toNat_lt x
 apply List.ext_getElem?
 intro b
 by_cases h:b < 256
 ·rw [mixC_at _ _ _ h,if_neg (Nat.not_lt_zero b),List.getElem?_set,mixC_at _ _ _ h,if_neg (Nat.not_lt_zero b),mixC_len,cntN_snoc]
  by_cases e:x.toNat = b
  ·subst e;rw [if_pos rfl,if_pos rfl,if_pos h]
  ·rw [if_neg e,if_neg e];rfl
 ·rw [List.getElem?_eq_none (by rw [mixC_len];omega),List.getElem?_eq_none (by rw [List.length_set,mixC_len];omega)]
theorem mixC_succ (L:List UInt8) (j:Nat) (hj:j < 256):mixC L (j + 1) = (mixC L j).set j (staN L j):=by
 apply List.ext_getElem?
 intro b
 by_cases h:b < 256
 ·rw [mixC_at _ _ _ h,List.getElem?_set,mixC_at _ _ _ h,mixC_len]
  by_cases e:j = b
  ·subst e;rw [if_pos (by omega),if_pos rfl,if_pos h]
  ·rw [if_neg e]
   by_cases c:b < j
   ·rw [if_pos (by omega),if_pos c]
   ·rw [if_neg (by omega),if_neg c]
 ·rw [List.getElem?_eq_none (by rw [mixC_len];omega),List.getElem?_eq_none (by rw [List.length_set,mixC_len];omega)]
theorem staN_succ (L:List UInt8) (j:Nat):staN L (j + 1) = staN L j + cntN L j:=by
 unfold staN cntN
 rw [Nat.add_assoc]
 congr 1
 induction L with
 | nil=>rfl
 | cons a L ih =>
  simp only [List.countP_cons,ih]
  by_cases h1:a.toNat < j
  ·have h2:¬ a.toNat = j:=by omega
   have h3:a.toNat < j + 1:=by omega
   simp [h1,h2,h3];omega
  ·by_cases h2:a.toNat = j
   ·have h3:a.toNat < j + 1:=by omega
    simp [h1,h2,h3];omega
   ·have h3:¬ a.toNat < j + 1:=by omega
    simp [h1,h2,h3]
theorem staN_le (L:List UInt8) (b:Nat):staN L b≤L.length + 1:=by
 unfold staN
 have:L.countP (fun x=>decide (x.toNat < b))≤L.length:=List.countP_le_length
 omega
theorem cntN_le (L:List UInt8) (b:Nat):cntN L b≤L.length:=List.countP_le_length
theorem index_row (w:World) (cs:Array Value) (j:Nat) (hj:j < 256) (x:Int) (h:cs[j]? = some (.int .i64 x)) :
 (Instr.index 252 (.agg cs) (.int .i64 (j:Int))).run Tryz.prog w = .ok (.int .i64 x) w:=by
 have h1:(Tryz.prog.info? 3).map (·.size) = some 1:=by kernel_rfl
 obtain ⟨i,hi,hs⟩:=Option.map_eq_some_iff.1 h1
 have hlt:(j:Int) < 256:=by omega
 have h0:(0:Int)≤(j:Int):=by omega
 simp [Instr.index,asIntOf,run_underlying Tryz.underlying252,part,isAgg,run_underlying Tryz.underlying3,sizeOf,typeInfo,hi,hs,hlt,h0,h,Result.andThen]
 intro hc
 omega
theorem starts_any (L:List UInt8) (w:World) (hL:L.length≤100000) :
 Calls Tryz.prog 175 #[str L] w fun e w'=>e = .returned (.agg (nt (mixC L 256)).toArray)∧Below w.heap.size w w':=by
 have hz:Tryz.zeroCells252 = (nt (List.replicate 256 0)).toArray:=by kernel_rfl
 have HZ:=Lib.hid hz
 clear hz
 go_enter Tryz.func175,Tryz.ntmps175
 go_wp2_with fail
 obtain ⟨s0,hs0⟩:∃ s0,w.heap.size = s0:=⟨_,rfl⟩
 obtain ⟨w2,hw2⟩:∃ w2,(w.alloc (.cells Tryz.zeroCells252 252)).alloc (.cells Tryz.zeroCells252 252) = w2:=⟨_,rfl⟩
 have B0:Blk w2 s0 252 (nt (List.replicate 256 0)).toArray:=by
  rw [← hw2,← hs0,← HZ.out];exact (Blk.new w _ _).alloc _
 have B1:Blk w2 (s0 + 1) 252 (nt (mixC (L.take 0) 0)).toArray:=by
  rw [List.take_zero,mixC_nil,← hw2,← hs0,← HZ.out]
  have:=Blk.new (w.alloc (.cells Tryz.zeroCells252 252)) 252 Tryz.zeroCells252
  rw [World.size_alloc] at this
  exact this
 have HB:Below w.heap.size w w2:=by rw [← hw2];exact ((Below.refl w.heap.size w).alloc (Nat.le_refl _) _).alloc (by simp) _
 rw [hw2]
 go_loopw [4] (fun iv wr=>∃ k:Nat,iv = .int .i64 k∧k≤L.length∧Blk wr s0 252 (nt (List.replicate 256 0)).toArray∧Blk wr (s0 + 1) 252 (nt (mixC (L.take k) 0)).toArray∧Below w.heap.size w wr) (fun iv _=>L.length - (intOf iv).toNat)
 case atStart=>exact ⟨0,rfl,by omega,B0,B1,HB⟩
 case round =>
  clear B0 B1 HB hw2
  obtain ⟨k,rfl,hk,B0,B1,HB⟩:=hrel
  by_cases hlt:k < L.length
  ·obtain ⟨x,hx⟩:∃ x,L[k] = x:=⟨_,rfl⟩
   have hxb:=UInt8.toNat_lt x
   obtain ⟨z,hz⟩:∃ z,cntN (L.take k) x.toNat = z:=⟨_,rfl⟩
   have hzb:z≤100000:=by have:=cntN_le (L.take k) x.toNat;rw [List.length_take] at this;omega
   have HS:=Lib.hid (show mixC (L.take (k + 1)) 0 = (mixC (L.take k) 0).set x.toNat (z + 1) by rw [List.take_succ_eq_append_getElem hlt,hx,mixC_snoc,hz])
   have cx:wr.cell? ⟨s0 + 1,x.toNat,none⟩ = some (.int .i64 (z:Nat)):=by
    rw [B1.cell,List.getElem?_toArray]
    exact nt_at _ _ _ (by rw [mixC_at _ _ _ (by omega),if_neg (Nat.not_lt_zero _),hz])
   have fz:=B1.frozen x.toNat
   have lt1:=B1.lt
   have hkI:(k:Int) < (L.length:Int):=by omega
   have hk0:(0:Int)≤(k:Int):=by omega
   have hk1:IntKind.i64.wrap ((k:Int) + 1) = (k:Int) + 1:=w64s (by omega) (by omega)
   have hzw:IntKind.i64.wrap ((z:Int) + 1) = (z:Int) + 1:=w64s (by omega) (by omega)
   have hx0:(0:Int)≤(x.toNat:Int):=by omega
   have hx2:(x.toNat:Int) < 256:=by omega
   have b2:=B1.set x.toNat (.int .i64 ((z + 1:Nat):Int))
   rw [nt_set,← HS.out] at b2
   have b0:=B0.far (p:=⟨s0 + 1,x.toNat,none⟩) (by dsimp only;omega) (.int .i64 ((z + 1:Nat):Int))
   have HB2:=HB.setCell (p:=⟨s0 + 1,x.toNat,none⟩) (by dsimp only;omega) (.int .i64 ((z + 1:Nat):Int))
   have hbyte:({ data:=L.toArray }:ByteArray)[k]'(by show k < L.toArray.size;simpa using hlt) = x:=hx
   go_wp2_with fail
   go_roundw
   case rel=>exact ⟨k + 1,by go_num,by omega,b0,b2,HB2⟩
   case measure=>simp [intOf];omega
  ·have hkI:¬ (k:Int) < (L.length:Int):=by omega
   have hkL:k = L.length:=by omega
   rw [hkL,List.take_length] at B1
   clear hkL
   have hsz:(Tryz.prog.info? 252).map (·.size) = some (nt (mixC L 0)).toArray.size:=by
    have h:(Tryz.prog.info? 252).map (·.size) = some 256:=by kernel_rfl
    rw [h,List.size_toArray,nt_len,mixC_len]
   have B1':Blk wr (w.heap.size + 1) 252 (nt (mixC L 0)).toArray:=by rw [hs0];exact B1
   go_upto_region 7 with fail
   go_wp2_with fail
   refine wp_load_row 252 (.tmp 3) rfl (w.heap.size + 1) rfl 252 _ (0,0) _ B1' Tryz.underlying252 rfl hsz ?_
   clear hsz B1'
   obtain ⟨cs,hcs⟩:∃ cs,(nt (mixC L 0)).toArray = cs:=⟨_,rfl⟩
   rw [hcs]
   have HCS:=Lib.hid hcs
   clear hcs
   go_wp2_with fail
   have hcz:cs.size = 256:=by rw [← HCS.out,List.size_toArray,nt_len,mixC_len]
   obtain ⟨V0,hV0⟩:∃ V,V = wr:=⟨wr,rfl⟩
   subst hV0
   go_loopw [5,22] (fun v5 iv wr=>∃ j:Nat,iv = .int .i64 j∧v5 = .int .i64 (staN L j:Nat)∧j≤256∧Blk wr s0 252 (nt (List.replicate 256 0)).toArray∧Blk wr (s0 + 1) 252 (nt (mixC L j)).toArray∧Below w.heap.size w wr) (fun _ iv _=>256 - (intOf iv).toNat)
   case atStart=>exact ⟨0,rfl,by simp [staN],by omega,B0,B1,HB⟩
   case round =>
    clear B0 B1 HB
    obtain ⟨j,rfl,rfl,hj,B0,B1,HB⟩:=hrel
    by_cases hlt2:j < 256
    ·have hci:cs[j]? = some (.int .i64 (cntN L j:Nat)):=by
      rw [← HCS.out,List.getElem?_toArray]
      exact nt_at _ _ _ (by rw [mixC_at _ _ _ hlt2,if_neg (Nat.not_lt_zero _)])
     have cx:wr.cell? ⟨s0 + 1,j,none⟩ = some (.int .i64 (cntN L j:Nat)):=by
      rw [B1.cell,List.getElem?_toArray]
      exact nt_at _ _ _ (by rw [mixC_at _ _ _ hlt2,if_neg (by omega)])
     have fz:=B1.frozen j
     have lt1:=B1.lt
     have hs1:=staN_le L j
     have hc1:=cntN_le L j
     have HS1:=Lib.hid (staN_succ L j)
     have HS:=Lib.hid (mixC_succ L j hlt2)
     have b2:=B1.set j (.int .i64 (staN L j:Nat))
     rw [nt_set,← HS.out] at b2
     have b0:=B0.far (p:=⟨s0 + 1,j,none⟩) (by dsimp only;omega) (.int .i64 (staN L j:Nat))
     have HB2:=HB.setCell (p:=⟨s0 + 1,j,none⟩) (by dsimp only;omega) (.int .i64 (staN L j:Nat))
     generalize staN L j = a at *
     generalize cntN L j = z at *
     have hjI:(j:Int) < 256:=by omega
     have hj0:(0:Int)≤(j:Int):=by omega
     have hj1:IntKind.i64.wrap ((j:Int) + 1) = (j:Int) + 1:=w64s (by omega) (by omega)
     have haw:IntKind.i64.wrap ((a:Int) + (z:Int)) = (a:Int) + (z:Int):=w64s (by omega) (by omega)
     have hix:=index_row wr cs j hlt2 (z:Nat) hci
     go_wp2_with fail
     go_roundw
     case rel=>exact ⟨j + 1,by go_num,by rw [HS1.out];simp,by omega,b0,b2,HB2⟩
     case measure=>simp [intOf];omega
    ·have hjI:¬ (j:Int) < 256:=by omega
     have hj6:j = 256:=by omega
     subst hj6
     have hsz:(Tryz.prog.info? 252).map (·.size) = some (nt (mixC L 256)).toArray.size:=by
      have h:(Tryz.prog.info? 252).map (·.size) = some 256:=by kernel_rfl
      rw [h,List.size_toArray,nt_len,mixC_len]
     go_wp2_with fail
     refine wp_load_row 252 (.tmp 3) rfl (s0 + 1) rfl 252 _ (0,0) _ B1 Tryz.underlying252 rfl hsz ?_
     obtain ⟨ds,hds⟩:∃ ds,(nt (mixC L 256)).toArray = ds:=⟨_,rfl⟩
     rw [hds] at B1 hsz ⊢
     have hdz:ds.size = 256:=by rw [← hds,List.size_toArray,nt_len,mixC_len]
     have hst:(storeCells ⟨s0,0,none⟩ ds.toList).run Tryz.prog wr = .ok () (wr.setRow s0 ds):=by
      have:=run_storeCells_from (P:=Tryz.prog) s0 252 ds.toList 0 _ wr B0 (by rw [List.size_toArray,nt_len,Array.length_toList,hdz];simp) (fun v hv=>by
       rw [← hds,List.toList_toArray] at hv
       obtain ⟨y,_,rfl⟩:=List.mem_map.1 hv
       rfl)
      simpa using this
     have HB3:Below w.heap.size w (wr.setRow s0 ds):=below_setRow HB (by omega) ds
     have B3:Blk (wr.setRow s0 ds) s0 252 ds:=setRow_heap wr s0 _ ds _ _ B0
     have HDS:=Lib.hid hds
     clear hds B0 B1 HB
     go_wp2_with fail
     rw [HDS.out]
     refine bodyPost_ret (v:=.agg ds) ?_ rfl ⟨rfl,hs0 ▸ HB3⟩
     exact results_cell_row Tryz.results175 _ _ s0 252 ds (0,0) _ rfl B3 Tryz.underlying252 rfl hsz
end BwW
end Go.Proofs.YtnpncpoiiikafaaGreat
namespace Go.Proofs.YtnpncpoiiikafaaGreat
open Go.RowKit
namespace BwW
open SufW (stepB seenB startB atB idxB atB_idx w64s nt nt_len nt_at nt_set)
def mayB (n:Nat) (pr:Int):Bool:=if n = 0 then decide (pr = 0) else decide (1≤pr) && decide (pr≤(n:Int))
theorem may_any (L:List UInt8) (pr:Int) (w:World) (v:Bool) (hv:mayB L.length pr = v) :
 Calls Tryz.prog 174 #[str L,.int .i64 pr] w fun e w'=>e = .returned (.bool v)∧Below w.heap.size w w':=by
 by_cases h0:L.length = 0
 ·obtain rfl:=List.length_eq_zero_iff.1 h0
  have hv2:(pr == 0) = v:=by rw [← hv];unfold mayB;rw [if_pos h0];rfl
  go_enter Tryz.func174,Tryz.ntmps174
  go_wp2_with fail
  go_ret
  rw [← hv2]
  exact ⟨rfl,Below.refl _ _⟩
 ·have hemp:L.isEmpty = false:=by cases L with | nil=>exact absurd rfl h0 | cons _ _=>rfl
  have hv2:(decide (1≤pr) && decide (pr≤(L.length:Int))) = v:=by rw [← hv];unfold mayB;rw [if_neg h0]
  by_cases h1:1≤pr
  ·have hv3:decide (pr≤(L.length:Int)) = v:=by rw [← hv2];simp [h1]
   clear hv hv2
   go_enter Tryz.func174,Tryz.ntmps174
   go_wp2_with fail
   go_ret
   rw [← hv3]
   exact ⟨rfl,Below.refl _ _⟩
  ·have hv3:false = v:=by rw [← hv2];simp [h1]
   clear hv hv2
   subst hv3
   go_enter Tryz.func174,Tryz.ntmps174
   go_wp2_with fail
   go_ret
   exact ⟨rfl,Below.refl _ _⟩
theorem at_any (L:List UInt8) (pr row:Nat) (w:World) (hp:pr≤L.length) (hr:row≤L.length) (hn:row ≠ pr) (hL:L.length≤100000) :
 Calls Tryz.prog 148 #[str L,.int .i64 pr,.int .i64 row] w fun e w'=>e = .returned (.int .u8 (atB L pr row).toNat)∧Below w.heap.size w w':=by
 by_cases hlt:pr < row
 ·have hI:(pr:Int) < (row:Int):=by omega
  have hk1:IntKind.i64.wrap ((row:Int) - 1) = ((row - 1:Nat):Int):=by rw [w64s (by omega) (by omega)];omega
  have hx:row - 1 < L.length:=by omega
  have hb:atB L pr row = L[row - 1]:=by unfold atB;rw [if_pos hlt,List.getElem?_eq_getElem hx];rfl
  have h0:(0:Int)≤((row - 1:Nat):Int):=by omega
  rw [hb]
  have hbyte:({ data:=L.toArray }:ByteArray)[row - 1]'(by show row - 1 < L.toArray.size;simpa using hx) = L[row - 1]:=rfl
  go_enter Tryz.func148,Tryz.ntmps148
  go_wp2_with fail
  go_ret
  exact ⟨rfl,Below.refl _ _⟩
 ·have hI:¬ (pr:Int) < (row:Int):=by omega
  have hx:row < L.length:=by omega
  have hb:atB L pr row = L[row]:=by unfold atB;rw [if_neg hlt,List.getElem?_eq_getElem hx];rfl
  rw [hb]
  go_enter Tryz.func148,Tryz.ntmps148
  go_wp2_with fail
  go_ret
  exact ⟨rfl,Below.refl _ _⟩
theorem inc_any (g b x:Nat) (A:List Nat) (w:World) (hb:b < 256) (hA:A.length = 256) (B:Blk w g 252 (nt A).toArray) (hx:A[b]? = some x) (hxb:x≤1000000) :
 Calls Tryz.prog 176 #[.int .u8 (b:Int),.pointer (some ⟨g,0,none⟩)] w fun e w'=>e = .returned (.int .i64 (x:Nat))∧w' = w.setCell ⟨g,b,none⟩ (.int .i64 ((x + 1:Nat):Int)):=by
 have cx:w.cell? ⟨g,b,none⟩ = some (.int .i64 (x:Nat)):=by
  rw [B.cell,List.getElem?_toArray]
  exact nt_at _ _ _ hx
 have fz:=B.frozen b
 have lt1:=B.lt
 have hbI:(b:Int) < 256:=by omega
 have hb0:(0:Int)≤(b:Int):=by omega
 have hx1:IntKind.i64.wrap ((x:Int) + 1) = (x:Int) + 1:=w64s (by omega) (by omega)
 have hx2:IntKind.i64.wrap ((x:Int) + 1 - 1) = (x:Int):=by rw [w64s (by omega) (by omega)];omega
 go_enter Tryz.func176,Tryz.ntmps176
 go_wp2_with fail
 go_ret
 exact ⟨rfl,rfl⟩
def nextA (L:List UInt8) (pr r:Nat):List Nat:=(List.range 256).map fun b=>staN L b + seenB L pr r (UInt8.ofNat b)
theorem nextA_len (L:List UInt8) (pr r:Nat):(nextA L pr r).length = 256:=by simp [nextA]
theorem nextA_at (L:List UInt8) (pr r:Nat) (b:UInt8):(nextA L pr r)[b.toNat]? = some (startB L b + seenB L pr r b):=by
 have hb:=UInt8.toNat_lt b
 unfold nextA
 rw [List.getElem?_map,List.getElem?_range (by omega)]
 simp only [Option.map_some,UInt8.ofNat_toNat]
 rfl
theorem nextA_zero (L:List UInt8) (pr:Nat):nextA L pr 0 = mixC L 256:=by
 apply List.ext_getElem?
 intro i
 by_cases hi:i < 256
 ·rw [mixC_at _ _ _ hi,if_pos hi]
  unfold nextA
  rw [List.getElem?_map,List.getElem?_range hi]
  simp [seenB]
 ·rw [List.getElem?_eq_none (by rw [nextA_len];omega),List.getElem?_eq_none (by rw [mixC_len];omega)]
theorem seen_succ (L:List UInt8) (pr r:Nat) (b:UInt8):seenB L pr (r + 1) b = seenB L pr r b + if r ≠ pr∧atB L pr r = b then 1 else 0:=by
 unfold seenB
 rw [List.range_succ,List.countP_append]
 by_cases h1:r = pr
 ·simp [h1]
 ·by_cases h2:atB L pr r = b <;> simp [h1,h2]
theorem nextA_skip (L:List UInt8) (pr:Nat):nextA L pr (pr + 1) = nextA L pr pr:=by
 unfold nextA
 apply List.map_congr_left
 intro b _
 rw [seen_succ,if_neg (by simp)]
 rfl
theorem nextA_succ (L:List UInt8) (pr r:Nat) (h:r ≠ pr):nextA L pr (r + 1) = (nextA L pr r).set (atB L pr r).toNat (stepB L pr r + 1):=by
 apply List.ext_getElem?
 intro i
 have hx:=UInt8.toNat_lt (atB L pr r)
 by_cases hi:i < 256
 ·have hi2:(UInt8.ofNat i).toNat = i:=by simp;omega
  rw [List.getElem?_set]
  have e:=nextA_at L pr (r + 1) (UInt8.ofNat i)
  have e2:=nextA_at L pr r (UInt8.ofNat i)
  rw [hi2] at e e2
  rw [e,e2,seen_succ]
  by_cases h2:atB L pr r = UInt8.ofNat i
  ·have h3:(atB L pr r).toNat = i:=by rw [h2,hi2]
   rw [if_pos ⟨h,h2⟩,if_pos h3,if_pos (by rw [nextA_len];omega)]
   unfold stepB
   rw [if_neg h,h2]
   rfl
  ·have h3:¬ (atB L pr r).toNat = i:=by
    intro e3
    exact h2 (by rw [← e3,UInt8.ofNat_toNat])
   rw [if_neg (fun c=>h2 c.2),if_neg h3]
   rfl
 ·rw [List.getElem?_eq_none (by rw [nextA_len];omega),List.getElem?_eq_none (by rw [List.length_set,nextA_len];omega)]
end BwW
end Go.Proofs.YtnpncpoiiikafaaGreat
namespace Go.Proofs.YtnpncpoiiikafaaGreat
open Go.RowKit
namespace BwW
open SufW (stepB seenB startB atB idxB atB_idx w64s nt nt_len nt_at nt_set made_nt step_lt)
def rowsT (L:List UInt8) (pr r:Nat):List Nat:=(List.range (L.length + 1)).map fun i=>if i < r then stepB L pr i else 0
theorem rowsT_len (L:List UInt8) (pr r:Nat):(rowsT L pr r).length = L.length + 1:=by simp [rowsT]
theorem rowsT_at (L:List UInt8) (pr r i:Nat) (h:i < L.length + 1):(rowsT L pr r)[i]? = some (if i < r then stepB L pr i else 0):=by simp [rowsT,h]
theorem rowsT_zero (L:List UInt8) (pr:Nat):rowsT L pr 0 = List.replicate (L.length + 1) 0:=by
 apply List.ext_getElem?
 intro i
 by_cases h:i < L.length + 1
 ·rw [rowsT_at _ _ _ _ h,if_neg (Nat.not_lt_zero i),List.getElem?_replicate,if_pos h]
 ·rw [List.getElem?_eq_none (by rw [rowsT_len];omega),List.getElem?_eq_none (by rw [List.length_replicate];omega)]
theorem rowsT_succ (L:List UInt8) (pr r:Nat) (h:r < L.length + 1):rowsT L pr (r + 1) = (rowsT L pr r).set r (stepB L pr r):=by
 apply List.ext_getElem?
 intro i
 by_cases hi:i < L.length + 1
 ·rw [List.getElem?_set,rowsT_at _ _ _ _ hi,rowsT_at _ _ _ _ hi,rowsT_len]
  by_cases e:r = i
  ·subst e;rw [if_pos (by omega),if_pos rfl,if_pos h]
  ·rw [if_neg e]
   by_cases c:i < r
   ·rw [if_pos (by omega),if_pos c]
   ·rw [if_neg (by omega),if_neg c]
 ·rw [List.getElem?_eq_none (by rw [rowsT_len];omega),List.getElem?_eq_none (by rw [List.length_set,rowsT_len];omega)]
theorem rowsT_skip (L:List UInt8) (pr:Nat) (h:pr < L.length + 1):rowsT L pr (pr + 1) = rowsT L pr pr:=by
 apply List.ext_getElem?
 intro i
 by_cases hi:i < L.length + 1
 ·rw [rowsT_at _ _ _ _ hi,rowsT_at _ _ _ _ hi]
  by_cases e:i = pr
  ·subst e;rw [if_pos (by omega),if_neg (by omega)];simp [stepB]
  ·by_cases c:i < pr
   ·rw [if_pos (by omega),if_pos c]
   ·rw [if_neg (by omega),if_neg c]
 ·rw [List.getElem?_eq_none (by rw [rowsT_len];omega),List.getElem?_eq_none (by rw [rowsT_len];omega)]
theorem Steps_ok (L:List UInt8) (pr:Nat) (w:World) (hL:L.length≤20000) (hm:mayB L.length (pr:Int) = true) :
 Calls Tryz.prog 147 #[str L,.int .i64 pr] w fun e w'=>∃ g,e = .returned (.tuple #[.slice (some ⟨g,0,none⟩) (L.length + 1) (L.length + 1),.int .i64 0])∧w.heap.size≤g∧Blk w' g 3 (nt (rowsT L pr (L.length + 1))).toArray∧Below w.heap.size w w':=by
 have hI:¬ (20000:Int) < (L.length:Int):=by omega
 have CS:=Lib.hid (fun w=>starts_any L w (by omega))
 have CM:=Lib.hid (fun w=>may_any L (pr:Int) w true hm)
 obtain ⟨ds,hds⟩:∃ ds,(nt (mixC L 256)).toArray = ds:=⟨_,rfl⟩
 have hdz:ds.size = 256:=by rw [← hds,List.size_toArray,nt_len,mixC_len]
 rw [hds] at CS
 have hn1:IntKind.i64.wrap ((L.length:Int) + 1) = (L.length:Int) + 1:=w64s (by omega) (by omega)
 have hmf:∀ (fn:Fn) (first cap:Array Value) (w:World),(Instr.makeFunc fn first cap).run Tryz.prog w = .ok (.func fn first cap) w:=fun _ _ _ _=>rfl
 go_enter Tryz.func147,Tryz.ntmps147
 go_wp2_with fail
 refine (CM.out _).mono ?_
 rintro e w1 ⟨rfl,HB⟩
 go_wp2_with fail
 refine (CS.out _).mono ?_
 rintro e w2 ⟨rfl,hb2⟩
 replace HB:=HB.trans (hb2.mono HB.size)
 have hst:(storeCells ⟨w2.heap.size,0,none⟩ ds.toList).run Tryz.prog (w2.alloc (.cells Tryz.zeroCells252 252)) = .ok () (w2.alloc (.cells ds 252)):=by
  have hz:Tryz.zeroCells252.size = 256:=by kernel_rfl
  have:=run_storeCells_from (P:=Tryz.prog) w2.heap.size 252 ds.toList 0 _ (w2.alloc (.cells Tryz.zeroCells252 252)) (heap_alloc_new w2 _) (by rw [Array.length_toList,hdz,hz]) (fun v hv=>by
   rw [← hds,List.toList_toArray] at hv
   obtain ⟨y,_,rfl⟩:=List.mem_map.1 hv
   rfl)
  rw [World.setRow_alloc_new] at this
  simpa using this
 have hmk:(Instr.makeSlice 84 (.int .i64 ((L.length:Int) + 1)) (.int .i64 ((L.length:Int) + 1))).run Tryz.prog (w2.alloc (.cells ds 252)) = .ok (.slice (some ⟨w2.heap.size + 1,0,none⟩) (L.length + 1) (L.length + 1)) ((w2.alloc (.cells ds 252)).alloc (.cells (nt (List.replicate (L.length + 1) 0)).toArray 3)):=by
  have:=made_nt (L.length + 1) (by omega) (w2.alloc (.cells ds 252))
  rwa [World.size_alloc] at this
 have HB0:=(HB.alloc HB.size (.cells ds 252)).alloc (by have:=HB.size;simp only [World.size_alloc];omega) (.cells (nt (List.replicate (L.length + 1) 0)).toArray 3)
 have B0:=(Blk.new w2 252 ds).alloc (.cells (nt (List.replicate (L.length + 1) 0)).toArray 3)
 have B1:=Blk.new (w2.alloc (.cells ds 252)) 3 (nt (List.replicate (L.length + 1) 0)).toArray
 rw [World.size_alloc] at B1
 go_wp2_with fail
 have hzz:ds = (nt (nextA L pr 0)).toArray:=by rw [nextA_zero,hds]
 have hpl:pr≤L.length:=by
  unfold mayB at hm
  split at hm
  ·have:=of_decide_eq_true hm;omega
  ·simp at hm;omega
 have hws:=HB.size
 generalize w2.heap.size = G at *
 obtain ⟨wz,hwz⟩:∃ wz,(w2.alloc (.cells ds 252)).alloc (.cells (nt (List.replicate (L.length + 1) 0)).toArray 3) = wz:=⟨_,rfl⟩
 rw [hwz] at HB0 B0 B1 ⊢
 rw [← rowsT_zero L pr] at B1
 clear hst hmk hb2 HB hwz CS CM hm hds hdz
 subst hzz
 go_loopw [26] (fun iv wr=>∃ r:Nat,iv = .int .i64 r∧r≤L.length + 1∧Blk wr G 252 (nt (nextA L pr r)).toArray∧Blk wr (G + 1) 3 (nt (rowsT L pr r)).toArray∧Below w.heap.size w wr) (fun iv _=>L.length + 1 - (intOf iv).toNat)
 case atStart=>exact ⟨0,rfl,by omega,B0,B1,HB0⟩
 case round =>
  clear B0 B1 HB0
  obtain ⟨r,rfl,hr,B0,B1,HW⟩:=hrel
  by_cases hlt:r < L.length + 1
  ·have hki:(r:Int) < (L.length:Int) + 1:=by omega
   have hk0:(0:Int)≤(r:Int):=by omega
   have hk1:IntKind.i64.wrap ((r:Int) + 1) = (r:Int) + 1:=w64s (by omega) (by omega)
   by_cases hne:r = pr
   ·subst hne
    go_wp2_with fail
    go_roundw
    case rel=>exact ⟨r + 1,by go_num,by omega,by rw [nextA_skip];exact B0,by rw [rowsT_skip _ _ hlt];exact B1,HW⟩
    case measure=>simp [intOf];omega
   ·have hneI:¬ (r:Int) = (pr:Int):=by omega
    have hneb:((r:Int) != (pr:Int)) = true:=by simp;omega
    have CA:=Lib.hid (fun w=>at_any L pr r w hpl (by omega) hne (by omega))
    have hxb:stepB L pr r≤1000000:=by have:=step_lt L pr r (by omega) hpl;omega
    have hx:(nextA L pr r)[(atB L pr r).toNat]? = some (stepB L pr r):=by rw [nextA_at];unfold stepB;rw [if_neg hne]
    have hbt:=UInt8.toNat_lt (atB L pr r)
    have HS0:=Lib.hid (nextA_succ L pr r hne)
    have HS1:=Lib.hid (rowsT_succ L pr r hlt)
    have hNL:=nextA_len L pr r
    generalize stepB L pr r = x at *
    generalize (atB L pr r).toNat = bt at *
    go_wp2_with fail
    refine (CA.out _).mono ?_
    clear CA
    rintro e w3 ⟨rfl,hb3⟩
    replace B0:=B0.below hb3 B0.lt
    replace B1:=B1.below hb3 B1.lt
    replace HW:=HW.trans (hb3.mono HW.size)
    clear hb3
    have CI:=inc_any G bt x (nextA L pr r) w3 (by omega) hNL B0 hx hxb
    go_wp2_with fail
    refine CI.mono ?_
    clear CI
    rintro e w4 ⟨rfl,rfl⟩
    have b0:=B0.set bt (.int .i64 ((x + 1:Nat):Int))
    rw [nt_set,← HS0.out] at b0
    have b1:=B1.far (p:=⟨G,bt,none⟩) (by dsimp only;omega) (.int .i64 ((x + 1:Nat):Int))
    have HW2:=HW.setCell (p:=⟨G,bt,none⟩) (by dsimp only;omega) (.int .i64 ((x + 1:Nat):Int))
    clear B0 B1 HW
    generalize w3.setCell ⟨G,bt,none⟩ (.int .i64 ((x + 1:Nat):Int)) = w4 at *
    have cx:∃ v,w4.cell? ⟨G + 1,r,none⟩ = some v:=by
     rw [b1.cell,List.getElem?_toArray]
     obtain ⟨y,hy⟩:∃ y,(rowsT L pr r)[r]? = some y:=⟨_,rowsT_at _ _ _ _ hlt⟩
     exact ⟨_,nt_at _ _ _ hy⟩
    obtain ⟨v0,cx⟩:=cx
    have fz:=b1.frozen r
    have lt1:=b1.lt
    have c1:=b1.set r (.int .i64 (x:Nat))
    rw [nt_set,← HS1.out] at c1
    have c0:=b0.far (p:=⟨G + 1,r,none⟩) (by dsimp only;omega) (.int .i64 (x:Nat))
    have HW3:=HW2.setCell (p:=⟨G + 1,r,none⟩) (by dsimp only;omega) (.int .i64 (x:Nat))
    go_wp2_with fail
    go_roundw
    case rel=>exact ⟨r + 1,by go_num,by omega,c0,c1,HW3⟩
    case measure=>simp [intOf];omega
  ·have hki:¬ (r:Int) < (L.length:Int) + 1:=by omega
   have hr1:r = L.length + 1:=by omega
   subst hr1
   go_wp2_with fail
   go_ret2
   exact ⟨G + 1,rfl,by omega,B1,HW⟩
theorem Steps_big (L:List UInt8) (pr:Int) (w:World) (hL:20000 < L.length) :
 Calls Tryz.prog 147 #[str L,.int .i64 pr] w fun e w'=>e = .returned (.tuple #[.slice none 0 0,.int .i64 3])∧Below w.heap.size w w':=by
 have hI:(20000:Int) < (L.length:Int):=by omega
 go_enter Tryz.func147,Tryz.ntmps147
 go_wp2_with fail
 go_ret2
 exact ⟨rfl,Below.refl _ _⟩
theorem Steps_not (L:List UInt8) (pr:Int) (w:World) (hL:L.length≤20000) (hm:mayB L.length pr = false) :
 Calls Tryz.prog 147 #[str L,.int .i64 pr] w fun e w'=>e = .returned (.tuple #[.slice none 0 0,.int .i64 130])∧Below w.heap.size w w':=by
 have hI:¬ (20000:Int) < (L.length:Int):=by omega
 have CM:=may_any L pr w false hm
 go_enter Tryz.func147,Tryz.ntmps147
 go_wp2_with fail
 refine CM.mono ?_
 rintro e w1 ⟨rfl,HB⟩
 go_wp2_with fail
 go_ret2
 exact ⟨rfl,HB⟩
end BwW
end Go.Proofs.YtnpncpoiiikafaaGreat
