/- CrcM -/
import Derived.Test.YtnpncpoiiikafaaGreatDecPQt
set_option linter.unusedVariables false
set_option linter.unusedSimpArgs false
set_option linter.unnecessarySimpa false
set_option maxRecDepth 100000
set_option maxHeartbeats 32000000
namespace Go.Proofs.YtnpncpoiiikafaaGreat
open Go.RowKit
namespace FraW
open SufW (w64s)
def notU (x:Int):Int:=bits BinOp.xor .u32 4294967295 x
def sumGo (c:Int) (s:List UInt8):Int:=s.foldl (restV tabV) c
def sumV (s:List UInt8):Int:=notU (sumGo (notU 0) s)
theorem notU_in (x:Int):inU (notU x):=⟨bits_lo_u32 _ _ _,by have:=bits_hi_u32 BinOp.xor 4294967295 x;unfold notU;omega⟩
theorem sumGo_in:∀ (s:List UInt8) (c:Int),inU c → inU (sumGo c s)
 | [],_,h=>h
 | b :: s,c,_=>sumGo_in s (restV tabV c b) (rest_in tabV c b)
theorem sumGo_snoc (c:Int) (s:List UInt8) (k:Nat) (h:k < s.length):sumGo c (s.take (k + 1)) = restV tabV (sumGo c (s.take k)) s[k]:=by
 unfold sumGo
 rw [List.take_succ_eq_append_getElem h,List.foldl_append]
 rfl
theorem More_any (s:List UInt8) (w:World) (hs:s.length≤1000000) :
 Calls Tryz.prog 169 #[.agg (us tabV).toArray,.int .u32 0,str s] w fun e w'=>e = .returned (.int .u32 (sumV s))∧Below w.heap.size w w':=by
 have hT:tabV.length = 256:=by rw [tabV,tabN_len]
 obtain ⟨T,hTT⟩:∃ T,tabV = T:=⟨_,rfl⟩
 obtain ⟨ds,hds⟩:∃ ds,(us tabV).toArray = ds:=⟨_,rfl⟩
 rw [hds]
 have hdz:ds.size = 256:=by rw [← hds,List.size_toArray,us_len,hT]
 obtain ⟨s0,hs0⟩:∃ s0,w.heap.size = s0:=⟨_,rfl⟩
 obtain ⟨w0,hw0⟩:∃ w0,w.alloc (.cells ds 192) = w0:=⟨_,rfl⟩
 have B0:Blk w0 s0 192 ds:=by rw [← hw0,← hs0];exact Blk.new _ _ _
 have HB:Below w.heap.size w w0:=by rw [← hw0];exact (Below.refl w.heap.size w).alloc (Nat.le_refl _) _
 have HS0:=Lib.hid hs0
 have HDS:=Lib.hid hds
 have hn0:=notU_in 0
 have hn1:bits BinOp.xor .u32 4294967295 0 = notU 0:=rfl
 obtain ⟨c0,hc0⟩:∃ c,notU 0 = c:=⟨_,rfl⟩
 have HSV:Hid (sumV s = notU (sumGo c0 s)):=Lib.hid (by rw [← hc0];rfl)
 rw [hc0] at hn0 hn1
 have HT:=Lib.hid hT
 clear hds hTT hc0 hT hs0
 have hsg:IntKind.u32.signed = false:=rfl
 have hmx:IntKind.u32.max = 4294967295:=rfl
 have hw0':w.alloc (.cells ds 192) = w0:=hw0
 go_enter Tryz.func169,Tryz.ntmps169
 go_wp2_with fail
 rw [HS0.out]
 have HSG:=Lib.hid hsg
 have HMX:=Lib.hid hmx
 clear hw0'
 go_loopw [7,8] (fun cv iv wr=>∃ k:Nat,iv = .int .i64 k∧k≤s.length∧cv = .int .u32 (sumGo c0 (s.take k))∧Blk wr s0 192 ds∧Below w.heap.size w wr) (fun _ iv _=>s.length - (intOf iv).toNat)
 case atStart=>exact ⟨0,rfl,by omega,rfl,B0,HB⟩
 case round =>
  clear B0 HB
  obtain ⟨k,rfl,hk,rfl,B0,HB⟩:=hrel
  have hci:=sumGo_in (s.take k) c0 hn0
  by_cases hlt:k < s.length
  ·have HS:=Lib.hid (sumGo_snoc c0 s k hlt)
   obtain ⟨y,hy⟩:∃ y,s[k] = y:=⟨_,rfl⟩
   rw [hy] at HS
   have hbyte:({ data:=s.toArray }:ByteArray)[k]'(by show k < s.toArray.size;simpa using hlt) = y:=hy
   have hkI:(k:Int) < (s.length:Int):=by omega
   have hk0:(0:Int)≤(k:Int):=by omega
   have hk1:IntKind.i64.wrap ((k:Int) + 1) = (k:Int) + 1:=w64s (by omega) (by omega)
   have C:=rest_any s0 tabV (sumGo c0 (s.take k)) y wr (by rw [HDS.out];exact B0) HT.out hci
   rw [← HS.out] at C
   obtain ⟨cx,hcx⟩:∃ c,sumGo c0 (s.take k) = c:=⟨_,rfl⟩
   rw [hcx] at C
   rw [hcx]
   clear hcx hci hy
   go_wp2_with fail
   refine C.mono ?_
   rintro e w1 ⟨rfl,rfl⟩
   go_wp2_with fail
   go_roundw
   case rel=>exact ⟨k + 1,by go_num,by omega,rfl,B0,HB⟩
   case measure=>simp [intOf];omega
  ·have hkI:¬ (k:Int) < (s.length:Int):=by omega
   have hz:s.take k = s:=List.take_of_length_le (by omega)
   rw [hz] at *
   obtain ⟨cx,hcx⟩:∃ c,sumGo c0 s = c:=⟨_,rfl⟩
   have hfin:bits BinOp.xor .u32 4294967295 cx = sumV s:=by rw [HSV.out,hcx];rfl
   rw [hcx]
   have hsg:IntKind.u32.signed = false:=rfl
   have hmx:IntKind.u32.max = 4294967295:=rfl
   clear hcx hz hci
   go_wp2_with fail
   go_ret
   exact ⟨rfl,HB⟩
theorem Of_any (s:List UInt8) (w:World) (hs:s.length≤1000000) :
 Calls Tryz.prog 127 #[.agg (us tabV).toArray,str s] w fun e w'=>e = .returned (.int .u32 (sumV s))∧Below w.heap.size w w':=by
 have C:=Lib.hid (fun w=>More_any s w hs)
 have hT:tabV.length = 256:=by rw [tabV,tabN_len]
 obtain ⟨ds,hds⟩:∃ ds,(us tabV).toArray = ds:=⟨_,rfl⟩
 rw [hds] at C ⊢
 have hdz:ds.size = 256:=by rw [← hds,List.size_toArray,us_len,hT]
 have hsz:(Tryz.prog.info? 192).map (·.size) = some ds.size:=by
  have h:(Tryz.prog.info? 192).map (·.size) = some 256:=by kernel_rfl
  rw [h,hdz]
 have HB:Below w.heap.size w (w.alloc (.cells ds 192)):=(Below.refl w.heap.size w).alloc (Nat.le_refl _) _
 have HSZ:=Lib.hid hsz
 clear hds hT hsz hdz
 go_enter Tryz.func127,Tryz.ntmps127
 go_wp2_with fail
 refine wp_load_row 192 (.tmp 2) rfl w.heap.size rfl 192 ds (0,0) _ (Blk.new _ _ _) Tryz.underlying192 rfl HSZ.out ?_
 go_wp2_with fail
 refine (C.out _).mono ?_
 rintro e w1 ⟨rfl,hb1⟩
 go_wp2_with fail
 go_ret
 exact ⟨rfl,HB.trans (hb1.mono HB.size)⟩
end FraW
end Go.Proofs.YtnpncpoiiikafaaGreat
