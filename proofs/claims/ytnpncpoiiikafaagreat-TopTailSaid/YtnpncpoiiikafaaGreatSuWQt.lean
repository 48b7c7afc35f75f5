/- SuW -/
import Derived.Test.YtnpncpoiiikafaaGreatTakRQt
import Derived.Test.YtnpncpoiiikafaaGreatAppQt
import Derived.Test.YtnpncpoiiikafaaGreatLenBQt
import Derived.Test.YtnpncpoiiikafaaGreatCanWQt
import Derived.LoopTactic
import Derived.WalkMore
import Derived.Test.YtnpncpoiiikafaaGreatMemQt
set_option linter.unusedVariables false
set_option linter.unusedSimpArgs false
set_option linter.unnecessarySimpa false
set_option maxRecDepth 100000
set_option maxHeartbeats 32000000
namespace Go.Proofs.YtnpncpoiiikafaaGreat
open Go.RowKit
namespace SufW
theorem w64s {x:Int} (h1:-4611686018427387904≤x) (h2:x≤4611686018427387904):IntKind.i64.wrap x = x:=by rw [IntKind.wrap_i64];omega
def nt (l:List Nat):List Value:=ints (l.map Int.ofNat)
theorem nt_len (l:List Nat):(nt l).length = l.length:=by simp [nt,ints_len]
theorem nt_at (l:List Nat) (i:Nat) (x:Nat) (h:l[i]? = some x):(nt l)[i]? = some (.int .i64 (x:Nat)):=by simp [nt,ints,h]
theorem nt_set (l:List Nat) (s x:Nat):(nt l).toArray.setIfInBounds s (.int .i64 (x:Nat)) = (nt (l.set s x)).toArray:=by
 simp [nt,ints,List.map_set]
theorem made_nt (n:Nat) (hn:n≤1000002) (w:World):(Instr.makeSlice 84 (.int .i64 (n:Int)) (.int .i64 (n:Int))).run Tryz.prog w = .ok (.slice (some ⟨w.heap.size,0,none⟩) n n) (w.alloc (.cells (nt (List.replicate n 0)).toArray 3)):=by
 have hmk:=LenW.run_made (P:=Tryz.prog) 84 3 (.int .i64 0) 1 8 Tryz.underlying84 (by kernel_rfl) n (by omega) (by omega) w
 have e:nt (List.replicate n 0) = ints (List.replicate n 0):=by simp [nt,ints]
 rw [e,← LenW.made_ints]
 rw [Nat.mul_one] at hmk
 exact hmk
theorem upto_any (n:Nat) (hn:n≤100000) (w:World) :
 Calls Tryz.prog 179 #[.int .i64 n] w fun e w'=>e = .returned (.slice (some ⟨w.heap.size,0,none⟩) n n)∧Blk w' w.heap.size 3 (nt (List.range n)).toArray∧Below w.heap.size w w':=by
 have hmk:=made_nt n (by omega) w
 have B0:=Blk.new w 3 (nt (List.replicate n 0)).toArray
 have HB:=(Below.refl w.heap.size w).alloc (Nat.le_refl _) (.cells (nt (List.replicate n 0)).toArray 3)
 go_enter Tryz.func179,Tryz.ntmps179
 go_wp2_with fail
 go_loopw [9] (fun iv wr=>∃ k:Nat,k≤n∧iv = .int .i64 (k:Nat)∧Blk wr w.heap.size 3 (nt (List.range k ++ List.replicate (n - k) 0)).toArray∧Below w.heap.size w wr) (fun iv _=>n - (intOf iv).toNat)
 case atStart=>exact ⟨0,by omega,rfl,by simpa using B0,HB⟩
 case round =>
  obtain ⟨k,hk,rfl,b,hb⟩:=hrel
  by_cases hlt:k < n
  ·have hkI:(k:Int) < (n:Int):=by omega
   have hk0:(0:Int)≤(k:Int):=by omega
   have hk1:IntKind.i64.wrap ((k:Int) + 1) = (k:Int) + 1:=w64s (by omega) (by omega)
   have hlen:(List.range k ++ List.replicate (n - k) 0).length = n:=by simp;omega
   have hc:wr.cell? ⟨w.heap.size,k,none⟩ = some (.int .i64 (0:Nat)):=by
    rw [b.cell,List.getElem?_toArray]
    refine nt_at _ k 0 ?_
    rw [List.getElem?_append_right (by simp),List.length_range,Nat.sub_self,List.getElem?_replicate,if_pos (by omega)]
   have hf:=b.frozen k
   have hl:=b.lt
   have HS:Hid (nt ((List.range k ++ List.replicate (n - k) 0).set k k) = nt (List.range (k + 1) ++ List.replicate (n - (k + 1)) 0)):=Lib.hid (by
    congr 1
    rw [List.set_append_right _ _ (by simp),List.length_range,Nat.sub_self,List.range_succ,show n - k = (n - (k + 1)) + 1 by omega,List.replicate_succ,List.set_cons_zero,List.append_assoc]
    rfl)
   have b2:=b.set k (.int .i64 (k:Nat))
   rw [nt_set,HS.out] at b2
   have hb2:=hb.setCell (p:=⟨w.heap.size,k,none⟩) (Nat.le_refl _) (.int .i64 (k:Nat))
   go_wp2_with fail
   go_roundw
   case rel=>exact ⟨k + 1,by omega,by go_num,b2,hb2⟩
   case measure=>simp [intOf];omega
  ·have hkI:¬ (k:Int) < (n:Int):=by omega
   have e:k = n:=by omega
   have HE:=Lib.hid e
   clear e
   go_wp2_with fail
   go_ret
   refine ⟨rfl,?_,hb⟩
   have:=b
   rw [HE.out,Nat.sub_self] at this
   simpa using this
def KeyF (w0:World) (K:FuncId) (caps:Array Value) (l:List Nat) (key:Nat → Nat):Prop :=
 (∀ args w,(callFunc K args).run Tryz.prog w = .ok (.enter K args) w) ∧
 ∀ p ∈ l,∀ w,Below w0.heap.size w0 w → Calls Tryz.prog K (#[.int .i64 (p:Nat)] ++ caps) w fun e w'=>e = .returned (.int .i64 (key p:Nat))∧Below w.heap.size w w'
theorem counted_any (A:Option Addr) (n c:Nat) (l:List Nat) (key:Nat → Nat) (most:Nat) (K:FuncId) (caps:Array Value) (w:World) (h:Rd w w.heap.size 1 A n (nt l)) (hn:n≤100000) (hm:most≤1000000) (hk:∀ p ∈ l,key p≤most) (hF:KeyF w K caps l key) :
 Calls Tryz.prog 178 #[.slice A n c,.int .i64 most,.func (.func K) #[] caps] w fun e w'=>∃ g,e = .returned (.slice (some ⟨g,0,none⟩) n n)∧w.heap.size≤g∧Blk w' g 3 (nt (csort key most l)).toArray∧Below w.heap.size w w':=by
 obtain ⟨hcf,hK⟩:=hF
 have hln:l.length = n:=by have:=h.len;rw [nt_len] at this;omega
 have hmk:=made_nt (most + 2) (by omega) w
 have hm2:IntKind.i64.wrap ((most:Int) + 2) = (most:Int) + 2:=w64s (by omega) (by omega)
 have hmk':(Instr.makeSlice 84 (.int .i64 ((most:Int) + 2)) (.int .i64 ((most:Int) + 2))).run Tryz.prog w = .ok (.slice (some ⟨w.heap.size,0,none⟩) (most + 2) (most + 2)) (w.alloc (.cells (nt (List.replicate (most + 2) 0)).toArray 3)):=hmk
 go_enter Tryz.func178,Tryz.ntmps178
 have HB:=(Below.refl w.heap.size w).alloc (Nat.le_refl _) (.cells (nt (List.replicate (most + 2) 0)).toArray 3)
 have B0:=Blk.new w 3 (nt (List.replicate (most + 2) 0)).toArray
 rw [← rowC_nil key most] at HB B0
 go_wp2_with fail
 go_loopw [20] (fun iv wr=>∃ k:Nat,k≤n∧iv = .int .i64 (k:Nat)∧Blk wr w.heap.size 3 (nt (rowC key most (l.take k))).toArray∧Below w.heap.size w wr) (fun iv _=>n - (intOf iv).toNat)
 case atStart=>exact ⟨0,by omega,rfl,by rw [← rowC_nil key most];simpa using B0,by rw [← rowC_nil key most];exact HB⟩
 case round =>
  obtain ⟨k,hk2,rfl,b,hb⟩:=hrel
  by_cases hlt:k < n
  ·have hkl:k < l.length:=by omega
   obtain ⟨b0,o0,rfl,hb0,hcl⟩:=h.at_ (by omega)
   obtain ⟨p,hp⟩:∃ p,l[k] = p:=⟨_,rfl⟩
   have hpm:p ∈ l:=by rw [← hp];exact List.getElem_mem hkl
   have hnk:k < (nt l).length:=by rw [nt_len];exact hkl
   have hcp:wr.cell? ⟨b0,o0 + k,none⟩ = some (.int .i64 (p:Nat)):=by
    rw [hb.cell (p:=⟨b0,o0 + k,none⟩) hb0,hcl k hnk]
    have:=nt_at l k p (by rw [List.getElem?_eq_getElem hkl,hp])
    rw [List.getElem?_eq_getElem hnk] at this
    exact this
   have C:=hK p hpm wr hb
   have hkI:(k:Int) < (n:Int):=by omega
   have hk0:(0:Int)≤(k:Int):=by omega
   have hk1:IntKind.i64.wrap ((k:Int) + 1) = (k:Int) + 1:=w64s (by omega) (by omega)
   have hkp:=hk p hpm
   have b1':=fun w1 (hb1:Below wr.heap.size wr w1)=>b.below hb1 b.lt
   go_wp2_with fail
   refine C.mono ?_
   clear C
   rintro e w1 ⟨rfl,hb1⟩
   have b1:=b1' w1 hb1
   have HB1:=hb.trans (hb1.mono hb.size)
   have hkp1:IntKind.i64.wrap ((key p:Int) + 1) = (key p:Int) + 1:=w64s (by omega) (by omega)
   have hkpI:(key p:Int) + 1 < (most:Int) + 2:=by omega
   have hkp0:(0:Int)≤(key p:Int) + 1:=by omega
   have hcs:w1.cell? ⟨w.heap.size,key p + 1,none⟩ = some (.int .i64 (cntK key (l.take k) (key p):Nat)):=by
    rw [b1.cell,List.getElem?_toArray]
    refine nt_at _ _ _ ?_
    rw [rowC_at key most _ _ (by omega),if_neg (by omega),Nat.add_sub_cancel]
   have hcf1:=b1.frozen (key p + 1)
   have hlt1:=b1.lt
   have hct:cntK key (l.take k) (key p)≤100000:=by
    have:=cnt_take key l k (key p)
    have h2:cntK key l (key p)≤l.length:=List.countP_le_length
    omega
   have hcw:IntKind.i64.wrap ((cntK key (l.take k) (key p):Int) + 1) = (cntK key (l.take k) (key p):Int) + 1:=w64s (by omega) (by omega)
   have b2:=b1.set (key p + 1) (.int .i64 ((cntK key (l.take k) (key p) + 1:Nat):Int))
   have HT:Hid (rowC key most (l.take (k + 1)) = (rowC key most (l.take k)).set (key p + 1) (cntK key (l.take k) (key p) + 1)):=Lib.hid (by rw [List.take_succ_eq_append_getElem hkl,hp,rowC_snoc key most _ _ hkp])
   rw [nt_set,← HT.out] at b2
   have HB2:=HB1.setCell (p:=⟨w.heap.size,key p + 1,none⟩) (Nat.le_refl _) (.int .i64 ((cntK key (l.take k) (key p) + 1:Nat):Int))
   go_wp2_with fail
   go_roundw
   case rel=>exact ⟨k + 1,by omega,by go_num,b2,HB2⟩
   case measure=>simp [intOf];omega
  ·have hkI:¬ (k:Int) < (n:Int):=by omega
   have hm1:IntKind.i64.wrap ((most:Int) + 1) = (most:Int) + 1:=w64s (by omega) (by omega)
   have b0:Blk wr w.heap.size 3 (nt (rowS key most l 0)).toArray:=by
    have:=b
    rw [List.take_of_length_le (by omega),← rowS_zero] at this
    exact this
   clear B0 HB hmk hmk' b
   go_wp2_with fail
   go_loopw [36] (fun iv wr=>∃ i:Nat,i≤most + 1∧iv = .int .i64 (i:Nat)∧Blk wr w.heap.size 3 (nt (rowS key most l i)).toArray∧Below w.heap.size w wr) (fun iv _=>most + 1 - (intOf iv).toNat)
   case atStart=>exact ⟨0,by omega,rfl,b0,hb⟩
   case round =>
    obtain ⟨i,hi,rfl,b,hb⟩:=hrel
    by_cases hil:i < most + 1
    ·have hiI:(i:Int) < (most:Int) + 1:=by omega
     have hi0:(0:Int)≤(i:Int):=by omega
     have hi1:IntKind.i64.wrap ((i:Int) + 1) = (i:Int) + 1:=w64s (by omega) (by omega)
     have hiI2:(i:Int) + 1 < (most:Int) + 2:=by omega
     have hiI3:(i:Int) < (most:Int) + 2:=by omega
     have hi01:(0:Int)≤(i:Int) + 1:=by omega
     have hcA:wr.cell? ⟨w.heap.size,i + 1,none⟩ = some (.int .i64 (cntK key l i:Nat)):=by
      rw [b.cell,List.getElem?_toArray]
      refine nt_at _ _ _ ?_
      rw [rowS_at key most l i _ (by omega),if_neg (by omega),Nat.add_sub_cancel]
     have hcB:wr.cell? ⟨w.heap.size,i,none⟩ = some (.int .i64 (lessK key l i:Nat)):=by
      rw [b.cell,List.getElem?_toArray]
      refine nt_at _ _ _ ?_
      rw [rowS_at key most l i _ (by omega),if_pos (Nat.le_refl _)]
     have hcw:IntKind.i64.wrap ((cntK key l i:Int) + (lessK key l i:Int)) = (cntK key l i:Int) + (lessK key l i:Int):=by
      have h1:=lessK_le key l i
      have h2:cntK key l i≤l.length:=List.countP_le_length
      exact w64s (by omega) (by omega)
     have HS:Hid (rowS key most l (i + 1) = (rowS key most l i).set (i + 1) (cntK key l i + lessK key l i)):=Lib.hid (rowS_succ key most l i (by omega))
     have b2:=b.set (i + 1) (.int .i64 ((cntK key l i + lessK key l i:Nat):Int))
     rw [nt_set,← HS.out] at b2
     have hb2:=hb.setCell (p:=⟨w.heap.size,i + 1,none⟩) (Nat.le_refl _) (.int .i64 ((cntK key l i + lessK key l i:Nat):Int))
     have hfz:=b.frozen (i + 1)
     have hlt:=b.lt
     go_wp2_with fail
     refine wp_region_held_drew (S:=(fun _=>True)) (by kernel_rfl) ?_ (fun hHeld=>?_)
     ·(try dsimp only);try trivial
     refine zM 0 (.tmp 7) ?_
     refine zM 1 (.tmp 10) ?_
     refine zO 2 (.binOp .add 3 (.tmp 40) (.const (Value.int IntKind.i64 1)) 3) 3 ?_
     refine zO 3 (.indexAddr 84 (.tmp 39) (.tmp 41)) 0 ?_
     refine zM 5 (.tmp 7) ?_
     refine zM 6 (.tmp 10) ?_
     refine zO 7 (.indexAddr 84 (.tmp 44) (.tmp 45)) 0 ?_
     refine wpAnyH_ready (rs:=[4,8]) (by kernel_rfl) (by simp) (AllReadyH.cons rfl (fun K4 hK4=>?ku1x4) (AllReadyH.cons rfl (fun K8 hK8=>?ku1x8) AllReadyH.nil))
     case ku1x4 =>
      refine take_any 4 (Op.load 3 (Operand.tmp 42)) 3 rfl rfl rfl (by kernel_rfl) (v:=.int .i64 (cntK key l i:Nat)) (by skip;go_simp;try (with_reducible rfl)) ?_
      refine hK4.out _ _ ?su1xb1x4 (fun hHeld=>?ru1xb1x4)
      case su1xb1x4=>((try dsimp only);try trivial)
      try simp only [zSa,zSb,zSc]
      refine zR 8 (fun K8 hK8=>?_)
      refine take_any 8 (Op.load 3 (Operand.tmp 46)) 3 rfl rfl rfl (by kernel_rfl) (v:=.int .i64 (lessK key l i:Nat)) (by skip;go_simp;try (with_reducible rfl)) ?_
      refine hK8.out _ _ ?su1xb1x8 (fun hHeld=>?ru1xb1x8)
      case su1xb1x8=>((try dsimp only);try trivial)
      try simp only [zSa,zSb,zSc]
      refine zO 9 (.binOp .add 3 (.tmp 43) (.tmp 47) 3) 3 ?_
      refine zO 10 (.indexAddr 84 (.tmp 39) (.tmp 41)) 0 ?_
      refine zR 11 (fun K11 hK11=>?_)
      refine take_store 11 (Op.store 3 (Operand.tmp 49) (Operand.tmp 48)) 0 rfl rfl rfl (by kernel_rfl) (w':=wr.drew.setCell ⟨w.heap.size,i + 1,none⟩ (.int .i64 ((cntK key l i + lessK key l i:Nat):Int))) (by skip;go_simp;try (with_reducible rfl)) ?_
      refine hK11.out _ _ (trivial) (fun hHeld=>?_)
      refine wpAnyH_done (by kernel_rfl) ?_ _
      go_wp2_with fail
      go_roundw
      case rel=>exact ⟨i + 1,by omega,by go_num,b2,hb2.drew⟩
      case measure=>simp [intOf];omega
     case ku1x8 =>
      refine take_any 8 (Op.load 3 (Operand.tmp 46)) 3 rfl rfl rfl (by kernel_rfl) (v:=.int .i64 (lessK key l i:Nat)) (by skip;go_simp;try (with_reducible rfl)) ?_
      refine hK8.out _ _ ?su1xb4x8 (fun hHeld=>?ru1xb4x8)
      case su1xb4x8=>((try dsimp only);try trivial)
      try simp only [zSa,zSb,zSc]
      refine zR 4 (fun K4 hK4=>?_)
      refine take_any 4 (Op.load 3 (Operand.tmp 42)) 3 rfl rfl rfl (by kernel_rfl) (v:=.int .i64 (cntK key l i:Nat)) (by skip;go_simp;try (with_reducible rfl)) ?_
      refine hK4.out _ _ ?su1xb4x4 (fun hHeld=>?ru1xb4x4)
      case su1xb4x4=>((try dsimp only);try trivial)
      try simp only [zSa,zSb,zSc]
      refine zO 9 (.binOp .add 3 (.tmp 43) (.tmp 47) 3) 3 ?_
      refine zO 10 (.indexAddr 84 (.tmp 39) (.tmp 41)) 0 ?_
      refine zR 11 (fun K11 hK11=>?_)
      refine take_store 11 (Op.store 3 (Operand.tmp 49) (Operand.tmp 48)) 0 rfl rfl rfl (by kernel_rfl) (w':=wr.drew.setCell ⟨w.heap.size,i + 1,none⟩ (.int .i64 ((cntK key l i + lessK key l i:Nat):Int))) (by skip;go_simp;try (with_reducible rfl)) ?_
      refine hK11.out _ _ (trivial) (fun hHeld=>?_)
      refine wpAnyH_done (by kernel_rfl) ?_ _
      go_wp2_with fail
      go_roundw
      case rel=>exact ⟨i + 1,by omega,by go_num,b2,hb2.drew⟩
      case measure=>simp [intOf];omega
    ·have hiI:¬ (i:Int) < (most:Int) + 1:=by omega
     have bS:Blk wr w.heap.size 3 (nt (rowP key most l [])).toArray:=by
      have:=b
      rw [show i = most + 1 by omega,← rowP_nil] at this
      exact this
     have hmk2:=made_nt n (by omega) wr
     obtain ⟨gO,hgO⟩:∃ g,wr.heap.size = g:=⟨_,rfl⟩
     have bS2:=bS.alloc (.cells (nt (List.replicate n 0)).toArray 3)
     have bO2:=Blk.new wr 3 (nt (List.replicate n 0)).toArray
     have hB2:=hb.alloc hb.size (.cells (nt (List.replicate n 0)).toArray 3)
     have hO0:outC key most l [] = List.replicate n 0:=by rw [outC_nil key most l hk,hln]
     have hne0:w.heap.size < gO:=by rw [← hgO];exact b.lt
     rw [hgO] at bO2
     rw [← hO0] at bO2 hB2 bS2
     have HO:=Lib.hid hO0
     clear b b0 bS hO0
     go_wp2_with fail
     go_loopw [56] (fun iv wr=>∃ k:Nat,k≤n∧iv = .int .i64 (k:Nat)∧Blk wr w.heap.size 3 (nt (rowP key most l (l.take k))).toArray∧Blk wr gO 3 (nt (outC key most l (l.take k))).toArray∧Below w.heap.size w wr) (fun iv _=>n - (intOf iv).toNat)
     case atStart =>
      refine ⟨0,by omega,rfl,?_,?_,?_⟩
      ·rw [← HO.out];simpa using bS2
      ·rw [← HO.out];simpa using bO2
      ·rw [← HO.out];exact hB2
     case round =>
      obtain ⟨k,hk3,rfl,b,d,hb⟩:=hrel
      by_cases hlt3:k < n
      ·have hkl:k < l.length:=by omega
       obtain ⟨b0,o0,rfl,hb0,hcl⟩:=h.at_ (by omega)
       obtain ⟨p,hp⟩:∃ p,l[k] = p:=⟨_,rfl⟩
       have hpm:p ∈ l:=by rw [← hp];exact List.getElem_mem hkl
       have hnk:k < (nt l).length:=by rw [nt_len];exact hkl
       have hcp:wr.cell? ⟨b0,o0 + k,none⟩ = some (.int .i64 (p:Nat)):=by
        rw [hb.cell (p:=⟨b0,o0 + k,none⟩) hb0,hcl k hnk]
        have:=nt_at l k p (by rw [List.getElem?_eq_getElem hkl,hp])
        rw [List.getElem?_eq_getElem hnk] at this
        exact this
       have C:=hK p hpm wr hb
       have hkI:(k:Int) < (n:Int):=by omega
       have hk0:(0:Int)≤(k:Int):=by omega
       have hk1:IntKind.i64.wrap ((k:Int) + 1) = (k:Int) + 1:=w64s (by omega) (by omega)
       have hkp:=hk p hpm
       have hct:∀ kk,cntK key (l.take k ++ [p]) kk≤cntK key l kk:=fun kk=>by
        have:=cnt_take key l (k + 1) kk
        rw [List.take_succ_eq_append_getElem hkl,hp] at this
        exact this
       have hlen3:∀ kk,cntK key (l.take k) kk≤cntK key l kk:=fun kk=>cnt_take key l k kk
       obtain ⟨q,hq⟩:∃ q,lessK key l (key p) + cntK key (l.take k) (key p) = q:=⟨_,rfl⟩
       have hqn:=lessK_lt key most l hk (l.take k) p hkp hct
       have HP:Hid (rowP key most l (l.take (k + 1)) = (rowP key most l (l.take k)).set (key p) (q + 1)):=Lib.hid (by rw [List.take_succ_eq_append_getElem hkl,hp,rowP_snoc key most l _ _ hkp,hq])
       have HOo:Hid (outC key most l (l.take (k + 1)) = (outC key most l (l.take k)).set q p):=Lib.hid (by rw [List.take_succ_eq_append_getElem hkl,hp,outC_snoc key most l _ _ hkp hct,hq])
       rw [hq] at hqn
       have hol:=outC_len key most l (l.take k) hlen3 hk
       have hrp:=rowP_at key most l (l.take k) (key p) (by omega)
       rw [hq] at hrp
       have HRP:=Lib.hid hrp
       have HOL:=Lib.hid hol
       clear hq hrp hol hct hlen3
       go_wp2_with fail
       refine C.mono ?_
       clear C
       rintro e w1 ⟨rfl,hb1⟩
       have b1:=b.below hb1 b.lt
       have d1:=d.below hb1 d.lt
       have HB1:=hb.trans (hb1.mono hb.size)
       have hkpI:(key p:Int) < (most:Int) + 2:=by omega
       have hkp0:(0:Int)≤(key p:Int):=by omega
       have hqI:(q:Int) < (n:Int):=by omega
       have hq0:(0:Int)≤(q:Int):=by omega
       have hqw:IntKind.i64.wrap ((q:Int) + 1) = (q:Int) + 1:=w64s (by omega) (by omega)
       have hcs:w1.cell? ⟨w.heap.size,key p,none⟩ = some (.int .i64 (q:Nat)):=by
        rw [b1.cell,List.getElem?_toArray]
        exact nt_at _ _ _ HRP.out
       have hcf1:=b1.frozen (key p)
       have hdf1:=d1.frozen q
       have hlt1:=b1.lt
       have hlt2:=d1.lt
       obtain ⟨ov,hov⟩:∃ ov,(outC key most l (l.take k))[q]? = some ov:=⟨_,List.getElem?_eq_getElem (by rw [HOL.out];omega)⟩
       have hcd:w1.cell? ⟨gO,q,none⟩ = some (.int .i64 (ov:Nat)):=by
        rw [d1.cell,List.getElem?_toArray]
        exact nt_at _ _ _ hov
       have hne1:w.heap.size ≠ gO:=by omega
       have hne2:gO ≠ w.heap.size:=by omega
       have d2:=(d1.set q (.int .i64 (p:Nat))).far (p:=⟨w.heap.size,key p,none⟩) hne2 (.int .i64 ((q + 1:Nat):Int))
       rw [nt_set,← HOo.out] at d2
       have b2:=(b1.far (p:=⟨gO,q,none⟩) hne1 (.int .i64 (p:Nat))).set (key p) (.int .i64 ((q + 1:Nat):Int))
       rw [nt_set,← HP.out] at b2
       have HB2:=(HB1.setCell (p:=⟨gO,q,none⟩) (by dsimp only;omega) (.int .i64 (p:Nat))).setCell (p:=⟨w.heap.size,key p,none⟩) (Nat.le_refl _) (.int .i64 ((q + 1:Nat):Int))
       go_wp2_with fail
       go_roundw
       case rel=>exact ⟨k + 1,by omega,by go_num,b2,d2,HB2⟩
       case measure=>simp [intOf];omega
      ·have hkI:¬ (k:Int) < (n:Int):=by omega
       go_wp2_with fail
       go_ret
       have d3:=d
       rw [List.take_of_length_le (by omega),outC_all] at d3
       exact ⟨gO,rfl,by omega,d3,hb⟩
end SufW
end Go.Proofs.YtnpncpoiiikafaaGreat
