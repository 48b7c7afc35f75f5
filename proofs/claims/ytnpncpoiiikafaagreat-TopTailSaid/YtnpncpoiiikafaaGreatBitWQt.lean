/- BitW -/
import Derived.Test.YtnpncpoiiikafaaGreatZruPQt
import Derived.Test.YtnpncpoiiikafaaGreatAppQt
import Derived.Test.YtnpncpoiiikafaaGreatLenBQt
import Derived.Outline
import Derived.Test.YtnpncpoiiikafaaGreatCanXQt
import Derived.Test.YtnpncpoiiikafaaGreatFrontWQt
import Derived.Test.YtnpncpoiiikafaaGreatMemQt
set_option linter.unusedVariables false
set_option linter.unusedSimpArgs false
set_option linter.unnecessarySimpa false
set_option maxRecDepth 100000
set_option maxHeartbeats 32000000
namespace Go.Proofs.YtnpncpoiiikafaaGreat
open Go.RowKit
namespace BitW
structure Wfr (w w':World) (g:Nat) (ab:Option Nat):Prop where
 os:w'.os = w.os
 tape:w'.tape = w.tape
 output:w'.output = w.output
 size:w.heap.size≤w'.heap.size
 block:∀ k,k < w.heap.size → k ≠ g → ab ≠ some k → w'.heap[k]? = w.heap[k]?
def Fresh (w:World) (ab ab':Option Nat):Prop:=ab' = ab ∨ ∃ k,ab' = some k∧w.heap.size≤k
theorem Wfr.refl (w:World) (g:Nat) (ab:Option Nat):Wfr w w g ab:=⟨rfl,rfl,rfl,Nat.le_refl _,fun _ _ _ _=>rfl⟩
theorem Fresh.refl (w:World) (ab:Option Nat):Fresh w ab ab:=.inl rfl
theorem Wfr.trans {w w1 w2:World} {g:Nat} {ab ab1:Option Nat} (h:Wfr w w1 g ab) (k:Wfr w1 w2 g ab1) (hf:Fresh w ab ab1):Wfr w w2 g ab :=
 ⟨k.os.trans h.os,k.tape.trans h.tape,k.output.trans h.output,Nat.le_trans h.size k.size,fun j hj h1 h2 =>
  (k.block j (Nat.lt_of_lt_of_le hj h.size) h1 (by intro e;rcases hf with rfl | ⟨i,rfl,hi⟩ <;> first | exact h2 e | (simp only [Option.some.injEq] at e;omega))).trans (h.block j hj h1 h2)⟩
theorem Fresh.trans {w w1:World} {ab ab1 ab2:Option Nat} (h:Fresh w ab ab1) (k:Fresh w1 ab1 ab2) (hs:w.heap.size≤w1.heap.size):Fresh w ab ab2:=by
 rcases k with rfl | ⟨i,rfl,hi⟩
 ·exact h
 ·exact .inr ⟨i,rfl,by omega⟩
theorem Wfr.set {w w1:World} {g:Nat} {ab:Option Nat} (h:Wfr w w1 g ab) (i:Nat) (v:Value):Wfr w (w1.setCell ⟨g,i,none⟩ v) g ab :=
 ⟨h.os,h.tape,h.output,by simpa [World.setCell] using h.size,fun k hk h1 h2=>(Below.heap_setCell _ _ _ k (by show k ≠ g;exact h1)).trans (h.block k hk h1 h2)⟩
theorem Wfr.drew {w w1:World} {g:Nat} {ab:Option Nat} (h:Wfr w w1 g ab):Wfr w w1.drew g ab:=⟨h.os,h.tape,h.output,h.size,h.block⟩
theorem Wfr.grown {w w1 w2:World} {g:Nat} {ab row:Option Nat} (h:Wfr w w1 g ab) (hg:w1.grownBy w2 row) (hr:row = none ∨ Fresh w ab row):Wfr w w2 g ab :=
 ⟨hg.os.trans h.os,hg.tape.trans h.tape,hg.output.trans h.output,Nat.le_trans h.size hg.size,fun k hk h1 h2 =>
  (hg.block k (Nat.lt_of_lt_of_le hk h.size) (by intro e;rcases hr with rfl | rfl | ⟨i,rfl,hi⟩ <;> first | exact h2 e.symm | (simp only [Option.some.injEq,reduceCtorEq] at e;omega) | cases e)).trans (h.block k hk h1 h2)⟩
theorem Wfr.below {w w':World} {g B:Nat} {ab:Option Nat} (h:Wfr w w' g ab) (hB:B≤w.heap.size) (hg:B≤g) (ha:∀ k,ab = some k → B≤k):Below B w w' :=
 ⟨h.os,h.tape,h.output,h.size,fun k hk=>h.block k (by omega) (by omega) (fun e=>by have:=ha k e;omega)⟩
theorem El_u8:El Tryz.prog 99 5 1 1:=El.mk' Tryz.underlying99 (z:=.int .u8 0) (by kernel_rfl) rfl (by decide)
structure Wr (w:World) (base g:Nat) (ab:Option Nat) (l:List Nat):Prop where
 at_:∃ A nb c bs r k,Blk w g 171 #[.slice A nb c,.int .u64 (r:Nat),.int .i64 (k:Nat)]∧Own w base 5 1 A nb c (byts bs)∧blkOf A = ab∧k < 8∧r < 2 ^ k∧l = bitsB bs ++ dg k r
 base_lt:g < base
theorem Wr.fresh (w:World):Wr (w.alloc (.cells #[.slice none 0 0,.int .u64 0,.int .i64 0] 171)) (w.heap.size + 1) w.heap.size none [] :=
 ⟨⟨none,0,0,[],0,0,Blk.new _ _ _,Own.nil _ _ _ _,rfl,by omega,by simp,rfl⟩,by omega⟩
theorem put_any (base g:Nat) (ab:Option Nat) (l:List Nat) (x width:Nat) (w:World) (h:Wr w base g ab l) (hx:x < 2 ^ width) (hw:width≤32) (hl:l.length≤1000000) (hbs:base≤w.heap.size) :
 Calls Tryz.prog 188 #[.pointer (some ⟨g,0,none⟩),.int .i64 x,.int .i64 width] w fun e w'=>e = .returned (.tuple #[])∧∃ ab',Wr w' base g ab' (l ++ dg width x)∧Fresh w ab ab'∧Wfr w w' g ab:=by
 obtain ⟨⟨A,nb,c,bs,r,k,bG,o,hab,hk,hr,rfl⟩,hgb⟩:=h
 subst hab
 have bG':=bG
 obtain ⟨c0,c1,c2,f0,f1,f2,z⟩:=blk3 bG'
 clear bG'
 go_enter Tryz.func188,Tryz.ntmps188
 go_wp2_with fail
 go_region
 all_goals
  have hrw:r * 2 ^ width < 2 ^ 40:=by
   have h1:r < 2 ^ 7:=Nat.lt_of_lt_of_le hr (Nat.pow_le_pow_right (by omega) (by omega))
   have h2:(2:Nat) ^ width≤2 ^ 32:=Nat.pow_le_pow_right (by omega) hw
   calc r * 2 ^ width≤127 * 2 ^ 32:=Nat.mul_le_mul (by omega) h2
    _ < 2 ^ 40:=by decide
  have hxw:x < 2 ^ 32:=Nat.lt_of_lt_of_le hx (Nat.pow_le_pow_right (by omega) hw)
  have hR:bits BinOp.or IntKind.u64 (IntKind.u64.wrap ((r:Int) * 2 ^ width)) (IntKind.u64.wrap (x:Int)) = ((x + r * 2 ^ width:Nat):Int):=by
   have e1:(r:Int) * 2 ^ width = ((r * 2 ^ width:Nat):Int):=by push_cast;rfl
   rw [e1,u64_in _ (by omega) (by omega),u64_in _ (by omega) (by omega)]
   exact bits_u64_or width x r hx (by omega)
  rw [hR]
  have hRb:x + r * 2 ^ width < 2 ^ 41:=by omega
  have bG1:Blk (((w.setCell ⟨g,1,none⟩ (.int .u64 ((x + r * 2 ^ width:Nat):Int))).setCell ⟨g,2,none⟩ (.int .i64 ((k:Int) + (width:Int)))).drew) g 171 #[.slice A nb c,.int .u64 ((x + r * 2 ^ width:Nat):Int),.int .i64 ((k + width:Nat):Int)]:=by
   have:=((bG.set 1 (.int .u64 ((x + r * 2 ^ width:Nat):Int))).set 2 (.int .i64 ((k:Int) + (width:Int)))).drew
   exact blk_eq this (by simp)
  have hA:=o.blk
  have o1:Own (((w.setCell ⟨g,1,none⟩ (.int .u64 ((x + r * 2 ^ width:Nat):Int))).setCell ⟨g,2,none⟩ (.int .i64 ((k:Int) + (width:Int)))).drew) base 5 1 A nb c (byts bs) :=
   ((o.far (fun e=>by have:=(hA _ e).1;dsimp only at this;omega) _).far (fun e=>by have:=(hA _ e).1;dsimp only at this;omega) _).drew
  have W1:Wfr w (((w.setCell ⟨g,1,none⟩ (.int .u64 ((x + r * 2 ^ width:Nat):Int))).setCell ⟨g,2,none⟩ (.int .i64 ((k:Int) + (width:Int)))).drew) g (blkOf A):=(((Wfr.refl w g (blkOf A)).set 1 _).set 2 _).drew
  have HL:Hid (bitsB bs ++ dg k r ++ dg width x = bitsB bs ++ dg (k + width) (x + r * 2 ^ width)):=Lib.hid (by rw [List.append_assoc,dg_cat k width r x hx,Nat.add_comm x])
  generalize hK:k + width = K at *
  have hK39:K≤39:=by omega
  generalize x + r * 2 ^ width = R at *
  generalize ((w.setCell ⟨g,1,none⟩ (.int .u64 (R:Int))).setCell ⟨g,2,none⟩ (.int .i64 ((k:Int) + (width:Int)))).drew = w1 at *
  have hlen:8 * nb + K≤1000040:=by
   have e1:=o.len
   rw [List.length_append,bitsB_len,dg_len] at hl
   simp [byts] at e1
   omega
  clear c0 c1 c2 f0 f1 f2 hR hrw
  go_wp2_with fail
  go_loopw [27] (fun _ wr=>∃ (K' nb' c':Nat) (A':Option Addr) (bs':List UInt8),Blk wr g 171 #[.slice A' nb' c',.int .u64 (R:Nat),.int .i64 (K':Nat)]∧Own wr base 5 1 A' nb' c' (byts bs') ∧
   bitsB bs' ++ dg K' R = bitsB bs ++ dg K R∧K'≤K∧8 * nb' + K' = 8 * nb + K∧Fresh w (blkOf A) (blkOf A')∧Wfr w wr g (blkOf A)) (fun _ w=>((w.cell? ⟨g,2,none⟩).map fun v=>(intOf v).toNat).getD 0)
  case atStart=>exact ⟨K,nb,c,A,bs,bG1,o1,rfl,Nat.le_refl _,rfl,Fresh.refl _ _,W1⟩
  case round =>
   obtain ⟨K',nb',c',A',bs',bG2,o2,hbits,hK',hnb,hfr,hW⟩:=hrel
   clear bG1 o1 W1
   have HBI:=Lib.hid hbits
   have hsz:=hW.size
   clear hbits
   have bG2':=bG2
   obtain ⟨c0,c1,c2,f0,f1,f2,z2⟩:=blk3 bG2'
   clear bG2'
   by_cases h8:8≤K'
   ·have h8I:(8:Int)≤(K':Int):=by omega
    go_wp2_with fail
    obtain ⟨k8,rfl⟩:∃ j,K' = j + 8:=⟨K' - 8,by omega⟩
    have HCM:=Lib.hid c2
    have hk8:((k8 + 8:Nat):Int) - 8 = (k8:Int):=by omega
    rw [hk8]
    have bG:Blk (wr.setCell ⟨g,2,none⟩ (.int .i64 (k8:Int))) g 171 #[.slice A' nb' c',.int .u64 (R:Nat),.int .i64 (k8:Nat)]:=bG2.set 2 _
    have hA2:=o2.blk
    replace o2:Own (wr.setCell ⟨g,2,none⟩ (.int .i64 (k8:Int))) base 5 1 A' nb' c' (byts bs'):=o2.far (fun e=>by have:=(hA2 _ e).1;dsimp only at this;omega) _
    replace hW:Wfr w (wr.setCell ⟨g,2,none⟩ (.int .i64 (k8:Int))) g (blkOf A):=hW.set 2 _
    have hsz3:base≤(wr.setCell ⟨g,2,none⟩ (.int .i64 (k8:Int))).heap.size:=by have:=hW.size;omega
    generalize wr.setCell ⟨g,2,none⟩ (.int .i64 (k8:Int)) = w3 at *
    have hsz4:=hW.size
    clear c0 c1 c2 f0 f1 f2 z2 bG2 hk8
    have hgw:=bG.lt
    have HBV:Hid ([Value.int .u8 (IntKind.u8.wrap ((R:Int) / 2 ^ k8))] = byts [UInt8.ofNat (R / 2 ^ k8 % 256)]):=Lib.hid (by
     have e1:(R:Int) / 2 ^ k8 = ((R / 2 ^ k8:Nat):Int):=by push_cast;rfl
     rw [e1]
     simp only [byts,List.map_cons,List.map_nil,byt]
     congr 2
     rw [UInt8.toNat_ofNat']
     generalize R / 2 ^ k8 = y
     simp [IntKind.wrap,IntKind.bits,IntKind.signed])
    have HST:Hid (bitsB (bs' ++ [UInt8.ofNat (R / 2 ^ k8 % 256)]) ++ dg k8 R = bitsB bs' ++ dg (k8 + 8) R):=Lib.hid (by
     rw [bitsB_app,List.append_assoc,Nat.add_comm k8 8,dg_app]
     congr 2
     show dg 8 (UInt8.ofNat (R / 2 ^ k8 % 256)).toNat ++ [] = _
     rw [List.append_nil,UInt8.toNat_ofNat']
     generalize R / 2 ^ k8 = y
     rw [show y % 256 % 2 ^ 8 = y % 2 ^ 8 from by omega,dg_mod 8 y 8 (Nat.le_refl _)])
    have HW3:=hW
    refine wp_region_held_drew (S:=(fun w'=>w'.cell? ⟨g,1,none⟩ = some (.int .u64 (R:Nat))∧w'.cell? ⟨g,2,none⟩ = some (.int .i64 (k8:Nat)))) (by kernel_rfl) ?_ (fun hHeld=>?_)
    ·replace o2:=Own.drew o2;replace bG:=Blk.drew bG;(try dsimp only);exact ⟨bG.cell_ 1 rfl,bG.cell_ 2 rfl⟩
    replace o2:=Own.drew o2
    replace bG:=Blk.drew bG
    refine zM 0 (.tmp 0) ?_
    refine zM 1 (.tmp 0) ?_
    refine zO 2 (.nilCheck (.tmp 40)) 0 ?_
    refine zO 3 (.fieldAddr 171 (.tmp 41) 0) 0 ?_
    refine zM 5 (.tmp 0) ?_
    refine zO 6 (.nilCheck (.tmp 44)) 0 ?_
    refine zO 7 (.fieldAddr 171 (.tmp 45) 1) 0 ?_
    refine zO 8 (.load 169 (.tmp 46)) 169 ?_
    refine zM 9 (.tmp 0) ?_
    refine zO 10 (.nilCheck (.tmp 48)) 0 ?_
    refine zO 11 (.fieldAddr 171 (.tmp 49) 2) 0 ?_
    refine zO 12 (.load 3 (.tmp 50)) 3 ?_
    refine zO 13 (.binOp .shr 169 (.tmp 47) (.tmp 51) 3) 169 ?_
    refine zO 14 (.convert 169 5 (.tmp 52)) 5 ?_
    refine wpAnyH_ready (rs:=[4,15]) (by kernel_rfl) (by simp) (AllReadyH.cons rfl (fun K4 hK4=>?ku1x4) (AllReadyH.cons rfl (fun K15 hK15=>?ku1x15) AllReadyH.nil))
    case ku1x4 =>
     refine take_any 4 (Op.load 99 (Operand.tmp 42)) 99 rfl rfl rfl (by kernel_rfl) (v:=.slice A' nb' c') (by have cL:=bG.cell_ 0 rfl;go_simp;try (with_reducible rfl)) ?_
     refine hK4.out _ _ ?su1xb1x4 (fun hHeld=>?ru1xb1x4)
     case su1xb1x4=>((try dsimp only);exact ⟨bG.cell_ 1 rfl,bG.cell_ 2 rfl⟩)
     try simp only [zSa,zSb,zSc]
     refine zR 15 (fun K15 hK15=>?_)
     refine take_build (e:=5) (len:=1) (size:=1) (base) ([Value.int .u8 (IntKind.u8.wrap ((R:Int) / 2 ^ k8))]) 15 (Op.buildSlice 99 1 #[(0,Operand.tmp 53)]) 99 rfl rfl rfl (by kernel_rfl) ?eu1xb1x15 (by rfl) (by decide) (by first | exact Nat.le_refl _ | (simp only [World.size_alloc,World.size_setCell,World.size_drew] at *;omega) | omega) ?_
     case eu1xb1x15=>(go_simp;try (first | with_reducible rfl | (simp [rcells,rcell];done) | (simp [fcells];done) | (simp [tcells];done) | rfl))
     intro gx15 w15 o15 gr15 l15 m15
     have z15:=gr15.size
     try simp only [World.size_drew] at z15
     replace o2:=Own.grow0 o2 gr15
     replace bG:=Blk.grow0 bG gr15
     refine hK15.out _ _ ?su1xb1x15 (fun hHeld=>?ru1xb1x15)
     case su1xb1x15=>((try dsimp only);exact ⟨bG.cell_ 1 rfl,bG.cell_ 2 rfl⟩)
     try simp only [zSa,zSb,zSc]
     refine zR 16 (fun K16 hK16=>?_)
     refine take_app El_u8 16 (Operand.tmp 43) (Operand.tmp 54) 99 rfl rfl rfl (by kernel_rfl) o2 rfl ((HBV.out ▸ o15.rd)) rfl (byts_one _) (by unfold maxLen;omega) (by omega) (by first | exact Nat.le_refl _ | (simp only [World.size_alloc,World.size_setCell,World.size_drew] at *;omega) | omega) ?_
     intro A16 c16 w16 o16 gr16 at16
     have z16:=gr16.size
     try simp only [World.size_drew] at z16
     replace bG:=Blk.grown bG gr16 (by intro e;have:=o2.blk _ e.symm;omega)
     refine hK16.out _ _ ?su1xb1x16 (fun hHeld=>?ru1xb1x16)
     case su1xb1x16=>((try dsimp only);exact ⟨bG.cell_ 1 rfl,bG.cell_ 2 rfl⟩)
     try simp only [zSa,zSb,zSc]
     refine zO 17 (.nilCheck (.tmp 39)) 0 ?_
     refine zO 18 (.fieldAddr 171 (.tmp 56) 0) 0 ?_
     refine zR 19 (fun K19 hK19=>?_)
     refine take_store 19 (Op.store 99 (Operand.tmp 57) (Operand.tmp 55)) 0 rfl rfl rfl (by kernel_rfl) (w':=w16.setCell ⟨g,0,none⟩ (.slice A16 (nb' + 1) c16)) (by obtain ⟨cL,_,_,fL,_,_,_⟩:=blk3 bG;go_simp;try (with_reducible rfl)) ?_
     refine hK19.out _ _ (⟨(bG.set 0 _).cell_ 1 rfl,(bG.set 0 _).cell_ 2 rfl⟩) (fun hHeld=>?_)
     refine wpAnyH_done (by kernel_rfl) ?_ _
     have e1:byts bs' ++ byts [UInt8.ofNat (R / 2 ^ k8 % 256)] = byts (bs' ++ [UInt8.ofNat (R / 2 ^ k8 % 256)]):=by simp [byts]
     rw [e1] at o16
     have hA16:=o16.blk
     have bGn:Blk (w16.setCell ⟨g,0,none⟩ (.slice A16 (nb' + 1) c16)) g 171 #[.slice A16 (nb' + 1) c16,.int .u64 (R:Nat),.int .i64 (k8:Nat)]:=bG.set 0 _
     have on:Own (w16.setCell ⟨g,0,none⟩ (.slice A16 (nb' + 1) c16)) base 5 1 A16 (nb' + 1) c16 (byts (bs' ++ [UInt8.ofNat (R / 2 ^ k8 % 256)])):=o16.far (fun e=>by have:=(hA16 _ e).1;dsimp only at this;omega) _
     have Wn:Wfr w (w16.setCell ⟨g,0,none⟩ (.slice A16 (nb' + 1) c16)) g (blkOf A):=((HW3.drew.grown gr15 (.inl rfl)).grown gr16 (.inr hfr)).set 0 _
     have Fn:Fresh w (blkOf A) (blkOf A16):=by
      rcases at16 with h | h
      ·rw [h];exact hfr
      ·exact .inr ⟨_,h,by omega⟩
     generalize w16.setCell ⟨g,0,none⟩ (.slice A16 (nb' + 1) c16) = wn at *
     go_wp2_with fail
     go_roundw
     case rel=>exact ⟨k8,nb' + 1,c16,A16,_,bGn,on,HST.out.trans HBI.out,by omega,by omega,Fn,Wn⟩
     case measure =>
      rw [HCM.out,bGn.cell_ 2 rfl]
      show (k8:Int).toNat < ((k8 + 8:Nat):Int).toNat
      omega
    case ku1x15 =>
     refine take_build (e:=5) (len:=1) (size:=1) (base) ([Value.int .u8 (IntKind.u8.wrap ((R:Int) / 2 ^ k8))]) 15 (Op.buildSlice 99 1 #[(0,Operand.tmp 53)]) 99 rfl rfl rfl (by kernel_rfl) ?eu1xb5x15 (by rfl) (by decide) (by first | exact Nat.le_refl _ | (simp only [World.size_alloc,World.size_setCell,World.size_drew] at *;omega) | omega) ?_
     case eu1xb5x15=>(go_simp;try (first | with_reducible rfl | (simp [rcells,rcell];done) | (simp [fcells];done) | (simp [tcells];done) | rfl))
     intro gx15 w15 o15 gr15 l15 m15
     have z15:=gr15.size
     try simp only [World.size_drew] at z15
     replace o2:=Own.grow0 o2 gr15
     replace bG:=Blk.grow0 bG gr15
     refine hK15.out _ _ ?su1xb5x15 (fun hHeld=>?ru1xb5x15)
     case su1xb5x15=>((try dsimp only);exact ⟨bG.cell_ 1 rfl,bG.cell_ 2 rfl⟩)
     try simp only [zSa,zSb,zSc]
     refine zR 4 (fun K4 hK4=>?_)
     refine take_any 4 (Op.load 99 (Operand.tmp 42)) 99 rfl rfl rfl (by kernel_rfl) (v:=.slice A' nb' c') (by have cL:=bG.cell_ 0 rfl;go_simp;try (with_reducible rfl)) ?_
     refine hK4.out _ _ ?su1xb5x4 (fun hHeld=>?ru1xb5x4)
     case su1xb5x4=>((try dsimp only);exact ⟨bG.cell_ 1 rfl,bG.cell_ 2 rfl⟩)
     try simp only [zSa,zSb,zSc]
     refine zR 16 (fun K16 hK16=>?_)
     refine take_app El_u8 16 (Operand.tmp 43) (Operand.tmp 54) 99 rfl rfl rfl (by kernel_rfl) o2 rfl ((HBV.out ▸ o15.rd)) rfl (byts_one _) (by unfold maxLen;omega) (by omega) (by first | exact Nat.le_refl _ | (simp only [World.size_alloc,World.size_setCell,World.size_drew] at *;omega) | omega) ?_
     intro A16 c16 w16 o16 gr16 at16
     have z16:=gr16.size
     try simp only [World.size_drew] at z16
     replace bG:=Blk.grown bG gr16 (by intro e;have:=o2.blk _ e.symm;omega)
     refine hK16.out _ _ ?su1xb5x16 (fun hHeld=>?ru1xb5x16)
     case su1xb5x16=>((try dsimp only);exact ⟨bG.cell_ 1 rfl,bG.cell_ 2 rfl⟩)
     try simp only [zSa,zSb,zSc]
     refine zO 17 (.nilCheck (.tmp 39)) 0 ?_
     refine zO 18 (.fieldAddr 171 (.tmp 56) 0) 0 ?_
     refine zR 19 (fun K19 hK19=>?_)
     refine take_store 19 (Op.store 99 (Operand.tmp 57) (Operand.tmp 55)) 0 rfl rfl rfl (by kernel_rfl) (w':=w16.setCell ⟨g,0,none⟩ (.slice A16 (nb' + 1) c16)) (by obtain ⟨cL,_,_,fL,_,_,_⟩:=blk3 bG;go_simp;try (with_reducible rfl)) ?_
     refine hK19.out _ _ (⟨(bG.set 0 _).cell_ 1 rfl,(bG.set 0 _).cell_ 2 rfl⟩) (fun hHeld=>?_)
     refine wpAnyH_done (by kernel_rfl) ?_ _
     have e1:byts bs' ++ byts [UInt8.ofNat (R / 2 ^ k8 % 256)] = byts (bs' ++ [UInt8.ofNat (R / 2 ^ k8 % 256)]):=by simp [byts]
     rw [e1] at o16
     have hA16:=o16.blk
     have bGn:Blk (w16.setCell ⟨g,0,none⟩ (.slice A16 (nb' + 1) c16)) g 171 #[.slice A16 (nb' + 1) c16,.int .u64 (R:Nat),.int .i64 (k8:Nat)]:=bG.set 0 _
     have on:Own (w16.setCell ⟨g,0,none⟩ (.slice A16 (nb' + 1) c16)) base 5 1 A16 (nb' + 1) c16 (byts (bs' ++ [UInt8.ofNat (R / 2 ^ k8 % 256)])):=o16.far (fun e=>by have:=(hA16 _ e).1;dsimp only at this;omega) _
     have Wn:Wfr w (w16.setCell ⟨g,0,none⟩ (.slice A16 (nb' + 1) c16)) g (blkOf A):=((HW3.drew.grown gr15 (.inl rfl)).grown gr16 (.inr hfr)).set 0 _
     have Fn:Fresh w (blkOf A) (blkOf A16):=by
      rcases at16 with h | h
      ·rw [h];exact hfr
      ·exact .inr ⟨_,h,by omega⟩
     generalize w16.setCell ⟨g,0,none⟩ (.slice A16 (nb' + 1) c16) = wn at *
     go_wp2_with fail
     go_roundw
     case rel=>exact ⟨k8,nb' + 1,c16,A16,_,bGn,on,HST.out.trans HBI.out,by omega,by omega,Fn,Wn⟩
     case measure =>
      rw [HCM.out,bGn.cell_ 2 rfl]
      show (k8:Int).toNat < ((k8 + 8:Nat):Int).toNat
      omega
   ·have h8I:¬ (8:Int)≤(K':Int):=by omega
    go_wp2_with fail
    go_region
    all_goals
     go_wp2_with fail
     have hK7:K'≤7:=by omega
     have hp:(2:Nat) ^ K'≤2 ^ 7:=Nat.pow_le_pow_right (by omega) hK7
     have hp0:0 < (2:Nat) ^ K':=Nat.pow_pos (by omega)
     have hAnd:bits BinOp.and IntKind.u64 (R:Int) (IntKind.u64.wrap (IntKind.u64.wrap (2 ^ K') - 1)) = ((R % 2 ^ K':Nat):Int):=by
      have e1:(2:Int) ^ K' = ((2 ^ K':Nat):Int):=by push_cast;rfl
      have e2:IntKind.u64.wrap ((2 ^ K':Nat):Int) = ((2 ^ K':Nat):Int):=u64_in _ (by omega) (by omega)
      have e3:IntKind.u64.wrap ((2 ^ K' - 1:Nat):Int) = ((2 ^ K' - 1:Nat):Int):=u64_in _ (by omega) (by omega)
      rw [e1,e2,show ((2 ^ K':Nat):Int) - 1 = ((2 ^ K' - 1:Nat):Int) from by omega,e3,
       bits_nat_and .u64 R (2 ^ K' - 1) (by simp [IntKind.bits];omega) (by simp [IntKind.bits];omega),Nat.and_two_pow_sub_one_eq_mod]
      have:R % 2 ^ K' < 2 ^ K':=Nat.mod_lt _ hp0
      exact u64_in _ (by omega) (by omega)
     rw [hAnd]
     have hA2:=o2.blk
     go_end0
     refine ⟨rfl,blkOf A',⟨⟨A',nb',c',bs',R % 2 ^ K',K',(bG2.set 1 (.int .u64 ((R % 2 ^ K':Nat):Int))).drew,(o2.far (fun e=>by have:=(hA2 _ e).1;dsimp only at this;omega) _).drew,rfl,by omega,Nat.mod_lt _ hp0,?_⟩,hgb⟩,hfr,(hW.set 1 _).drew⟩
     rw [dg_mod K' R K' (Nat.le_refl _),HBI.out]
     exact HL.out
end BitW
end Go.Proofs.YtnpncpoiiikafaaGreat
namespace Go.Proofs.YtnpncpoiiikafaaGreat
open Go.RowKit
namespace BitW
theorem fitsB_yes {n w:Int} (h:fitsB n w = true):∃ x k:Nat,n = x∧w = k∧k≤32∧x < 2 ^ k:=by
 simp only [fitsB,Bool.and_eq_true,decide_eq_true_eq] at h
 obtain ⟨⟨⟨h1,h2⟩,h3⟩,h4⟩:=h
 obtain ⟨x,rfl⟩:=Int.eq_ofNat_of_zero_le h3
 obtain ⟨k,rfl⟩:=Int.eq_ofNat_of_zero_le h1
 refine ⟨x,k,rfl,rfl,by omega,?_⟩
 rw [Int.toNat_natCast] at h4
 have e:(2:Int) ^ k = ((2 ^ k:Nat):Int):=by push_cast;rfl
 rw [e] at h4
 omega
theorem fits_no {n w:Int} (h:fitsB n w = false):w < 0 ∨ (0≤w∧32 < w) ∨ (0≤w∧w≤32∧n < 0) ∨ ∃ x k:Nat,n = x∧w = k∧k≤32∧2 ^ k≤x:=by
 by_cases h1:w < 0
 ·exact .inl h1
 by_cases h2:32 < w
 ·exact .inr (.inl ⟨by omega,h2⟩)
 by_cases h3:n < 0
 ·exact .inr (.inr (.inl ⟨by omega,by omega,h3⟩))
 obtain ⟨x,rfl⟩:=Int.eq_ofNat_of_zero_le (show 0≤n by omega)
 obtain ⟨k,rfl⟩:=Int.eq_ofNat_of_zero_le (show 0≤w by omega)
 refine .inr (.inr (.inr ⟨x,k,rfl,rfl,by omega,?_⟩))
 have e:(2:Int) ^ k = ((2 ^ k:Nat):Int):=by push_cast;rfl
 have h5:¬ ((x:Int) < 2 ^ (k:Int).toNat):=by
  intro h6
  have h7:fitsB (x:Int) (k:Int) = true:=by
   simp only [fitsB,Bool.and_eq_true,decide_eq_true_eq]
   exact ⟨⟨⟨by omega,by omega⟩,by omega⟩,h6⟩
  rw [h7] at h
  cases h
 rw [Int.toNat_natCast,e] at h5
 omega
theorem fits_any (n w:Int) (b:Bool) (hb:fitsB n w = b) (W:World) (hn:I64 n) :
 Calls Tryz.prog 187 #[.int .i64 n,.int .i64 w] W fun e w'=>e = .returned (.bool b)∧W = w':=by
 cases b with
 | true =>
  obtain ⟨x,k,rfl,rfl,hk,hx⟩:=fitsB_yes hb
  obtain ⟨q1,q2⟩:=hn
  have hz:((x:Int) / 2 ^ k == 0) = true:=by
   have e:(2:Int) ^ k = ((2 ^ k:Nat):Int):=by push_cast;rfl
   rw [e,beq_iff_eq]
   exact_mod_cast Nat.div_eq_of_lt hx
  clear hb hx
  go_enter Tryz.func187,Tryz.ntmps187
  go_wp2_with fail
  go_ret
  exact ⟨rfl,rfl⟩
 | false =>
  rcases fits_no hb with h | ⟨h,h2⟩ | ⟨h,h2,h3⟩ | ⟨x,k,rfl,rfl,hk,hx⟩
  ·clear hb
   go_enter Tryz.func187,Tryz.ntmps187
   go_wp2_with fail
   go_ret
   exact ⟨rfl,rfl⟩
  ·clear hb
   go_enter Tryz.func187,Tryz.ntmps187
   go_wp2_with fail
   go_ret
   exact ⟨rfl,rfl⟩
  ·clear hb
   go_enter Tryz.func187,Tryz.ntmps187
   go_wp2_with fail
   go_ret
   exact ⟨rfl,rfl⟩
  ·obtain ⟨q1,q2⟩:=hn
   have hz:((x:Int) / 2 ^ k == 0) = false:=by
    have e:(2:Int) ^ k = ((2 ^ k:Nat):Int):=by push_cast;rfl
    rw [e,beq_eq_false_iff_ne]
    have:0 < x / 2 ^ k:=Nat.div_pos hx (Nat.pow_pos (by omega))
    intro h
    have h2:((x / 2 ^ k:Nat):Int) = 0:=by rw [← h];push_cast;rfl
    omega
   clear hb hx
   go_enter Tryz.func187,Tryz.ntmps187
   go_wp2_with fail
   go_ret
   exact ⟨rfl,rfl⟩
structure Puts (w w':World) (base g:Nat) (ab:Option Nat) (l:List Nat) (ab':Option Nat):Prop where
 wr:Wr w' base g ab' l
 fresh:Fresh w ab ab'
 frame:Wfr w w' g ab
theorem Put_yes (base g:Nat) (ab:Option Nat) (l:List Nat) (n width:Int) (w:World) (hf:fitsB n width = true) (hn:I64 n) (h:Wr w base g ab l) (hl:l.length≤1000000) (hbs:base≤w.heap.size) :
 Calls Tryz.prog 156 #[.pointer (some ⟨g,0,none⟩),.int .i64 n,.int .i64 width] w fun e w'=>e = .returned (.int .i64 0)∧∃ ab',Puts w w' base g ab (l ++ dg width.toNat n.toNat) ab':=by
 have C:=fits_any n width true hf w hn
 obtain ⟨x,k,rfl,rfl,hk,hx⟩:=fitsB_yes hf
 have C2:=put_any base g ab l x k w h hx hk hl hbs
 clear hf hn
 go_enter Tryz.func156,Tryz.ntmps156
 go_wp2_with fail
 refine C.mono ?_
 rintro e w1 ⟨rfl,rfl⟩
 go_wp2_with fail
 refine C2.mono ?_
 rintro e w2 ⟨rfl,ab',h1,h2,h3⟩
 go_wp2_with fail
 go_ret
 exact ⟨rfl,ab',⟨h1,h2,h3⟩⟩
def blen (x:Nat):Nat:=Lib.bitLen x
theorem bitLenAux_le (f:Nat):∀ x k,x < 2 ^ k → Lib.bitLenAux f x≤k:=by
 induction f with
 | zero=>intro x k _;exact Nat.zero_le _
 | succ f ih =>
  intro x k h
  unfold Lib.bitLenAux
  split
  ·omega
  ·cases k with
   | zero=>simp at h;omega
   | succ k=>have:=ih (x / 2) k (by rw [Nat.pow_succ] at h;omega);omega
theorem bitLenAux_lt (f:Nat):∀ x,x < 2 ^ f → x < 2 ^ Lib.bitLenAux f x:=by
 induction f with
 | zero=>intro x h;exact h
 | succ f ih =>
  intro x h
  unfold Lib.bitLenAux
  split
  ·omega
  ·have:=ih (x / 2) (by rw [Nat.pow_succ] at h;omega)
   rw [Nat.add_comm,Nat.pow_succ]
   omega
theorem bitLenAux_ge (f:Nat):∀ x,x < 2 ^ f → 0 < x → 0 < Lib.bitLenAux f x∧2 ^ (Lib.bitLenAux f x - 1)≤x:=by
 induction f with
 | zero=>intro x h h0;simp at h;omega
 | succ f ih =>
  intro x h h0
  unfold Lib.bitLenAux
  rw [if_neg (by omega)]
  refine ⟨by omega,?_⟩
  rw [show 1 + Lib.bitLenAux f (x / 2) - 1 = Lib.bitLenAux f (x / 2) from by omega]
  by_cases h2:x / 2 = 0
  ·rw [h2]
   have:Lib.bitLenAux f 0 = 0:=by cases f <;> simp [Lib.bitLenAux]
   rw [this]
   omega
  ·obtain ⟨h3,h4⟩:=ih (x / 2) (by rw [Nat.pow_succ] at h;omega) (by omega)
   have:2 ^ Lib.bitLenAux f (x / 2) = 2 * 2 ^ (Lib.bitLenAux f (x / 2) - 1):=by
    rw [← Nat.pow_succ',show (Lib.bitLenAux f (x / 2) - 1).succ = Lib.bitLenAux f (x / 2) from by omega]
   omega
theorem blen_facts {x:Nat} (h0:0 < x) (h:x < 2 ^ 32):1≤blen x∧blen x≤32∧x < 2 ^ blen x∧2 ^ (blen x - 1)≤x:=by
 have h64:x < 2 ^ 64:=Nat.lt_trans h (by decide)
 have h1:=bitLenAux_ge 64 x h64 h0
 exact ⟨h1.1,bitLenAux_le 64 x 32 h,bitLenAux_lt 64 x h64,h1.2⟩
def gam (x:Nat):List Nat:=dg (blen x - 1) 0 ++ dg (blen x) x
def gamB (n:Int):Bool:=decide (1≤n) && fitsB n 32
theorem Puts.trans {w w1 w2:World} {base g:Nat} {ab ab1 ab2:Option Nat} {l l2:List Nat} (h:Puts w w1 base g ab l ab1) (k:Puts w1 w2 base g ab1 l2 ab2):Puts w w2 base g ab l2 ab2 :=
 ⟨k.wr,h.fresh.trans k.fresh h.frame.size,h.frame.trans k.frame h.fresh⟩
theorem Gamma_yes (base g:Nat) (ab:Option Nat) (l:List Nat) (n:Int) (w:World) (hf:gamB n = true) (hn:I64 n) (h:Wr w base g ab l) (hl:l.length≤900000) (hbs:base≤w.heap.size) :
 Calls Tryz.prog 157 #[.pointer (some ⟨g,0,none⟩),.int .i64 n] w fun e w'=>e = .returned (.int .i64 0)∧∃ ab',Puts w w' base g ab (l ++ gam n.toNat) ab':=by
 have hg:1≤n∧fitsB n 32 = true:=by simpa [gamB] using hf
 have C:=fits_any n 32 true hg.2 w hn
 obtain ⟨x,k,rfl,hk',_,hx⟩:=fitsB_yes hg.2
 obtain rfl:32 = k:=by omega
 have h1:¬ (x:Int) < 1:=by omega
 obtain ⟨b1,b2,b3,b4⟩:=blen_facts (x:=x) (by omega) hx
 have hx':x < 4294967296:=hx
 have C2:=Tryz.bits_Len x w (by omega) (by omega)
 rw [Int.toNat_natCast] at C2
 have hu:IntKind.u64.wrap (x:Int) = (x:Int):=u64_in _ (by omega) (by omega)
 have C3:=put_any base g ab l 0 (blen x - 1) w h (Nat.pow_pos (by omega)) (by omega) (by omega) hbs
 have hgam:l ++ gam (x:Int).toNat = l ++ dg (blen x - 1) 0 ++ dg (blen x) x:=by rw [Int.toNat_natCast,gam,List.append_assoc]
 have HG:=Lib.hid hgam
 have hlen:(l ++ dg (blen x - 1) 0).length≤1000000:=by rw [List.length_append,dg_len];omega
 have hw:IntKind.i64.wrap ((blen x:Int) - 1) = ((blen x - 1:Nat):Int):=by rw [IntWalk.i64_in _ (by omega)];omega
 have hw2:(blen x:Int) - 1 = ((blen x - 1:Nat):Int):=by omega
 have HW:=Lib.hid hw
 have HW2:=Lib.hid hw2
 change Calls Tryz.prog _ _ _ fun e w'=>e = .returned (.int .i64 (blen x:Nat))∧w' = w at C2
 generalize blen x = b at *
 clear hf hg hgam hx hw hw2 hk'
 go_enter Tryz.func157,Tryz.ntmps157
 go_wp2_with fail
 refine C.mono ?_
 rintro e w1 ⟨rfl,rfl⟩
 go_wp2_with fail
 refine C2.mono ?_
 rintro e w1 ⟨rfl,rfl⟩
 go_wp2_with fail
 rw [HW2.out]
 refine C3.mono ?_
 rintro e w2 ⟨rfl,ab2,k1,k2,k3⟩
 go_wp2_with fail
 refine (put_any base g ab2 _ x b w2 k1 b3 (by omega) hlen (by have:=k3.size;omega)).mono ?_
 rintro e w3 ⟨rfl,ab3,m1,m2,m3⟩
 go_wp2_with fail
 go_ret
 refine ⟨rfl,ab3,?_⟩
 rw [HG.out]
 exact (Puts.mk k1 k2 k3).trans ⟨m1,m2,m3⟩
end BitW
end Go.Proofs.YtnpncpoiiikafaaGreat
