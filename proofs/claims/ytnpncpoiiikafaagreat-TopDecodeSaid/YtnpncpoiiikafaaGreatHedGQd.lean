/- HedG -/
import Derived.Test.YtnpncpoiiikafaaGreatClKQd
import Derived.Test.YtnpncpoiiikafaaGreatSkpBQd
import Derived.Test.YtnpncpoiiikafaaGreatBloQQd
import Derived.Laws.EntriesVeiled
import Derived.Deep.DeepCutAuto
import Derived.Test.YtnpncpoiiikafaaGreatMemQd
set_option linter.unusedVariables false
set_option linter.unusedSimpArgs false
set_option linter.unnecessarySimpa false
set_option maxRecDepth 100000
set_option maxHeartbeats 32000000
namespace Go.Proofs.YtnpncpoiiikafaaGreat
open Go.RowKit
namespace HedW
open TakW (take_callip tk flt end_yes end_bad new_any caughtK_no caughtK_ok)
open BloW (num_y num_n getV_three results_head)
open ClW (Cl numV)
def geL (c:Nat) (s:List UInt8) (q v1 v2 v3:Int):List (TypeId × Array Value) :=
 [(145,tk s q),(78,#[.pointer (some ⟨c,0,none⟩)]),(80,#[numV c]),(23,#[.int .i64 v1,.int .i64 v2,.int .i64 v3])]
def GeI (w wr:World) (c:Nat) (s:List UInt8) (q v1 v2 v3:Int):Prop:=Cl w wr c (geL c s q v1 v2 v3)
section
variable {w wr w1:World} {c:Nat} {s:List UInt8} {q q1 v1 v2 v3:Int}
theorem GeI.drew (h:GeI w wr c s q v1 v2 v3):GeI w wr.drew c s q v1 v2 v3:=Cl.drew h
theorem GeI.left (h:GeI w wr c s q v1 v2 v3) (hL:TakW.Left wr w1 c s q1):GeI w w1 c s q1 v1 v2 v3:=Cl.left (i:=0) (s:=s) (q:=q) h rfl hL
theorem GeI.sets (h:GeI w wr c s q v1 v2 v3) (x1 x2 x3:Int):GeI w (((wr.setCell ⟨c + 3,0,none⟩ (.int .i64 x1)).setCell ⟨c + 3,1,none⟩ (.int .i64 x2)).setCell ⟨c + 3,2,none⟩ (.int .i64 x3)) c s q x1 x2 x3:=by
 have h1:Cl w (wr.setCell ⟨c + 3,0,none⟩ (.int .i64 x1)) c (geL c s q x1 v2 v3):=Cl.set (i:=3) h rfl 0 (.int .i64 x1)
 have h2:Cl w ((wr.setCell ⟨c + 3,0,none⟩ (.int .i64 x1)).setCell ⟨c + 3,1,none⟩ (.int .i64 x2)) c (geL c s q x1 x2 v3):=Cl.set (i:=3) h1 rfl 1 (.int .i64 x2)
 exact Cl.set (i:=3) h2 rfl 2 (.int .i64 x3)
theorem GeI.fG (h:GeI w wr c s q v1 v2 v3):Blk wr c 145 (tk s q):=h.fr 0 _ rfl
theorem GeI.fT (h:GeI w wr c s q v1 v2 v3):Blk wr (c + 1) 78 #[.pointer (some ⟨c,0,none⟩)]:=h.fr 1 _ rfl
theorem GeI.fH (h:GeI w wr c s q v1 v2 v3):Blk wr (c + 3) 23 #[.int .i64 v1,.int .i64 v2,.int .i64 v3]:=h.fr 3 _ rfl
theorem GeI.S (h:GeI w wr c s q v1 v2 v3):wr.cell? ⟨c + 2,0,none⟩ = some (.func (.func 35) #[.pointer (some ⟨c,0,none⟩)] #[]):=(h.fr 2 _ rfl).cell_ 0 rfl
end
def geC (c:Nat):Array Value:=#[.pointer (some ⟨c + 2,0,none⟩),.pointer (some ⟨c + 3,0,none⟩),.pointer (some ⟨c + 1,0,none⟩)]
def GeEnd (b:List UInt8) (w:World) (c:Nat) (e:Ending) (w':World):Prop :=
 ((takeH b).2 = 0∧e = .returned (.tuple #[])∧∃ q,GeI w w' c b q (at3 (takeH b).1 0) (at3 (takeH b).1 1) (at3 (takeH b).1 2)) ∨
 ((takeH b).2 ≠ 0∧∃ at_,e = .panicked (flt (takeH b).2 at_)∧∃ q v1 v2 v3,GeI w w' c b q v1 v2 v3)
theorem ge_bad1 (b:List UInt8) (c:Nat) (w:World) (I:GeI w w c b 0 0 0 0) (hs:b.length≤1000000) (v q er:Int) (hx:getV b ((0:Nat):Int) = (v,q,er)) (her:er ≠ 0) :
 Calls Tryz.prog 48 (geC c) w fun e w'=>GeEnd b w c e w':=by
 have HT:Hid ((takeH b).2 = er):=Lib.hid (by
  have e:(numsV b 3 0).2.2 = er:=by show (numsV b 3 ((0:Nat):Int)).2.2 = er;rw [ numsV_no hx her]
  unfold takeH
  rw [if_neg (by rw [e];exact her)]
  exact e)
 have hcn:∀ args w,(callFunc 35 args).run Tryz.prog w = .ok (.enter 35 args) w:=fun args w=>run_enter Tryz.func35 (by kernel_rfl) rfl args w
 unfold geC
 go_enter Tryz.func48,Tryz.ntmps48
 go_upto_region 0 with fail
 replace I:=I.drew
 refine wp_region_held_drew (S:=(fun w'=>w'.cell? ⟨c + 2,0,none⟩ = some (.func (.func 35) #[.pointer (some ⟨c,0,none⟩)] #[]))) (by kernel_rfl) ?_ (fun hHeld=>?_)
 ·(try dsimp only);exact I.S
 refine zO 0 (.load 80 (.tmp 0)) 80 ?_
 refine zO 2 (.load 80 (.tmp 0)) 80 ?_
 refine zO 4 (.load 80 (.tmp 0)) 80 ?_
 refine zR 1 (fun K1 hK1=>?_)
 refine take_callip 1 35 #[.pointer (some ⟨c,0,none⟩)] (Op.call { callee:=Callee.value (Operand.tmp 3),args:=#[],argTypes:=#[] }) 3 rfl rfl rfl (by kernel_rfl) (by go_simp;try (first | with_reducible rfl | exact ⟨rfl,rfl⟩)) ?_
 refine (num_n c b 0 v q er _ I.fG hx her hs).mono ?_
 rintro e w1 ⟨rfl,hL⟩
 refine ⟨_,rfl,?_⟩
 replace I:=I.left hL
 try simp only [Exit.then,Exit.inBlock]
 exact ⟨rfl,Or.inr ⟨by rw [HT.out];exact her,_,by rw [HT.out],_,_,_,_,I⟩⟩
theorem ge_bad2 (b:List UInt8) (c:Nat) (w:World) (I:GeI w w c b 0 0 0 0) (hs:b.length≤1000000) (v1:Int) (q1:Nat) (h1:getV b ((0:Nat):Int) = (v1,((q1:Nat):Int),0)) (v q er:Int) (hx:getV b (q1:Nat) = (v,q,er)) (her:er ≠ 0) :
 Calls Tryz.prog 48 (geC c) w fun e w'=>GeEnd b w c e w':=by
 have HT:Hid ((takeH b).2 = er):=Lib.hid (by
  have e:(numsV b 3 0).2.2 = er:=by show (numsV b 3 ((0:Nat):Int)).2.2 = er;rw [numsV_yes h1, numsV_no hx her]
  unfold takeH
  rw [if_neg (by rw [e];exact her)]
  exact e)
 have hcn:∀ args w,(callFunc 35 args).run Tryz.prog w = .ok (.enter 35 args) w:=fun args w=>run_enter Tryz.func35 (by kernel_rfl) rfl args w
 unfold geC
 go_enter Tryz.func48,Tryz.ntmps48
 go_upto_region 0 with fail
 replace I:=I.drew
 refine wp_region_held_drew (S:=(fun w'=>w'.cell? ⟨c + 2,0,none⟩ = some (.func (.func 35) #[.pointer (some ⟨c,0,none⟩)] #[]))) (by kernel_rfl) ?_ (fun hHeld=>?_)
 ·(try dsimp only);exact I.S
 refine zO 0 (.load 80 (.tmp 0)) 80 ?_
 refine zO 2 (.load 80 (.tmp 0)) 80 ?_
 refine zO 4 (.load 80 (.tmp 0)) 80 ?_
 refine zR 1 (fun K1 hK1=>?_)
 refine take_calli 1 35 #[.pointer (some ⟨c,0,none⟩)] (Op.call { callee:=Callee.value (Operand.tmp 3),args:=#[],argTypes:=#[] }) 3 rfl rfl rfl (by kernel_rfl) (by go_simp;try (first | with_reducible rfl | exact ⟨rfl,rfl⟩)) ?_
 refine (num_y c b 0 q1 v1 _ I.fG h1 hs).mono ?_
 rintro e w1 ⟨rfl,hL⟩
 replace I:=I.left hL
 refine ⟨_,rfl,?_⟩
 refine hK1.out _ _ ?su2x1 (fun hHeld=>?ru2x1)
 case su2x1=>((try dsimp only);exact I.S)
 try simp only [zSa,zSb,zSc]
 refine zR 3 (fun K3 hK3=>?_)
 refine take_callip 3 35 #[.pointer (some ⟨c,0,none⟩)] (Op.call { callee:=Callee.value (Operand.tmp 5),args:=#[],argTypes:=#[] }) 3 rfl rfl rfl (by kernel_rfl) (by go_simp;try (first | with_reducible rfl | exact ⟨rfl,rfl⟩)) ?_
 refine (num_n c b q1 v q er _ I.fG hx her hs).mono ?_
 rintro e w3 ⟨rfl,hL⟩
 refine ⟨_,rfl,?_⟩
 replace I:=I.left hL
 try simp only [Exit.then,Exit.inBlock]
 exact ⟨rfl,Or.inr ⟨by rw [HT.out];exact her,_,by rw [HT.out],_,_,_,_,I⟩⟩
theorem ge_bad3 (b:List UInt8) (c:Nat) (w:World) (I:GeI w w c b 0 0 0 0) (hs:b.length≤1000000) (v1:Int) (q1:Nat) (h1:getV b ((0:Nat):Int) = (v1,((q1:Nat):Int),0)) (v2:Int) (q2:Nat) (h2:getV b (q1:Nat) = (v2,((q2:Nat):Int),0)) (v q er:Int) (hx:getV b (q2:Nat) = (v,q,er)) (her:er ≠ 0) :
 Calls Tryz.prog 48 (geC c) w fun e w'=>GeEnd b w c e w':=by
 have HT:Hid ((takeH b).2 = er):=Lib.hid (by
  have e:(numsV b 3 0).2.2 = er:=by show (numsV b 3 ((0:Nat):Int)).2.2 = er;rw [numsV_yes h1,numsV_yes h2, numsV_no hx her]
  unfold takeH
  rw [if_neg (by rw [e];exact her)]
  exact e)
 have hcn:∀ args w,(callFunc 35 args).run Tryz.prog w = .ok (.enter 35 args) w:=fun args w=>run_enter Tryz.func35 (by kernel_rfl) rfl args w
 unfold geC
 go_enter Tryz.func48,Tryz.ntmps48
 go_upto_region 0 with fail
 replace I:=I.drew
 refine wp_region_held_drew (S:=(fun w'=>w'.cell? ⟨c + 2,0,none⟩ = some (.func (.func 35) #[.pointer (some ⟨c,0,none⟩)] #[]))) (by kernel_rfl) ?_ (fun hHeld=>?_)
 ·(try dsimp only);exact I.S
 refine zO 0 (.load 80 (.tmp 0)) 80 ?_
 refine zO 2 (.load 80 (.tmp 0)) 80 ?_
 refine zO 4 (.load 80 (.tmp 0)) 80 ?_
 refine zR 1 (fun K1 hK1=>?_)
 refine take_calli 1 35 #[.pointer (some ⟨c,0,none⟩)] (Op.call { callee:=Callee.value (Operand.tmp 3),args:=#[],argTypes:=#[] }) 3 rfl rfl rfl (by kernel_rfl) (by go_simp;try (first | with_reducible rfl | exact ⟨rfl,rfl⟩)) ?_
 refine (num_y c b 0 q1 v1 _ I.fG h1 hs).mono ?_
 rintro e w1 ⟨rfl,hL⟩
 replace I:=I.left hL
 refine ⟨_,rfl,?_⟩
 refine hK1.out _ _ ?su3x1 (fun hHeld=>?ru3x1)
 case su3x1=>((try dsimp only);exact I.S)
 try simp only [zSa,zSb,zSc]
 refine zR 3 (fun K3 hK3=>?_)
 refine take_calli 3 35 #[.pointer (some ⟨c,0,none⟩)] (Op.call { callee:=Callee.value (Operand.tmp 5),args:=#[],argTypes:=#[] }) 3 rfl rfl rfl (by kernel_rfl) (by go_simp;try (first | with_reducible rfl | exact ⟨rfl,rfl⟩)) ?_
 refine (num_y c b q1 q2 v2 _ I.fG h2 hs).mono ?_
 rintro e w3 ⟨rfl,hL⟩
 replace I:=I.left hL
 refine ⟨_,rfl,?_⟩
 refine hK3.out _ _ ?su3x3 (fun hHeld=>?ru3x3)
 case su3x3=>((try dsimp only);exact I.S)
 try simp only [zSa,zSb,zSc]
 refine zR 5 (fun K5 hK5=>?_)
 refine take_callip 5 35 #[.pointer (some ⟨c,0,none⟩)] (Op.call { callee:=Callee.value (Operand.tmp 7),args:=#[],argTypes:=#[] }) 3 rfl rfl rfl (by kernel_rfl) (by go_simp;try (first | with_reducible rfl | exact ⟨rfl,rfl⟩)) ?_
 refine (num_n c b q2 v q er _ I.fG hx her hs).mono ?_
 rintro e w5 ⟨rfl,hL⟩
 refine ⟨_,rfl,?_⟩
 replace I:=I.left hL
 try simp only [Exit.then,Exit.inBlock]
 exact ⟨rfl,Or.inr ⟨by rw [HT.out];exact her,_,by rw [HT.out],_,_,_,_,I⟩⟩
theorem ge_good (b:List UInt8) (c:Nat) (w:World) (I:GeI w w c b 0 0 0 0) (hs:b.length≤1000000) (v1:Int) (q1:Nat) (h1:getV b ((0:Nat):Int) = (v1,((q1:Nat):Int),0)) (v2:Int) (q2:Nat) (h2:getV b (q1:Nat) = (v2,((q2:Nat):Int),0)) (v3:Int) (q3:Nat) (h3:getV b (q2:Nat) = (v3,((q3:Nat):Int),0)) :
 Calls Tryz.prog 48 (geC c) w fun e w'=>GeEnd b w c e w':=by
 have hN:numsV b 3 0 = ([v1,v2,v3],((q3:Nat):Int),0):=by
  show numsV b 3 ((0:Nat):Int) = _
  rw [numsV_yes h1,numsV_yes h2,numsV_yes h3];rfl
 have HQ:Hid (q3≤b.length):=Lib.hid (by
  have:=(getV_ok (s:=b) (a:=(q2:Nat)) (by rw [h3])).2.2.1
  rw [h3] at this
  dsimp only at this
  omega)
 have HT:Hid (takeH b = if q3 = b.length then ([v1,v2,v3],0) else ([0,0,0],6)):=Lib.hid (by
  unfold takeH
  rw [hN,if_pos rfl]
  dsimp only
  by_cases e:q3 = b.length
  ·rw [if_pos e,if_pos (by rw [e])]
  ·rw [if_neg e,if_neg (by omega)])
 clear hN
 have hcn:∀ args w,(callFunc 35 args).run Tryz.prog w = .ok (.enter 35 args) w:=fun args w=>run_enter Tryz.func35 (by kernel_rfl) rfl args w
 unfold geC
 go_enter Tryz.func48,Tryz.ntmps48
 go_upto_region 0 with fail
 replace I:=I.drew
 refine wp_region_held_drew (S:=(fun w'=>w'.cell? ⟨c + 2,0,none⟩ = some (.func (.func 35) #[.pointer (some ⟨c,0,none⟩)] #[]))) (by kernel_rfl) ?_ (fun hHeld=>?_)
 ·(try dsimp only);exact I.S
 refine zO 0 (.load 80 (.tmp 0)) 80 ?_
 refine zO 2 (.load 80 (.tmp 0)) 80 ?_
 refine zO 4 (.load 80 (.tmp 0)) 80 ?_
 refine zR 1 (fun K1 hK1=>?_)
 refine take_calli 1 35 #[.pointer (some ⟨c,0,none⟩)] (Op.call { callee:=Callee.value (Operand.tmp 3),args:=#[],argTypes:=#[] }) 3 rfl rfl rfl (by kernel_rfl) (by go_simp;try (first | with_reducible rfl | exact ⟨rfl,rfl⟩)) ?_
 refine (num_y c b 0 q1 v1 _ I.fG h1 hs).mono ?_
 rintro e w1 ⟨rfl,hL⟩
 replace I:=I.left hL
 refine ⟨_,rfl,?_⟩
 refine hK1.out _ _ ?su4x1 (fun hHeld=>?ru4x1)
 case su4x1=>((try dsimp only);exact I.S)
 try simp only [zSa,zSb,zSc]
 refine zR 3 (fun K3 hK3=>?_)
 refine take_calli 3 35 #[.pointer (some ⟨c,0,none⟩)] (Op.call { callee:=Callee.value (Operand.tmp 5),args:=#[],argTypes:=#[] }) 3 rfl rfl rfl (by kernel_rfl) (by go_simp;try (first | with_reducible rfl | exact ⟨rfl,rfl⟩)) ?_
 refine (num_y c b q1 q2 v2 _ I.fG h2 hs).mono ?_
 rintro e w3 ⟨rfl,hL⟩
 replace I:=I.left hL
 refine ⟨_,rfl,?_⟩
 refine hK3.out _ _ ?su4x3 (fun hHeld=>?ru4x3)
 case su4x3=>((try dsimp only);exact I.S)
 try simp only [zSa,zSb,zSc]
 refine zR 5 (fun K5 hK5=>?_)
 refine take_calli 5 35 #[.pointer (some ⟨c,0,none⟩)] (Op.call { callee:=Callee.value (Operand.tmp 7),args:=#[],argTypes:=#[] }) 3 rfl rfl rfl (by kernel_rfl) (by go_simp;try (first | with_reducible rfl | exact ⟨rfl,rfl⟩)) ?_
 refine (num_y c b q2 q3 v3 _ I.fG h3 hs).mono ?_
 rintro e w5 ⟨rfl,hL⟩
 replace I:=I.left hL
 refine ⟨_,rfl,?_⟩
 refine hK5.out _ _ ?su4x5 (fun hHeld=>?ru4x5)
 case su4x5=>((try dsimp only);exact I.S)
 try simp only [zSa,zSb,zSc]
 refine zO 6 (.build 23 #[(0,.tmp 4),(1,.tmp 6),(2,.tmp 8)]) 23 ?_
 refine zR 7 (fun K7 hK7=>?_)
 refine take_store 7 (Op.store 23 (Operand.tmp 1) (Operand.tmp 9)) 0 rfl rfl rfl (by kernel_rfl) (w':=((w5.setCell ⟨c + 3,0,none⟩ (.int .i64 v1)).setCell ⟨c + 3,1,none⟩ (.int .i64 v2)).setCell ⟨c + 3,2,none⟩ (.int .i64 v3)) (by have f0:=I.fH.frozen 0;have f1:=I.fH.frozen 1;have f2:=I.fH.frozen 2;have cc:=blk3 I.fH;obtain ⟨k0,k1,k2,_,_,_,l⟩:=cc;go_simp;try (with_reducible rfl)) ?_
 refine hK7.out _ _ ((I.sets v1 v2 v3).S) (fun hHeld=>?_)
 replace I:=I.sets v1 v2 v3
 generalize (((w5.setCell ⟨c + 3,0,none⟩ (.int .i64 v1)).setCell ⟨c + 3,1,none⟩ (.int .i64 v2)).setCell ⟨c + 3,2,none⟩ (.int .i64 v3)) = wq at *
 refine wpAnyH_done (by kernel_rfl) ?_ _
 clear hHeld
 have cT:=I.fT.cell_ 0 rfl
 by_cases hq:q3 = b.length
 ·have HT2:=HT.out
  rw [if_pos hq] at HT2
  have HT3:=Lib.hid HT2
  have C:=end_yes c b q3 _ I.fG HQ.out (by omega) (by omega)
  clear HT HT2 hq
  go_wp2_with fail
  refine C.mono ?_
  rintro e w9 ⟨rfl,hL⟩
  replace I:=I.left hL
  clear hL cT C
  go_wp2_with fail
  refine bodyPost_ret (results_none rfl _ _ _) rfl ?_
  refine Or.inl ⟨by rw [HT3.out],rfl,((q3:Nat):Int),?_⟩
  rw [HT3.out]
  exact I
 ·have HT2:=HT.out
  rw [if_neg hq] at HT2
  have HT3:=Lib.hid HT2
  have C:=end_bad c b q3 _ I.fG (by have:=HQ.out;omega) (by omega)
  clear HT HT2 hq
  go_wp2_with fail
  refine C.mono ?_
  rintro e w9 ⟨rfl,hL⟩
  replace I:=I.left hL
  clear hL cT C
  go_wp2_with fail
  simp [bodyPost]
  exact Or.inr ⟨by rw [HT3.out];decide,_,by rw [HT3.out],_,_,_,_,I⟩
theorem ge_any (b:List UInt8) (c:Nat) (w:World) (I:GeI w w c b 0 0 0 0) (hs:b.length≤1000000) :
 Calls Tryz.prog 48 (geC c) w fun e w'=>GeEnd b w c e w':=by
 rcases getV_three b 0 with ⟨v1,q1,h1⟩ | ⟨v,q,er,hx,her⟩
 ·rcases getV_three b q1 with ⟨v2,q2,h2⟩ | ⟨v,q,er,hx,her⟩
  ·rcases getV_three b q2 with ⟨v3,q3,h3⟩ | ⟨v,q,er,hx,her⟩
   ·exact ge_good b c w I hs v1 q1 h1 v2 q2 h2 v3 q3 h3
   ·exact ge_bad3 b c w I hs v1 q1 h1 v2 q2 h2 v q er hx her
  ·exact ge_bad2 b c w I hs v1 q1 h1 v q er hx her
 ·exact ge_bad1 b c w I hs v q er hx her
theorem hcf_ge:∀ args w,(callFunc 48 args).run Tryz.prog w = .ok (.enter 48 args) w:=fun args w=>run_enter Tryz.func48 (by kernel_rfl) rfl args w
theorem ge_yes (b:List UInt8) (c:Nat) (w:World) (h:∀ i x,(geL c b 0 0 0 0)[i]? = some x → Blk w (c + i) x.1 x.2) (hc:c + 4≤w.heap.size) (hs:b.length≤1000000) (h0:(takeH b).2 = 0) :
 Calls Tryz.prog 37 #[.func (.func 48) #[] (geC c)] w fun e w'=>e = .returned (.tuple #[.int .i64 0,.int .i64 0]) ∧
  (∃ q,∀ i x,(geL c b q (at3 (takeH b).1 0) (at3 (takeH b).1 1) (at3 (takeH b).1 2))[i]? = some x → Blk w' (c + i) x.1 x.2)∧Below c w w':=by
 have C2:=caughtK_ok 48 hcf_ge (geC c) w (fun w1=>∃ q,GeI _ w1 c b q (at3 (takeH b).1 0) (at3 (takeH b).1 1) (at3 (takeH b).1 2)) (fun w1 ⟨q,h⟩=>Cl.cells h hc)
  ((ge_any b c _ (Cl.start h hc) hs).mono fun e w1 h=>by
   rcases h with ⟨_,h2,h3⟩ | ⟨h1,_⟩
   ·exact ⟨h2,h3⟩
   ·exact absurd h0 h1)
 exact C2.mono fun e w' ⟨h1,w1,⟨q,I⟩,F⟩=>⟨h1,⟨q,(Cl.fell I hc F).1⟩,(Cl.fell I hc F).2⟩
theorem ge_no (b:List UInt8) (c:Nat) (w:World) (h:∀ i x,(geL c b 0 0 0 0)[i]? = some x → Blk w (c + i) x.1 x.2) (hc:c + 4≤w.heap.size) (hs:b.length≤1000000) (h0:(takeH b).2 ≠ 0) :
 Calls Tryz.prog 37 #[.func (.func 48) #[] (geC c)] w fun e w'=>∃ at_,e = .returned (.tuple #[.int .i64 (takeH b).2,.int .i64 at_])∧Below c w w':=by
 have C2:=caughtK_no 48 hcf_ge (geC c) (takeH b).2 w (fun w1=>∃ q v1 v2 v3,GeI _ w1 c b q v1 v2 v3) (fun w1 ⟨q,v1,v2,v3,h⟩=>Cl.cells h hc)
  ((ge_any b c _ (Cl.start h hc) hs).mono fun e w1 h=>by
   rcases h with ⟨h1,_⟩ | ⟨_,a,h2,h3⟩
   ·exact absurd h1 h0
   ·exact ⟨a,h2,h3⟩)
 exact C2.mono fun e w' ⟨a,h1,w1,⟨q,v1,v2,v3,I⟩,F⟩=>⟨a,h1,(Cl.fell I hc F).2⟩
theorem blk_at2 {w0:World} {g:Nat} (t:TypeId) (cs:Array Value) (h:w0.heap.size = g):Blk (w0.alloc (.cells cs t)) g t cs:=h ▸ Blk.new w0 t cs
def wGe (b:List UInt8) (w:World):World :=
 ((((w.alloc (.cells #[.int .i64 0,.int .i64 0,.int .i64 0] 23)).alloc (.cells (tk b 0) 145)).alloc (.cells #[.pointer (some ⟨w.heap.size + 1,0,none⟩)] 78)).alloc (.cells #[numV (w.heap.size + 1)] 80)).alloc (.cells #[.int .i64 0,.int .i64 0,.int .i64 0] 23)
theorem wGe_size (b:List UInt8) (w:World):(wGe b w).heap.size = w.heap.size + 5:=by simp [wGe]
theorem wGe_below (b:List UInt8) (w:World):Below w.heap.size w (wGe b w) :=
 (((((Below.refl w.heap.size w).alloc (Nat.le_refl _) _).alloc (by simp) _).alloc (by simp;omega) _).alloc (by simp;omega) _).alloc (by simp;omega) _
theorem wGe_res (b:List UInt8) (w:World):Blk (wGe b w) w.heap.size 23 #[.int .i64 0,.int .i64 0,.int .i64 0]:=Blk.alloc (Blk.alloc (Blk.alloc (Blk.alloc (blk_at2 _ _ rfl) _) _) _) _
theorem wGe_fr (b:List UInt8) (w:World):∀ i x,(geL (w.heap.size + 1) b 0 0 0 0)[i]? = some x → Blk (wGe b w) (w.heap.size + 1 + i) x.1 x.2:=by
 intro i x hx
 match i,hx with
 | 0,hx=>obtain rfl:=Option.some.inj hx;exact Blk.alloc (Blk.alloc (Blk.alloc (blk_at2 _ _ (by simp)) _) _) _
 | 1,hx=>obtain rfl:=Option.some.inj hx;exact Blk.alloc (Blk.alloc (blk_at2 _ _ (by simp)) _) _
 | 2,hx=>obtain rfl:=Option.some.inj hx;exact Blk.alloc (blk_at2 _ _ (by simp)) _
 | 3,hx=>obtain rfl:=Option.some.inj hx;exact blk_at2 _ _ (by simp)
 | n + 4,hx=>simp [geL] at hx
def hA (l:List Int):Array Value:=#[.int .i64 (at3 l 0),.int .i64 (at3 l 1),.int .i64 (at3 l 2)]
theorem low3 {w0 w:World} {g:Nat} (h:Below w0.heap.size w0 w) (hg:w0.heap.size≤g) (a0 a1 a2:Value):Below w0.heap.size w0 (((w.setCell ⟨g,0,none⟩ a0).setCell ⟨g,1,none⟩ a1).setCell ⟨g,2,none⟩ a2) :=
 ((h.setCell (p:=⟨g,0,none⟩) hg a0).setCell (p:=⟨g,1,none⟩) hg a1).setCell (p:=⟨g,2,none⟩) hg a2
theorem set3 {w:World} {g:Nat} {t:TypeId} {c0 c1 c2:Value} (h:Blk w g t #[c0,c1,c2]) (a0 a1 a2:Value):Blk (((w.setCell ⟨g,0,none⟩ a0).setCell ⟨g,1,none⟩ a1).setCell ⟨g,2,none⟩ a2) g t #[a0,a1,a2] :=
 blk_eq (((h.set 0 a0).set 1 a1).set 2 a2) (by simp)
theorem Get_any (b:List UInt8) (w:World) (hs:b.length≤1000000) (x:List Int × Int) (hx:getH b = x) :
 Calls Tryz.prog 15 #[str b] w fun e w'=>e = .returned (.tuple #[.agg (hA x.1),.int .i64 x.2])∧Below w.heap.size w w':=by
 have hmf:∀ (fn:Fn) (first cap:Array Value) (w:World),(Instr.makeFunc fn first cap).run Tryz.prog w = .ok (.func fn first cap) w:=fun _ _ _ _=>rfl
 have HX:=Lib.hid hx
 clear hx
 go_enter Tryz.func15,Tryz.ntmps15
 go_wp2_with fail
 refine (new_any b _).mono ?_
 rintro e w1 ⟨rfl,rfl⟩
 go_wp2_with fail
 have hsz:=wGe_size b w
 have hlow:=wGe_below b w
 have hres:=wGe_res b w
 by_cases h0:(takeH b).2 = 0
 ·refine (ge_yes b (w.heap.size + 1) (wGe b w) (wGe_fr b w) (by omega) (by omega) h0).mono ?_
  rintro e w2 ⟨rfl,⟨q,hq⟩,HB⟩
  have bR:=hres.below HB (by omega)
  have HB2:=hlow.trans (HB.mono (by omega))
  have hx1:=HX.out
  unfold getH at hx1
  rw [if_pos h0] at hx1
  have bH:Blk w2 (w.heap.size + 4) 23 (hA (takeH b).1):=hq 3 _ rfl
  obtain ⟨l,hl⟩:∃ l,(takeH b).1 = l:=⟨_,rfl⟩
  rw [hl] at hx1 bH
  unfold hA at bH
  obtain ⟨v1,hv1⟩:∃ v1,at3 l 0 = v1:=⟨_,rfl⟩
  obtain ⟨v2,hv2⟩:∃ v2,at3 l 1 = v2:=⟨_,rfl⟩
  obtain ⟨v3,hv3⟩:∃ v3,at3 l 2 = v3:=⟨_,rfl⟩
  rw [hv1,hv2,hv3] at hx1 bH
  have HHA:Hid (hA l = #[.int .i64 v1,.int .i64 v2,.int .i64 v3]):=Lib.hid (by unfold hA;rw [hv1,hv2,hv3])
  obtain ⟨c0,c1,c2,_,_,_,_⟩:=blk3 bH
  have HX1:=Lib.hid hx1
  have C:=fun w=>Check_any v1 v2 v3 _ rfl w
  have C2:=C w2
  clear hq HB h0 HX hsz hlow hres hl hv1 hv2 hv3 hx1 C
  by_cases h1:headB v1 v2 v3 = true
  ·have hx2:=HX1.out
   rw [if_pos h1] at hx2
   rw [if_pos h1] at C2
   subst hx2
   clear HX1 h1
   go_wp2_with fail
   refine C2.mono ?_
   clear C2 c0 c1 c2
   rintro e w3 ⟨rfl,hb3⟩
   replace bH:=bH.below hb3 bH.lt
   replace bR:=bR.below hb3 bR.lt
   replace HB2:=HB2.trans (hb3.mono HB2.size)
   clear hb3
   obtain ⟨c0,c1,c2,_,_,_,_⟩:=blk3 bH
   obtain ⟨d0,d1,d2,f0,f1,f2,lR⟩:=blk3 bR
   go_wp2_with fail
   refine bodyPost_ret (results_head rfl _ _ w.heap.size 23 #[.int .i64 v1,.int .i64 v2,.int .i64 v3] (0,0) _ rfl (set3 bR _ _ _) Tryz.underlying23 rfl (by kernel_rfl)) rfl ?_
   exact ⟨by rw [HHA.out];rfl,low3 HB2 (Nat.le_refl _) _ _ _⟩
  ·have hx2:=HX1.out
   rw [if_neg h1] at hx2
   rw [if_neg h1] at C2
   subst hx2
   clear HX1 h1
   go_wp2_with fail
   refine C2.mono ?_
   clear C2 c0 c1 c2
   rintro e w3 ⟨rfl,hb3⟩
   replace bR:=bR.below hb3 bR.lt
   replace HB2:=HB2.trans (hb3.mono HB2.size)
   clear hb3
   obtain ⟨d0,d1,d2,f0,f1,f2,lR⟩:=blk3 bR
   go_wp2_with fail
   refine bodyPost_ret (results_head rfl _ _ w.heap.size 23 #[.int .i64 0,.int .i64 0,.int .i64 0] (0,0) _ rfl (set3 bR _ _ _) Tryz.underlying23 rfl (by kernel_rfl)) rfl ?_
   exact ⟨rfl,low3 HB2 (Nat.le_refl _) _ _ _⟩
 ·refine (ge_no b (w.heap.size + 1) (wGe b w) (wGe_fr b w) (by omega) (by omega) h0).mono ?_
  rintro e w2 ⟨at_,rfl,HB⟩
  have bR:=hres.below HB (by omega)
  have HB2:=hlow.trans (HB.mono (by omega))
  have hx1:=HX.out
  unfold getH at hx1
  rw [if_neg h0] at hx1
  obtain ⟨er,her⟩:∃ er,(takeH b).2 = er:=⟨_,rfl⟩
  rw [her] at hx1 h0 ⊢
  subst hx1
  have h0b:(er != 0) = true:=by simp [h0]
  clear her HX hsz hlow hres HB
  obtain ⟨d0,d1,d2,f0,f1,f2,lR⟩:=blk3 bR
  go_wp2_with fail
  refine bodyPost_ret (results_head rfl _ _ w.heap.size 23 #[.int .i64 0,.int .i64 0,.int .i64 0] (0,0) _ rfl (set3 bR _ _ _) Tryz.underlying23 rfl (by kernel_rfl)) rfl ?_
  exact ⟨rfl,low3 HB2 (Nat.le_refl _) _ _ _⟩
end HedW
end Go.Proofs.YtnpncpoiiikafaaGreat
