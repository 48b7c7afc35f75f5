/- SqU -/
import Derived.Test.YtnpncpoiiikafaaGreatTakRQt
import Derived.Test.YtnpncpoiiikafaaGreatZrXQt
import Derived.Test.YtnpncpoiiikafaaGreatBloQQt
import Derived.Laws.EntriesVeiled
import Derived.Deep.DeepCutAuto
import Derived.Test.YtnpncpoiiikafaaGreatSqPQt
import Derived.Test.YtnpncpoiiikafaaGreatMemQt
set_option linter.unusedVariables false
set_option linter.unusedSimpArgs false
set_option linter.unnecessarySimpa false
set_option maxRecDepth 100000
set_option maxHeartbeats 32000000
namespace Go.Proofs.YtnpncpoiiikafaaGreat
open Go.RowKit
namespace SqW
open TakW (take_callip tk flt rest_any new_any caughtK_no caughtK_ok)
open BloW (num_y num_n getV_three)
open ClW (Cl numV)
open HufW (decV endV)
open LenW (unpG unpG_len)
def restV (g:Nat):Value:=.func (.func 36) #[.pointer (some ⟨g,0,none⟩)] #[]
def unL (c:Nat) (s:List UInt8) (q v1 v2 v3:Int) (bd:List UInt8):List (TypeId × Array Value) :=
 [(145,tk s q),(80,#[numV c]),(81,#[restV c]),(3,#[.int .i64 v1]),(3,#[.int .i64 v2]),(3,#[.int .i64 v3]),(9,#[str bd])]
def UnI (w wr:World) (c:Nat) (s:List UInt8) (q v1 v2 v3:Int) (bd:List UInt8):Prop:=Cl w wr c (unL c s q v1 v2 v3 bd)
section
variable {w wr w1:World} {c:Nat} {s:List UInt8} {q q1 v1 v2 v3:Int} {bd:List UInt8}
theorem UnI.drew (h:UnI w wr c s q v1 v2 v3 bd):UnI w wr.drew c s q v1 v2 v3 bd:=Cl.drew h
theorem UnI.left (h:UnI w wr c s q v1 v2 v3 bd) (hL:TakW.Left wr w1 c s q1):UnI w w1 c s q1 v1 v2 v3 bd:=Cl.left (i:=0) (s:=s) (q:=q) h rfl hL
theorem UnI.set1 (h:UnI w wr c s q v1 v2 v3 bd) (x:Int):UnI w (wr.setCell ⟨c + 3,0,none⟩ (.int .i64 x)) c s q x v2 v3 bd:=Cl.set (i:=3) h rfl 0 (.int .i64 x)
theorem UnI.set2 (h:UnI w wr c s q v1 v2 v3 bd) (x:Int):UnI w (wr.setCell ⟨c + 4,0,none⟩ (.int .i64 x)) c s q v1 x v3 bd:=Cl.set (i:=4) h rfl 0 (.int .i64 x)
theorem UnI.set3 (h:UnI w wr c s q v1 v2 v3 bd) (x:Int):UnI w (wr.setCell ⟨c + 5,0,none⟩ (.int .i64 x)) c s q v1 v2 x bd:=Cl.set (i:=5) h rfl 0 (.int .i64 x)
theorem UnI.setb (h:UnI w wr c s q v1 v2 v3 bd) (x:List UInt8):UnI w (wr.setCell ⟨c + 6,0,none⟩ (str x)) c s q v1 v2 v3 x:=Cl.set (i:=6) h rfl 0 (str x)
theorem UnI.fG (h:UnI w wr c s q v1 v2 v3 bd):Blk wr c 145 (tk s q):=h.fr 0 _ rfl
theorem UnI.fS (h:UnI w wr c s q v1 v2 v3 bd):Blk wr (c + 3) 3 #[.int .i64 v1]:=h.fr 3 _ rfl
theorem UnI.fP (h:UnI w wr c s q v1 v2 v3 bd):Blk wr (c + 4) 3 #[.int .i64 v2]:=h.fr 4 _ rfl
theorem UnI.fM (h:UnI w wr c s q v1 v2 v3 bd):Blk wr (c + 5) 3 #[.int .i64 v3]:=h.fr 5 _ rfl
theorem UnI.fB (h:UnI w wr c s q v1 v2 v3 bd):Blk wr (c + 6) 9 #[str bd]:=h.fr 6 _ rfl
theorem UnI.S (h:UnI w wr c s q v1 v2 v3 bd):wr.cell? ⟨c + 1,0,none⟩ = some (.func (.func 35) #[.pointer (some ⟨c,0,none⟩)] #[]):=(h.fr 1 _ rfl).cell_ 0 rfl
theorem UnI.R (h:UnI w wr c s q v1 v2 v3 bd):wr.cell? ⟨c + 2,0,none⟩ = some (.func (.func 36) #[.pointer (some ⟨c,0,none⟩)] #[]):=(h.fr 2 _ rfl).cell_ 0 rfl
end
def unC (c:Nat):Array Value:=#[.pointer (some ⟨c + 1,0,none⟩),.pointer (some ⟨c + 3,0,none⟩),.pointer (some ⟨c + 4,0,none⟩),.pointer (some ⟨c + 5,0,none⟩),.pointer (some ⟨c + 2,0,none⟩),.pointer (some ⟨c + 6,0,none⟩)]
def UnEnd (b:List UInt8) (w:World) (c:Nat) (e:Ending) (w':World):Prop :=
 ((numsV b 3 0).2.2 = 0∧e = .returned (.tuple #[])∧∃ q,UnI w w' c b q ((numsV b 3 0).1[0]?.getD 0) ((numsV b 3 0).1[1]?.getD 0) ((numsV b 3 0).1[2]?.getD 0) (b.drop (numsV b 3 0).2.1.toNat)) ∨
 ((numsV b 3 0).2.2 ≠ 0∧∃ at_,e = .panicked (flt (numsV b 3 0).2.2 at_)∧∃ q v1 v2 v3 bd,UnI w w' c b q v1 v2 v3 bd)
theorem un_bad1 (b:List UInt8) (c:Nat) (w:World) (I:UnI w w c b 0 0 0 0 []) (hs:b.length≤1000000) (v q er:Int) (hx:getV b ((0:Nat):Int) = (v,q,er)) (her:er ≠ 0) :
 Calls Tryz.prog 38 (unC c) w fun e w'=>UnEnd b w c e w':=by
 have HT:Hid ((numsV b 3 0).2.2 = er):=Lib.hid (by
  show (numsV b 3 ((0:Nat):Int)).2.2 = er
  rw [ numsV_no hx her])
 have hcn:∀ args w,(callFunc 35 args).run Tryz.prog w = .ok (.enter 35 args) w:=fun args w=>run_enter Tryz.func35 (by kernel_rfl) rfl args w
 unfold unC
 go_enter Tryz.func38,Tryz.ntmps38
 go_upto_region 0 with fail
 replace I:=I.drew
 refine wp_region_held_drew (S:=(fun w'=>w'.cell? ⟨c + 1,0,none⟩ = some (.func (.func 35) #[.pointer (some ⟨c,0,none⟩)] #[]))) (by kernel_rfl) ?_ (fun hHeld=>?_)
 ·(try dsimp only);exact I.S
 refine zO 0 (.load 80 (.tmp 0)) 80 ?_
 refine zO 2 (.load 80 (.tmp 0)) 80 ?_
 refine zO 4 (.load 80 (.tmp 0)) 80 ?_
 refine zR 1 (fun K1 hK1=>?_)
 refine take_callip 1 35 #[.pointer (some ⟨c,0,none⟩)] (Op.call { callee:=Callee.value (Operand.tmp 6),args:=#[],argTypes:=#[] }) 3 rfl rfl rfl (by kernel_rfl) (by go_simp;try (first | with_reducible rfl | exact ⟨rfl,rfl⟩)) ?_
 refine (num_n c b 0 v q er _ I.fG hx her hs).mono ?_
 rintro e w1 ⟨rfl,hL⟩
 refine ⟨_,rfl,?_⟩
 replace I:=I.left hL
 try simp only [Exit.then,Exit.inBlock]
 exact ⟨rfl,Or.inr ⟨by rw [HT.out];exact her,_,by rw [HT.out],_,_,_,_,_,I⟩⟩
theorem un_bad2 (b:List UInt8) (c:Nat) (w:World) (I:UnI w w c b 0 0 0 0 []) (hs:b.length≤1000000) (v1:Int) (q1:Nat) (h1:getV b ((0:Nat):Int) = (v1,((q1:Nat):Int),0)) (v q er:Int) (hx:getV b (q1:Nat) = (v,q,er)) (her:er ≠ 0) :
 Calls Tryz.prog 38 (unC c) w fun e w'=>UnEnd b w c e w':=by
 have HT:Hid ((numsV b 3 0).2.2 = er):=Lib.hid (by
  show (numsV b 3 ((0:Nat):Int)).2.2 = er
  rw [numsV_yes h1, numsV_no hx her])
 have hcn:∀ args w,(callFunc 35 args).run Tryz.prog w = .ok (.enter 35 args) w:=fun args w=>run_enter Tryz.func35 (by kernel_rfl) rfl args w
 unfold unC
 go_enter Tryz.func38,Tryz.ntmps38
 go_upto_region 0 with fail
 replace I:=I.drew
 refine wp_region_held_drew (S:=(fun w'=>w'.cell? ⟨c + 1,0,none⟩ = some (.func (.func 35) #[.pointer (some ⟨c,0,none⟩)] #[]))) (by kernel_rfl) ?_ (fun hHeld=>?_)
 ·(try dsimp only);exact I.S
 refine zO 0 (.load 80 (.tmp 0)) 80 ?_
 refine zO 2 (.load 80 (.tmp 0)) 80 ?_
 refine zO 4 (.load 80 (.tmp 0)) 80 ?_
 refine zR 1 (fun K1 hK1=>?_)
 refine take_calli 1 35 #[.pointer (some ⟨c,0,none⟩)] (Op.call { callee:=Callee.value (Operand.tmp 6),args:=#[],argTypes:=#[] }) 3 rfl rfl rfl (by kernel_rfl) (by go_simp;try (first | with_reducible rfl | exact ⟨rfl,rfl⟩)) ?_
 refine (num_y c b 0 q1 v1 _ I.fG h1 hs).mono ?_
 rintro e w1 ⟨rfl,hL⟩
 replace I:=I.left hL
 refine ⟨_,rfl,?_⟩
 refine hK1.out _ _ ?su2x1 (fun hHeld=>?ru2x1)
 case su2x1=>((try dsimp only);exact I.S)
 try simp only [zSa,zSb,zSc]
 refine zR 3 (fun K3 hK3=>?_)
 refine take_callip 3 35 #[.pointer (some ⟨c,0,none⟩)] (Op.call { callee:=Callee.value (Operand.tmp 8),args:=#[],argTypes:=#[] }) 3 rfl rfl rfl (by kernel_rfl) (by go_simp;try (first | with_reducible rfl | exact ⟨rfl,rfl⟩)) ?_
 refine (num_n c b q1 v q er _ I.fG hx her hs).mono ?_
 rintro e w3 ⟨rfl,hL⟩
 refine ⟨_,rfl,?_⟩
 replace I:=I.left hL
 try simp only [Exit.then,Exit.inBlock]
 exact ⟨rfl,Or.inr ⟨by rw [HT.out];exact her,_,by rw [HT.out],_,_,_,_,_,I⟩⟩
theorem un_bad3 (b:List UInt8) (c:Nat) (w:World) (I:UnI w w c b 0 0 0 0 []) (hs:b.length≤1000000) (v1:Int) (q1:Nat) (h1:getV b ((0:Nat):Int) = (v1,((q1:Nat):Int),0)) (v2:Int) (q2:Nat) (h2:getV b (q1:Nat) = (v2,((q2:Nat):Int),0)) (v q er:Int) (hx:getV b (q2:Nat) = (v,q,er)) (her:er ≠ 0) :
 Calls Tryz.prog 38 (unC c) w fun e w'=>UnEnd b w c e w':=by
 have HT:Hid ((numsV b 3 0).2.2 = er):=Lib.hid (by
  show (numsV b 3 ((0:Nat):Int)).2.2 = er
  rw [numsV_yes h1,numsV_yes h2, numsV_no hx her])
 have hcn:∀ args w,(callFunc 35 args).run Tryz.prog w = .ok (.enter 35 args) w:=fun args w=>run_enter Tryz.func35 (by kernel_rfl) rfl args w
 unfold unC
 go_enter Tryz.func38,Tryz.ntmps38
 go_upto_region 0 with fail
 replace I:=I.drew
 refine wp_region_held_drew (S:=(fun w'=>w'.cell? ⟨c + 1,0,none⟩ = some (.func (.func 35) #[.pointer (some ⟨c,0,none⟩)] #[]))) (by kernel_rfl) ?_ (fun hHeld=>?_)
 ·(try dsimp only);exact I.S
 refine zO 0 (.load 80 (.tmp 0)) 80 ?_
 refine zO 2 (.load 80 (.tmp 0)) 80 ?_
 refine zO 4 (.load 80 (.tmp 0)) 80 ?_
 refine zR 1 (fun K1 hK1=>?_)
 refine take_calli 1 35 #[.pointer (some ⟨c,0,none⟩)] (Op.call { callee:=Callee.value (Operand.tmp 6),args:=#[],argTypes:=#[] }) 3 rfl rfl rfl (by kernel_rfl) (by go_simp;try (first | with_reducible rfl | exact ⟨rfl,rfl⟩)) ?_
 refine (num_y c b 0 q1 v1 _ I.fG h1 hs).mono ?_
 rintro e w1 ⟨rfl,hL⟩
 replace I:=I.left hL
 refine ⟨_,rfl,?_⟩
 refine hK1.out _ _ ?su3x1 (fun hHeld=>?ru3x1)
 case su3x1=>((try dsimp only);exact I.S)
 try simp only [zSa,zSb,zSc]
 refine zR 3 (fun K3 hK3=>?_)
 refine take_calli 3 35 #[.pointer (some ⟨c,0,none⟩)] (Op.call { callee:=Callee.value (Operand.tmp 8),args:=#[],argTypes:=#[] }) 3 rfl rfl rfl (by kernel_rfl) (by go_simp;try (first | with_reducible rfl | exact ⟨rfl,rfl⟩)) ?_
 refine (num_y c b q1 q2 v2 _ I.fG h2 hs).mono ?_
 rintro e w3 ⟨rfl,hL⟩
 replace I:=I.left hL
 refine ⟨_,rfl,?_⟩
 refine hK3.out _ _ ?su3x3 (fun hHeld=>?ru3x3)
 case su3x3=>((try dsimp only);exact I.S)
 try simp only [zSa,zSb,zSc]
 refine zR 5 (fun K5 hK5=>?_)
 refine take_callip 5 35 #[.pointer (some ⟨c,0,none⟩)] (Op.call { callee:=Callee.value (Operand.tmp 10),args:=#[],argTypes:=#[] }) 3 rfl rfl rfl (by kernel_rfl) (by go_simp;try (first | with_reducible rfl | exact ⟨rfl,rfl⟩)) ?_
 refine (num_n c b q2 v q er _ I.fG hx her hs).mono ?_
 rintro e w5 ⟨rfl,hL⟩
 refine ⟨_,rfl,?_⟩
 replace I:=I.left hL
 try simp only [Exit.then,Exit.inBlock]
 exact ⟨rfl,Or.inr ⟨by rw [HT.out];exact her,_,by rw [HT.out],_,_,_,_,_,I⟩⟩
theorem un_good (b:List UInt8) (c:Nat) (w:World) (I:UnI w w c b 0 0 0 0 []) (hs:b.length≤1000000) (v1:Int) (q1:Nat) (h1:getV b ((0:Nat):Int) = (v1,((q1:Nat):Int),0)) (v2:Int) (q2:Nat) (h2:getV b (q1:Nat) = (v2,((q2:Nat):Int),0)) (v3:Int) (q3:Nat) (h3:getV b (q2:Nat) = (v3,((q3:Nat):Int),0)) :
 Calls Tryz.prog 38 (unC c) w fun e w'=>UnEnd b w c e w':=by
 have HT:Hid (numsV b 3 0 = ([v1,v2,v3],((q3:Nat):Int),0)):=Lib.hid (by
  show numsV b 3 ((0:Nat):Int) = _
  rw [numsV_yes h1,numsV_yes h2,numsV_yes h3];rfl)
 have HQ:Hid (q3≤b.length):=Lib.hid (by
  have:=(getV_ok (s:=b) (a:=(q2:Nat)) (by rw [h3])).2.2.1
  rw [h3] at this
  dsimp only at this
  omega)
 have hcn:∀ args w,(callFunc 35 args).run Tryz.prog w = .ok (.enter 35 args) w:=fun args w=>run_enter Tryz.func35 (by kernel_rfl) rfl args w
 have hcr:∀ args w,(callFunc 36 args).run Tryz.prog w = .ok (.enter 36 args) w:=fun args w=>run_enter Tryz.func36 (by kernel_rfl) rfl args w
 unfold unC
 go_enter Tryz.func38,Tryz.ntmps38
 go_upto_region 0 with fail
 replace I:=I.drew
 refine wp_region_held_drew (S:=(fun w'=>w'.cell? ⟨c + 1,0,none⟩ = some (.func (.func 35) #[.pointer (some ⟨c,0,none⟩)] #[]))) (by kernel_rfl) ?_ (fun hHeld=>?_)
 ·(try dsimp only);exact I.S
 refine zO 0 (.load 80 (.tmp 0)) 80 ?_
 refine zO 2 (.load 80 (.tmp 0)) 80 ?_
 refine zO 4 (.load 80 (.tmp 0)) 80 ?_
 refine zR 1 (fun K1 hK1=>?_)
 refine take_calli 1 35 #[.pointer (some ⟨c,0,none⟩)] (Op.call { callee:=Callee.value (Operand.tmp 6),args:=#[],argTypes:=#[] }) 3 rfl rfl rfl (by kernel_rfl) (by go_simp;try (first | with_reducible rfl | exact ⟨rfl,rfl⟩)) ?_
 refine (num_y c b 0 q1 v1 _ I.fG h1 hs).mono ?_
 rintro e w1 ⟨rfl,hL⟩
 replace I:=I.left hL
 refine ⟨_,rfl,?_⟩
 refine hK1.out _ _ ?su4x1 (fun hHeld=>?ru4x1)
 case su4x1=>((try dsimp only);exact I.S)
 try simp only [zSa,zSb,zSc]
 refine zR 3 (fun K3 hK3=>?_)
 refine take_calli 3 35 #[.pointer (some ⟨c,0,none⟩)] (Op.call { callee:=Callee.value (Operand.tmp 8),args:=#[],argTypes:=#[] }) 3 rfl rfl rfl (by kernel_rfl) (by go_simp;try (first | with_reducible rfl | exact ⟨rfl,rfl⟩)) ?_
 refine (num_y c b q1 q2 v2 _ I.fG h2 hs).mono ?_
 rintro e w3 ⟨rfl,hL⟩
 replace I:=I.left hL
 refine ⟨_,rfl,?_⟩
 refine hK3.out _ _ ?su4x3 (fun hHeld=>?ru4x3)
 case su4x3=>((try dsimp only);exact I.S)
 try simp only [zSa,zSb,zSc]
 refine zR 5 (fun K5 hK5=>?_)
 refine take_calli 5 35 #[.pointer (some ⟨c,0,none⟩)] (Op.call { callee:=Callee.value (Operand.tmp 10),args:=#[],argTypes:=#[] }) 3 rfl rfl rfl (by kernel_rfl) (by go_simp;try (first | with_reducible rfl | exact ⟨rfl,rfl⟩)) ?_
 refine (num_y c b q2 q3 v3 _ I.fG h3 hs).mono ?_
 rintro e w5 ⟨rfl,hL⟩
 replace I:=I.left hL
 refine ⟨_,rfl,?_⟩
 refine hK5.out _ _ ?su4x5 (fun hHeld=>?ru4x5)
 case su4x5=>((try dsimp only);exact I.S)
 try simp only [zSa,zSb,zSc]
 refine zR 6 (fun K6 hK6=>?_)
 refine take_store 6 (Op.store 3 (Operand.tmp 1) (Operand.tmp 7)) 0 rfl rfl rfl (by kernel_rfl) (w':=w5.setCell ⟨c + 3,0,none⟩ (.int .i64 v1)) (by have f:=I.fS.frozen 0;have cc:=I.fS.cell_ 0 rfl;have l:=I.fS.lt;go_simp;try (with_reducible rfl)) ?_
 refine hK6.out _ _ ((I.set1 v1).S) (fun hHeld=>?_)
 replace I:=I.set1 v1
 generalize (w5.setCell ⟨c + 3,0,none⟩ (.int .i64 v1)) = wq at *
 refine zR 7 (fun K7 hK7=>?_)
 refine take_store 7 (Op.store 3 (Operand.tmp 2) (Operand.tmp 9)) 0 rfl rfl rfl (by kernel_rfl) (w':=wq.setCell ⟨c + 4,0,none⟩ (.int .i64 v2)) (by have f:=I.fP.frozen 0;have cc:=I.fP.cell_ 0 rfl;have l:=I.fP.lt;go_simp;try (with_reducible rfl)) ?_
 refine hK7.out _ _ ((I.set2 v2).S) (fun hHeld=>?_)
 replace I:=I.set2 v2
 generalize (wq.setCell ⟨c + 4,0,none⟩ (.int .i64 v2)) = wq at *
 refine zR 8 (fun K8 hK8=>?_)
 refine take_store 8 (Op.store 3 (Operand.tmp 3) (Operand.tmp 11)) 0 rfl rfl rfl (by kernel_rfl) (w':=wq.setCell ⟨c + 5,0,none⟩ (.int .i64 v3)) (by have f:=I.fM.frozen 0;have cc:=I.fM.cell_ 0 rfl;have l:=I.fM.lt;go_simp;try (with_reducible rfl)) ?_
 refine hK8.out _ _ ((I.set3 v3).S) (fun hHeld=>?_)
 replace I:=I.set3 v3
 generalize (wq.setCell ⟨c + 5,0,none⟩ (.int .i64 v3)) = wq at *
 refine wpAnyH_done (by kernel_rfl) ?_ _
 clear hHeld
 have cR:=I.R
 go_wp2_with fail
 refine (rest_any c b q3 _ I.fG HQ.out (by omega)).mono ?_
 rintro e w9 ⟨rfl,hL⟩
 replace I:=I.left hL
 have cB:=I.fB.cell_ 0 rfl
 have fB:=I.fB.frozen 0
 have lB:=I.fB.lt
 clear hL cR
 go_wp2_with fail
 refine bodyPost_ret (results_none rfl _ _ _) rfl ?_
 refine Or.inl ⟨by rw [HT.out],rfl,((b.length:Nat):Int),?_⟩
 rw [HT.out]
 simp only [List.getElem?_cons_zero,List.getElem?_cons_succ,Option.getD_some,Int.toNat_natCast]
 exact I.setb _
theorem un_any (b:List UInt8) (c:Nat) (w:World) (I:UnI w w c b 0 0 0 0 []) (hs:b.length≤1000000) :
 Calls Tryz.prog 38 (unC c) w fun e w'=>UnEnd b w c e w':=by
 rcases getV_three b 0 with ⟨v1,q1,h1⟩ | ⟨v,q,er,hx,her⟩
 ·rcases getV_three b q1 with ⟨v2,q2,h2⟩ | ⟨v,q,er,hx,her⟩
  ·rcases getV_three b q2 with ⟨v3,q3,h3⟩ | ⟨v,q,er,hx,her⟩
   ·exact un_good b c w I hs v1 q1 h1 v2 q2 h2 v3 q3 h3
   ·exact un_bad3 b c w I hs v1 q1 h1 v2 q2 h2 v q er hx her
  ·exact un_bad2 b c w I hs v1 q1 h1 v q er hx her
 ·exact un_bad1 b c w I hs v q er hx her
theorem hcf_un:∀ args w,(callFunc 38 args).run Tryz.prog w = .ok (.enter 38 args) w:=fun args w=>run_enter Tryz.func38 (by kernel_rfl) rfl args w
theorem un_yes (b:List UInt8) (c:Nat) (w:World) (h:∀ i x,(unL c b 0 0 0 0 [])[i]? = some x → Blk w (c + i) x.1 x.2) (hc:c + 7≤w.heap.size) (hs:b.length≤1000000) (h0:(numsV b 3 0).2.2 = 0) :
 Calls Tryz.prog 37 #[.func (.func 38) #[] (unC c)] w fun e w'=>e = .returned (.tuple #[.int .i64 0,.int .i64 0]) ∧
  (∃ q,∀ i x,(unL c b q ((numsV b 3 0).1[0]?.getD 0) ((numsV b 3 0).1[1]?.getD 0) ((numsV b 3 0).1[2]?.getD 0) (b.drop (numsV b 3 0).2.1.toNat))[i]? = some x → Blk w' (c + i) x.1 x.2)∧Below c w w':=by
 have C2:=caughtK_ok 38 hcf_un (unC c) w (fun w1=>∃ q,UnI _ w1 c b q ((numsV b 3 0).1[0]?.getD 0) ((numsV b 3 0).1[1]?.getD 0) ((numsV b 3 0).1[2]?.getD 0) (b.drop (numsV b 3 0).2.1.toNat)) (fun w1 ⟨q,h⟩=>Cl.cells h hc)
  ((un_any b c _ (Cl.start h hc) hs).mono fun e w1 h=>by
   rcases h with ⟨_,h2,h3⟩ | ⟨h1,_⟩
   ·exact ⟨h2,h3⟩
   ·exact absurd h0 h1)
 exact C2.mono fun e w' ⟨h1,w1,⟨q,I⟩,F⟩=>⟨h1,⟨q,(Cl.fell I hc F).1⟩,(Cl.fell I hc F).2⟩
theorem un_no (b:List UInt8) (c:Nat) (w:World) (h:∀ i x,(unL c b 0 0 0 0 [])[i]? = some x → Blk w (c + i) x.1 x.2) (hc:c + 7≤w.heap.size) (hs:b.length≤1000000) (h0:(numsV b 3 0).2.2 ≠ 0) :
 Calls Tryz.prog 37 #[.func (.func 38) #[] (unC c)] w fun e w'=>∃ at_,e = .returned (.tuple #[.int .i64 (numsV b 3 0).2.2,.int .i64 at_])∧Below c w w':=by
 have C2:=caughtK_no 38 hcf_un (unC c) (numsV b 3 0).2.2 w (fun w1=>∃ q v1 v2 v3 bd,UnI _ w1 c b q v1 v2 v3 bd) (fun w1 ⟨q,v1,v2,v3,bd,h⟩=>Cl.cells h hc)
  ((un_any b c _ (Cl.start h hc) hs).mono fun e w1 h=>by
   rcases h with ⟨h1,_⟩ | ⟨_,a,h2,h3⟩
   ·exact absurd h1 h0
   ·exact ⟨a,h2,h3⟩)
 exact C2.mono fun e w' ⟨a,h1,w1,⟨q,v1,v2,v3,bd,I⟩,F⟩=>⟨a,h1,(Cl.fell I hc F).2⟩
theorem un_all {w:World} {c:Nat} {s bd:List UInt8} {q v1 v2 v3:Int} (h0:Blk w c 145 (tk s q)) (h1:Blk w (c + 1) 80 #[numV c]) (h2:Blk w (c + 2) 81 #[restV c]) (h3:Blk w (c + 3) 3 #[.int .i64 v1]) (h4:Blk w (c + 4) 3 #[.int .i64 v2]) (h5:Blk w (c + 5) 3 #[.int .i64 v3]) (h6:Blk w (c + 6) 9 #[str bd]) :
 ∀ i x,(unL c s q v1 v2 v3 bd)[i]? = some x → Blk w (c + i) x.1 x.2:=by
 intro i x hx
 match i,hx with
 | 0,hx=>obtain rfl:=Option.some.inj hx;exact h0
 | 1,hx=>obtain rfl:=Option.some.inj hx;exact h1
 | 2,hx=>obtain rfl:=Option.some.inj hx;exact h2
 | 3,hx=>obtain rfl:=Option.some.inj hx;exact h3
 | 4,hx=>obtain rfl:=Option.some.inj hx;exact h4
 | 5,hx=>obtain rfl:=Option.some.inj hx;exact h5
 | 6,hx=>obtain rfl:=Option.some.inj hx;exact h6
 | n + 7,hx=>simp [unL] at hx
theorem decV_len (s:List UInt8) (N:Nat):(decV s N).1.length≤N:=by
 unfold decV
 repeat' split
 all_goals first | exact unpG_len _ _ _ | simp
theorem blk_at2 {w0:World} {g:Nat} (t:TypeId) (cs:Array Value) (h:w0.heap.size = g):Blk (w0.alloc (.cells cs t)) g t cs:=h ▸ Blk.new w0 t cs
def wUn (b:List UInt8) (w:World):World :=
 ((((((w.alloc (.cells (tk b 0) 145)).alloc (.cells #[numV w.heap.size] 80)).alloc (.cells #[restV w.heap.size] 81)).alloc (.cells #[.int .i64 0] 3)).alloc (.cells #[.int .i64 0] 3)).alloc (.cells #[.int .i64 0] 3)).alloc (.cells #[str []] 9)
theorem wUn_size (b:List UInt8) (w:World):(wUn b w).heap.size = w.heap.size + 7:=by simp [wUn]
theorem wUn_below (b:List UInt8) (w:World):Below w.heap.size w (wUn b w) :=
 (((((((Below.refl w.heap.size w).alloc (Nat.le_refl _) _).alloc (by simp) _).alloc (by simp;omega) _).alloc (by simp;omega) _).alloc (by simp;omega) _).alloc (by simp;omega) _).alloc (by simp;omega) _
theorem wUn_fr (b:List UInt8) (w:World):∀ i x,(unL w.heap.size b 0 0 0 0 [])[i]? = some x → Blk (wUn b w) (w.heap.size + i) x.1 x.2:=by
 refine un_all ?_ ?_ ?_ ?_ ?_ ?_ ?_
 ·exact Blk.alloc (Blk.alloc (Blk.alloc (Blk.alloc (Blk.alloc (Blk.alloc (blk_at2 _ _ rfl) _) _) _) _) _) _
 ·exact Blk.alloc (Blk.alloc (Blk.alloc (Blk.alloc (Blk.alloc (blk_at2 _ _ (by simp)) _) _) _) _) _
 ·exact Blk.alloc (Blk.alloc (Blk.alloc (Blk.alloc (blk_at2 _ _ (by simp)) _) _) _) _
 ·exact Blk.alloc (Blk.alloc (Blk.alloc (blk_at2 _ _ (by simp)) _) _) _
 ·exact Blk.alloc (Blk.alloc (blk_at2 _ _ (by simp)) _) _
 ·exact Blk.alloc (blk_at2 _ _ (by simp)) _
 ·exact blk_at2 _ _ (by simp)
theorem Unpack_any (b:List UInt8) (w:World) (hs:b.length≤100000) (x:List UInt8 × Int) (hx:unpackV b = x) :
 Calls Tryz.prog 10 #[str b] w fun e w'=>e = .returned (.tuple #[str x.1,.int .i64 x.2])∧Below w.heap.size w w':=by
 have hmf:∀ (fn:Fn) (first cap:Array Value) (w:World),(Instr.makeFunc fn first cap).run Tryz.prog w = .ok (.func fn first cap) w:=fun _ _ _ _=>rfl
 have HX:=Lib.hid hx
 clear hx
 go_enter Tryz.func10,Tryz.ntmps10
 go_wp2_with fail
 refine (new_any b _).mono ?_
 rintro e w1 ⟨rfl,rfl⟩
 go_wp2_with fail
 have hsz:=wUn_size b w
 have hlow:=wUn_below b w
 by_cases h0:(numsV b 3 0).2.2 = 0
 ·refine (un_yes b w.heap.size (wUn b w) (wUn_fr b w) (by omega) (by omega) h0).mono ?_
  rintro e w2 ⟨rfl,⟨q,hq⟩,HB⟩
  replace HB:=hlow.trans HB
  have hx1:=HX.out
  unfold unpackV unpOf at hx1
  rw [if_pos h0] at hx1
  have hin:=(numsV_ok h0 (by omega) (by omega)).2.2
  have hle:=numsV_len h0
  obtain ⟨n0,n1,n2,hn⟩:∃ n0 n1 n2,(numsV b 3 0).1 = [n0,n1,n2]:=by
   match (numsV b 3 0).1,hle with
   | [x,y,z],_=>exact ⟨x,y,z,rfl⟩
  have hd:(b.drop (numsV b 3 0).2.1.toNat).length≤100000:=by rw [List.length_drop];omega
  rw [hn] at hin hx1 hq
  have hi0:=hin n0 (by simp)
  have hi2:=hin n2 (by simp)
  obtain ⟨N,rfl⟩:=Int.eq_ofNat_of_zero_le hi2.1
  generalize b.drop (numsV b 3 0).2.1.toNat = bd at *
  simp only [List.getElem?_cons_zero,List.getElem?_cons_succ,Option.getD_some,Int.toNat_natCast] at hx1 hq
  have cS:=(hq 3 _ rfl:Blk w2 (w.heap.size + 3) 3 #[.int .i64 n0]).cell_ 0 rfl
  have cP:=(hq 4 _ rfl:Blk w2 (w.heap.size + 4) 3 #[.int .i64 n1]).cell_ 0 rfl
  have cM:=(hq 5 _ rfl:Blk w2 (w.heap.size + 5) 3 #[.int .i64 (N:Nat)]).cell_ 0 rfl
  have cB:=(hq 6 _ rfl:Blk w2 (w.heap.size + 6) 9 #[str bd]).cell_ 0 rfl
  clear hle hn hin h0 HX hsz hlow
  by_cases h1:20000 < n0
  ·rw [if_pos (.inl h1)] at hx1
   subst hx1
   go_wp2_with fail
   go_ret2
   exact ⟨rfl,HB⟩
  ·by_cases h2:n0 < (N:Int)
   ·rw [if_pos (.inr h2)] at hx1
    subst hx1
    go_wp2_with fail
    go_ret2
    exact ⟨rfl,HB⟩
   ·rw [if_neg (by omega)] at hx1
    have hvl:=decV_len bd N
    have CD:=fun w=>HufW.decode_cap bd N w (by omega) hd _ rfl
    obtain ⟨v,hv⟩:∃ v,decV bd N = v:=⟨_,rfl⟩
    have hv2:HufW.decV bd N = v:=hv
    rw [hv] at hx1 hvl
    rw [hv2] at CD
    obtain ⟨vl,ve⟩:=v
    dsimp only at hx1 hvl CD
    have HX1:=Lib.hid hx1
    clear hx1 hv hv2
    have CD':=CD w2
    go_wp2_with fail
    refine CD'.mono ?_
    clear CD' CD cS cP cM cB
    rintro e w3 ⟨A2,k2,c2,rfl,hkc,hkm,R,hb3⟩
    have hbS:=(hq 3 _ rfl:Blk w2 (w.heap.size + 3) 3 #[.int .i64 n0]).below hb3 (hq 3 _ rfl).lt
    have hbP:=(hq 4 _ rfl:Blk w2 (w.heap.size + 4) 3 #[.int .i64 n1]).below hb3 (hq 4 _ rfl).lt
    have cS:=hbS.cell_ 0 rfl
    have cP:=hbP.cell_ 0 rfl
    replace HB:=HB.trans (hb3.mono HB.size)
    have hkl:vl.length = k2:=rd_len R
    clear hq hb3 hbS hbP
    by_cases h3:ve = 0
    ·subst h3
     have hx2:=HX1.out
     rw [if_pos rfl] at hx2
     have CT:=Text_any A2 k2 c2 vl n1 n0 w3 R (by omega) hkc hkm x hx2
     clear HX1 hx2 hvl hkl
     go_wp2_with fail
     refine CT.mono ?_
     clear CT
     rintro e w4 ⟨rfl,hb4⟩
     replace HB:=HB.trans (hb4.mono HB.size)
     go_wp2_with fail
     go_ret2
     exact ⟨rfl,HB⟩
    ·have hx2:=HX1.out
     rw [if_neg h3] at hx2
     subst hx2
     have h3b:(ve != 0) = true:=by simp [h3]
     clear HX1
     go_wp2_with fail
     go_ret2
     exact ⟨rfl,HB⟩
 ·refine (un_no b w.heap.size (wUn b w) (wUn_fr b w) (by omega) (by omega) h0).mono ?_
  rintro e w2 ⟨at_,rfl,HB⟩
  replace HB:=hlow.trans HB
  have hx1:=HX.out
  unfold unpackV unpOf at hx1
  rw [if_neg h0] at hx1
  obtain ⟨er,her⟩:∃ er,(numsV b 3 0).2.2 = er:=⟨_,rfl⟩
  rw [her] at hx1 h0 ⊢
  subst hx1
  have h0b:(er != 0) = true:=by simp [h0]
  clear her HX hsz hlow
  go_wp2_with fail
  go_ret2
  exact ⟨rfl,HB⟩
end SqW
end Go.Proofs.YtnpncpoiiikafaaGreat
namespace Go.Proofs.YtnpncpoiiikafaaGreat
open Go.RowKit
namespace SqW
open SufW (Sa letters)
theorem packed_any (w:World) :
 Calls Tryz.prog 6 #[] w fun e w'=>e = .returned (.bool true)∧Below w.heap.size w w':=by
 have C:=pack_any sT w (by decide)
 go_enter Tryz.func6,Tryz.ntmps6
 go_wp2_with fail
 refine C.mono ?_
 clear C
 rintro e w1 ⟨A,pr,rfl,hA,hpr,HB⟩
 have hl:=pack_T hA hpr
 have hu:=unpack_pack sT A hA pr hpr (by decide)
 have C:=Unpack_any (packB sT A pr) w1 (by omega) _ hu
 generalize packB sT A pr = b at *
 clear hu hA hpr
 go_wp2_with fail
 refine C.mono ?_
 clear C
 rintro e w2 ⟨rfl,hb2⟩
 replace HB:=HB.trans (hb2.mono HB.size)
 clear hb2
 have hI:(b.length:Int) < 60:=by omega
 clear hl
 go_wp2_with fail
 go_ret
 exact ⟨rfl,HB⟩
end SqW
end Go.Proofs.YtnpncpoiiikafaaGreat
namespace Go.Proofs.YtnpncpoiiikafaaGreat
open Go.RowKit
abbrev rng (lo hi:Int):Value:=.agg #[.int .i64 lo,.int .i64 hi]
namespace SpanW
abbrev R:=Int × Int
abbrev rv (p:R):Value:=rng p.1 p.2
end SpanW
end Go.Proofs.YtnpncpoiiikafaaGreat
