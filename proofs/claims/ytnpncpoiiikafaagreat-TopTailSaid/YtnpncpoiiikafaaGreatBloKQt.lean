/- BloK -/
import Derived.Test.YtnpncpoiiikafaaGreatSqPQt
import Derived.Test.YtnpncpoiiikafaaGreatRecJQt
import Derived.Test.YtnpncpoiiikafaaGreatTakRQt
import Derived.Deep.DeepCutAuto
import Derived.Test.YtnpncpoiiikafaaGreatMemQt
set_option linter.unusedVariables false
set_option linter.unusedSimpArgs false
set_option linter.unnecessarySimpa false
set_option maxRecDepth 100000
set_option maxHeartbeats 32000000
namespace Go.Proofs.YtnpncpoiiikafaaGreat
open Go.RowKit
namespace BloW
open TakW (take_callip tk flt Kept byte_yes byte_short num_yes num_bad rest_any grown_set grown_new grown_drew)
open VarW
def hcs (a0 a1 m r c f e l:Int) (b:List UInt8):Array Value:=#[.int .i64 a0,.int .i64 a1,.int .i64 r,.int .i64 c,.int .i64 f,.int .i64 e,.int .i64 l,.int .i64 m,str b]
def numV (g:Nat):Value:=.func (.func 35) #[.pointer (some ⟨g,0,none⟩)] #[]
structure PkI (w wr:World) (bT bH bN g:Nat) (s:List UInt8) (q:Int) (hv:Array Value):Prop where
 fT:Blk wr bT 78 #[.pointer (some ⟨g,0,none⟩)]
 fH:Blk wr bH 93 hv
 fN:Blk wr bN 80 #[numV g]
 fG:Blk wr g 145 (tk s q)
 kept:Kept w wr bH g
 hH:bH < w.heap.size
 hG:g < w.heap.size
 h1:bT ≠ bH
 h2:bT ≠ g
 h3:bN ≠ bH
 h4:bN ≠ g
 h5:bH ≠ g
section
variable {w wr w1:World} {bT bH bN g:Nat} {s:List UInt8} {q q1:Int} {hv:Array Value}
theorem PkI.drew (h:PkI w wr bT bH bN g s q hv):PkI w wr.drew bT bH bN g s q hv :=
 ⟨h.fT.drew,h.fH.drew,h.fN.drew,h.fG.drew,h.kept.grown (TakW.grown_drew _) (by simp),h.hH,h.hG,h.h1,h.h2,h.h3,h.h4,h.h5⟩
theorem PkI.drewN (h:PkI w wr bT bH bN g s q hv) (n:Nat):PkI w (wr.drewN n) bT bH bN g s q hv :=
 ⟨h.fT.drewN n,h.fH.drewN n,h.fN.drewN n,h.fG.drewN n,h.kept.grown (row:=none) ⟨rfl,rfl,rfl,Nat.le_refl _,fun _ _ _=>rfl⟩ (by simp),h.hH,h.hG,h.h1,h.h2,h.h3,h.h4,h.h5⟩
theorem PkI.left (h:PkI w wr bT bH bN g s q hv) (hL:TakW.Left wr w1 g s q1):PkI w w1 bT bH bN g s q1 hv :=
 ⟨h.fT.grown hL.2 (by simpa using h.h2),h.fH.grown hL.2 (by simpa using h.h5),h.fN.grown hL.2 (by simpa using h.h4),hL.1,h.kept.grown hL.2 (by simp),h.hH,h.hG,h.h1,h.h2,h.h3,h.h4,h.h5⟩
theorem PkI.set (h:PkI w wr bT bH bN g s q hv) (i:Nat) (v:Value):PkI w (wr.setCell ⟨bH,i,none⟩ v) bT bH bN g s q (hv.setIfInBounds i v) :=
 ⟨h.fT.far (p:=⟨bH,i,none⟩) h.h1 v,h.fH.set i v,h.fN.far (p:=⟨bH,i,none⟩) h.h3 v,h.fG.far (p:=⟨bH,i,none⟩) (fun e=>h.h5 e.symm) v,h.kept.grown (TakW.grown_set _ bH i v) (by simp),h.hH,h.hG,h.h1,h.h2,h.h3,h.h4,h.h5⟩
theorem PkI.S (h:PkI w wr bT bH bN g s q hv):wr.cell? ⟨bN,0,none⟩ = some (numV g):=h.fN.cell_ 0 rfl
end
def takeV (b:List UInt8):Hd × Int :=
 if b = [] then (hdZ,4) else
 if (numsV b 5 1).2.2 = 0 then (hdOf b (numsV b 5 1),0) else (hdZ,(numsV b 5 1).2.2)
theorem peek_take (b:List UInt8):peekV b = if (takeV b).2 = 0 then (if mayB (takeV b).1 = true then ((takeV b).1,0) else (hdZ,170)) else (hdZ,(takeV b).2):=by
 unfold peekV takeV
 by_cases h:b = []
 ·rw [if_pos h,if_pos h,if_neg (by decide)]
 ·rw [if_neg h,if_neg h]
  by_cases h2:(numsV b 5 1).2.2 = 0
  ·rw [if_pos h2,if_pos h2,if_pos rfl]
  ·rw [if_neg h2,if_neg h2,if_neg h2]
def PkEnd (b:List UInt8) (w:World) (bT bH bN g:Nat) (e:Ending) (w':World):Prop :=
 ((takeV b).2 = 0∧e = .returned (.tuple #[])∧∃ q,PkI w w' bT bH bN g b q (hcs 0 0 (takeV b).1.mode (takeV b).1.raw (takeV b).1.cnt (takeV b).1.frst (takeV b).1.early (takeV b).1.late (takeV b).1.body)) ∨
 ((takeV b).2 ≠ 0∧∃ at_,e = .panicked (flt (takeV b).2 at_)∧∃ q hv,PkI w w' bT bH bN g b q hv)
theorem peek_none (b:List UInt8) (bT bH bN g:Nat) (w:World) (I:PkI w w bT bH bN g b 0 (hcs 0 0 0 0 0 0 0 0 [])) (hs:b.length≤1000000) (hb:b = []) :
 Calls Tryz.prog 104 #[.pointer (some ⟨bT,0,none⟩),.pointer (some ⟨bH,0,none⟩),.pointer (some ⟨bN,0,none⟩)] w fun e w'=>PkEnd b w bT bH bN g e w':=by
 obtain ⟨cT,_,_⟩:=blk1 I.fT
 go_enter Tryz.func104,Tryz.ntmps104
 go_wp2_with fail
 refine (byte_short g b 0 w I.fG (by omega) (by rw [hb];simp) (by omega)).mono ?_
 rintro e w1 ⟨rfl,hL⟩
 go_wp2_with fail
 simp [bodyPost]
 exact Or.inr ⟨by simp [takeV,hb],0,by simp [takeV,hb],0,_,I.left hL⟩
theorem num_y (g:Nat) (s:List UInt8) (p q:Nat) (v:Int) (w:World) (h:Blk w g 145 (tk s (p:Nat))) (hx:getV s (p:Nat) = (v,((q:Nat):Int),0)) (hs:s.length≤1000000) :
 Calls Tryz.prog 35 #[.pointer (some ⟨g,0,none⟩)] w fun e w'=>e = .returned (.int .i64 v)∧TakW.Left w w' g s (q:Nat):=num_yes g s p _ w h hx rfl (by omega)
theorem num_n (g:Nat) (s:List UInt8) (p:Nat) (v q er:Int) (w:World) (h:Blk w g 145 (tk s (p:Nat))) (hx:getV s (p:Nat) = (v,q,er)) (h0:er ≠ 0) (hs:s.length≤1000000) :
 Calls Tryz.prog 35 #[.pointer (some ⟨g,0,none⟩)] w fun e w'=>e = .panicked (flt er p)∧TakW.Left w w' g s (p:Nat):=num_bad g s p _ w h hx h0 (by omega)
theorem take_ok {b:List UInt8} {v1 v2 v3 v4 v5:Int} {q1 q2 q3 q4 q5:Nat} (hb:b ≠ []) (h1:getV b ((1:Nat):Int) = (v1,((q1:Nat):Int),0)) (h2:getV b (q1:Nat) = (v2,((q2:Nat):Int),0)) (h3:getV b (q2:Nat) = (v3,((q3:Nat):Int),0)) (h4:getV b (q3:Nat) = (v4,((q4:Nat):Int),0)) (h5:getV b (q4:Nat) = (v5,((q5:Nat):Int),0)) :
 takeV b = (⟨((b[0]?.getD 0).toNat:Int),v1,v2,v3,v4,moreV v4 v5,b.drop q5⟩,0):=by
 have e:numsV b 5 1 = ([v1,v2,v3,v4,v5],((q5:Nat):Int),0):=by
  show numsV b 5 ((1:Nat):Int) = _
  rw [numsV_yes h1,numsV_yes h2,numsV_yes h3,numsV_yes h4,numsV_yes h5];rfl
 unfold takeV
 rw [if_neg hb,e,if_pos rfl]
 simp [hdOf,atI]
theorem peek_bad1 (b:List UInt8) (bT bH bN g:Nat) (w:World) (I:PkI w w bT bH bN g b 0 (hcs 0 0 0 0 0 0 0 0 [])) (hs:b.length≤1000000) (hb:b ≠ [])  (v q er:Int) (hx:getV b ((1:Nat):Int) = (v,q,er)) (her:er ≠ 0) :
 Calls Tryz.prog 104 #[.pointer (some ⟨bT,0,none⟩),.pointer (some ⟨bH,0,none⟩),.pointer (some ⟨bN,0,none⟩)] w fun e w'=>PkEnd b w bT bH bN g e w':=by
 have HT:Hid ((takeV b).2 = er):=Lib.hid (by
  have e:(numsV b 5 1).2.2 = er:=by show (numsV b 5 ((1:Nat):Int)).2.2 = er;rw [ numsV_no hx her]
  unfold takeV
  rw [if_neg hb,if_neg (by rw [e];exact her)]
  exact e)
 obtain ⟨cT,_,_⟩:=blk1 I.fT
 have hcn:∀ args w,(callFunc 35 args).run Tryz.prog w = .ok (.enter 35 args) w:=fun args w=>run_enter Tryz.func35 (by kernel_rfl) rfl args w
 have hb0:0 < b.length:=List.length_pos_iff.2 hb
 have hm0:b[0]?.getD 0 = b[0]:=by rw [List.getElem?_eq_getElem hb0];rfl
 have CB:=byte_yes g b 0 w I.fG hb0 (by omega)
 rw [← hm0] at CB
 obtain ⟨m,hm⟩:∃ m,(((b[0]?.getD 0).toNat:Nat):Int) = m:=⟨_,rfl⟩
 rw [hm] at CB
 have HM:=Lib.hid hm
 clear hm hm0
 go_enter Tryz.func104,Tryz.ntmps104
 go_wp2_with fail
 refine CB.mono ?_
 clear CB
 rintro e w0 ⟨rfl,hL0⟩
 replace I:=I.left (q1:=((1:Nat):Int)) hL0
 obtain ⟨v7,c7,f7⟩:∃ v,w0.cell? ⟨bH,7,none⟩ = some v∧w0.frozen? ⟨bH,7,none⟩ = false:=⟨_,I.fH.cell_ 7 rfl,I.fH.frozen 7⟩
 have l7:=I.fH.lt
 clear cT hL0
 go_upto_region 1 with fail
 replace I:=I.set 7 (.int .i64 m)
 clear c7 f7 l7
 generalize w0.setCell ⟨bH,7,none⟩ (.int .i64 m) = w1 at *
 replace I:=I.drew
 refine wp_region_held_drew (S:=(fun w'=>w'.cell? ⟨bN,0,none⟩ = some (.func (.func 35) #[.pointer (some ⟨g,0,none⟩)] #[]))) (by kernel_rfl) ?_ (fun hHeld=>?_)
 ·(try dsimp only);exact I.S
 refine zO 0 (.load 80 (.tmp 2)) 80 ?_
 refine zO 2 (.load 80 (.tmp 2)) 80 ?_
 refine zO 4 (.load 80 (.tmp 2)) 80 ?_
 refine zO 6 (.load 80 (.tmp 2)) 80 ?_
 refine zR 1 (fun K1 hK1=>?_)
 refine take_callip 1 35 #[.pointer (some ⟨g,0,none⟩)] (Op.call { callee:=Callee.value (Operand.tmp 7),args:=#[],argTypes:=#[] }) 3 rfl rfl rfl (by kernel_rfl) (by go_simp;try (first | with_reducible rfl | exact ⟨rfl,rfl⟩)) ?_
 refine (num_n g b 1 v q er _ I.fG hx her hs).mono ?_
 rintro e w1 ⟨rfl,hL⟩
 refine ⟨_,rfl,?_⟩
 replace I:=I.left hL
 try simp only [Exit.then,Exit.inBlock]
 exact ⟨rfl,Or.inr ⟨by rw [HT.out];exact her,_,by rw [HT.out],_,_,I⟩⟩
theorem peek_bad2 (b:List UInt8) (bT bH bN g:Nat) (w:World) (I:PkI w w bT bH bN g b 0 (hcs 0 0 0 0 0 0 0 0 [])) (hs:b.length≤1000000) (v1:Int) (q1:Nat) (hb:b ≠ []) (h1:getV b ((1:Nat):Int) = (v1,((q1:Nat):Int),0)) (v q er:Int) (hx:getV b (q1:Nat) = (v,q,er)) (her:er ≠ 0) :
 Calls Tryz.prog 104 #[.pointer (some ⟨bT,0,none⟩),.pointer (some ⟨bH,0,none⟩),.pointer (some ⟨bN,0,none⟩)] w fun e w'=>PkEnd b w bT bH bN g e w':=by
 have HT:Hid ((takeV b).2 = er):=Lib.hid (by
  have e:(numsV b 5 1).2.2 = er:=by show (numsV b 5 ((1:Nat):Int)).2.2 = er;rw [numsV_yes h1, numsV_no hx her]
  unfold takeV
  rw [if_neg hb,if_neg (by rw [e];exact her)]
  exact e)
 obtain ⟨cT,_,_⟩:=blk1 I.fT
 have hcn:∀ args w,(callFunc 35 args).run Tryz.prog w = .ok (.enter 35 args) w:=fun args w=>run_enter Tryz.func35 (by kernel_rfl) rfl args w
 have hb0:0 < b.length:=List.length_pos_iff.2 hb
 have hm0:b[0]?.getD 0 = b[0]:=by rw [List.getElem?_eq_getElem hb0];rfl
 have CB:=byte_yes g b 0 w I.fG hb0 (by omega)
 rw [← hm0] at CB
 obtain ⟨m,hm⟩:∃ m,(((b[0]?.getD 0).toNat:Nat):Int) = m:=⟨_,rfl⟩
 rw [hm] at CB
 have HM:=Lib.hid hm
 clear hm hm0
 go_enter Tryz.func104,Tryz.ntmps104
 go_wp2_with fail
 refine CB.mono ?_
 clear CB
 rintro e w0 ⟨rfl,hL0⟩
 replace I:=I.left (q1:=((1:Nat):Int)) hL0
 obtain ⟨v7,c7,f7⟩:∃ v,w0.cell? ⟨bH,7,none⟩ = some v∧w0.frozen? ⟨bH,7,none⟩ = false:=⟨_,I.fH.cell_ 7 rfl,I.fH.frozen 7⟩
 have l7:=I.fH.lt
 clear cT hL0
 go_upto_region 1 with fail
 replace I:=I.set 7 (.int .i64 m)
 clear c7 f7 l7
 generalize w0.setCell ⟨bH,7,none⟩ (.int .i64 m) = w1 at *
 replace I:=I.drew
 refine wp_region_held_drew (S:=(fun w'=>w'.cell? ⟨bN,0,none⟩ = some (.func (.func 35) #[.pointer (some ⟨g,0,none⟩)] #[]))) (by kernel_rfl) ?_ (fun hHeld=>?_)
 ·(try dsimp only);exact I.S
 refine zO 0 (.load 80 (.tmp 2)) 80 ?_
 refine zO 2 (.load 80 (.tmp 2)) 80 ?_
 refine zO 4 (.load 80 (.tmp 2)) 80 ?_
 refine zO 6 (.load 80 (.tmp 2)) 80 ?_
 refine zR 1 (fun K1 hK1=>?_)
 refine take_calli 1 35 #[.pointer (some ⟨g,0,none⟩)] (Op.call { callee:=Callee.value (Operand.tmp 7),args:=#[],argTypes:=#[] }) 3 rfl rfl rfl (by kernel_rfl) (by go_simp;try (first | with_reducible rfl | exact ⟨rfl,rfl⟩)) ?_
 refine (num_y g b 1 q1 v1 _ I.fG h1 hs).mono ?_
 rintro e w1 ⟨rfl,hL⟩
 replace I:=I.left hL
 refine ⟨_,rfl,?_⟩
 refine hK1.out _ _ ?su2x1 (fun hHeld=>?ru2x1)
 case su2x1=>((try dsimp only);exact I.S)
 try simp only [zSa,zSb,zSc]
 refine zO 8 (.fieldAddr 93 (.tmp 1) 0) 0 ?_
 refine zO 9 (.fieldAddr 33 (.tmp 15) 2) 0 ?_
 refine zR 3 (fun K3 hK3=>?_)
 refine take_callip 3 35 #[.pointer (some ⟨g,0,none⟩)] (Op.call { callee:=Callee.value (Operand.tmp 9),args:=#[],argTypes:=#[] }) 3 rfl rfl rfl (by kernel_rfl) (by go_simp;try (first | with_reducible rfl | exact ⟨rfl,rfl⟩)) ?_
 refine (num_n g b q1 v q er _ I.fG hx her hs).mono ?_
 rintro e w3 ⟨rfl,hL⟩
 refine ⟨_,rfl,?_⟩
 replace I:=I.left hL
 try simp only [Exit.then,Exit.inBlock]
 exact ⟨rfl,Or.inr ⟨by rw [HT.out];exact her,_,by rw [HT.out],_,_,I⟩⟩
theorem peek_bad3 (b:List UInt8) (bT bH bN g:Nat) (w:World) (I:PkI w w bT bH bN g b 0 (hcs 0 0 0 0 0 0 0 0 [])) (hs:b.length≤1000000) (v1 v2:Int) (q1 q2:Nat) (hb:b ≠ []) (h1:getV b ((1:Nat):Int) = (v1,((q1:Nat):Int),0)) (h2:getV b (q1:Nat) = (v2,((q2:Nat):Int),0)) (v q er:Int) (hx:getV b (q2:Nat) = (v,q,er)) (her:er ≠ 0) :
 Calls Tryz.prog 104 #[.pointer (some ⟨bT,0,none⟩),.pointer (some ⟨bH,0,none⟩),.pointer (some ⟨bN,0,none⟩)] w fun e w'=>PkEnd b w bT bH bN g e w':=by
 have HT:Hid ((takeV b).2 = er):=Lib.hid (by
  have e:(numsV b 5 1).2.2 = er:=by show (numsV b 5 ((1:Nat):Int)).2.2 = er;rw [numsV_yes h1,numsV_yes h2, numsV_no hx her]
  unfold takeV
  rw [if_neg hb,if_neg (by rw [e];exact her)]
  exact e)
 obtain ⟨cT,_,_⟩:=blk1 I.fT
 have hcn:∀ args w,(callFunc 35 args).run Tryz.prog w = .ok (.enter 35 args) w:=fun args w=>run_enter Tryz.func35 (by kernel_rfl) rfl args w
 have hb0:0 < b.length:=List.length_pos_iff.2 hb
 have hm0:b[0]?.getD 0 = b[0]:=by rw [List.getElem?_eq_getElem hb0];rfl
 have CB:=byte_yes g b 0 w I.fG hb0 (by omega)
 rw [← hm0] at CB
 obtain ⟨m,hm⟩:∃ m,(((b[0]?.getD 0).toNat:Nat):Int) = m:=⟨_,rfl⟩
 rw [hm] at CB
 have HM:=Lib.hid hm
 clear hm hm0
 go_enter Tryz.func104,Tryz.ntmps104
 go_wp2_with fail
 refine CB.mono ?_
 clear CB
 rintro e w0 ⟨rfl,hL0⟩
 replace I:=I.left (q1:=((1:Nat):Int)) hL0
 obtain ⟨v7,c7,f7⟩:∃ v,w0.cell? ⟨bH,7,none⟩ = some v∧w0.frozen? ⟨bH,7,none⟩ = false:=⟨_,I.fH.cell_ 7 rfl,I.fH.frozen 7⟩
 have l7:=I.fH.lt
 clear cT hL0
 go_upto_region 1 with fail
 replace I:=I.set 7 (.int .i64 m)
 clear c7 f7 l7
 generalize w0.setCell ⟨bH,7,none⟩ (.int .i64 m) = w1 at *
 replace I:=I.drew
 refine wp_region_held_drew (S:=(fun w'=>w'.cell? ⟨bN,0,none⟩ = some (.func (.func 35) #[.pointer (some ⟨g,0,none⟩)] #[]))) (by kernel_rfl) ?_ (fun hHeld=>?_)
 ·(try dsimp only);exact I.S
 refine zO 0 (.load 80 (.tmp 2)) 80 ?_
 refine zO 2 (.load 80 (.tmp 2)) 80 ?_
 refine zO 4 (.load 80 (.tmp 2)) 80 ?_
 refine zO 6 (.load 80 (.tmp 2)) 80 ?_
 refine zR 1 (fun K1 hK1=>?_)
 refine take_calli 1 35 #[.pointer (some ⟨g,0,none⟩)] (Op.call { callee:=Callee.value (Operand.tmp 7),args:=#[],argTypes:=#[] }) 3 rfl rfl rfl (by kernel_rfl) (by go_simp;try (first | with_reducible rfl | exact ⟨rfl,rfl⟩)) ?_
 refine (num_y g b 1 q1 v1 _ I.fG h1 hs).mono ?_
 rintro e w1 ⟨rfl,hL⟩
 replace I:=I.left hL
 refine ⟨_,rfl,?_⟩
 refine hK1.out _ _ ?su3x1 (fun hHeld=>?ru3x1)
 case su3x1=>((try dsimp only);exact I.S)
 try simp only [zSa,zSb,zSc]
 refine zO 8 (.fieldAddr 93 (.tmp 1) 0) 0 ?_
 refine zO 9 (.fieldAddr 33 (.tmp 15) 2) 0 ?_
 refine zR 3 (fun K3 hK3=>?_)
 refine take_calli 3 35 #[.pointer (some ⟨g,0,none⟩)] (Op.call { callee:=Callee.value (Operand.tmp 9),args:=#[],argTypes:=#[] }) 3 rfl rfl rfl (by kernel_rfl) (by go_simp;try (first | with_reducible rfl | exact ⟨rfl,rfl⟩)) ?_
 refine (num_y g b q1 q2 v2 _ I.fG h2 hs).mono ?_
 rintro e w3 ⟨rfl,hL⟩
 replace I:=I.left hL
 refine ⟨_,rfl,?_⟩
 refine hK3.out _ _ ?su3x3 (fun hHeld=>?ru3x3)
 case su3x3=>((try dsimp only);exact I.S)
 try simp only [zSa,zSb,zSc]
 refine zR 5 (fun K5 hK5=>?_)
 refine take_callip 5 35 #[.pointer (some ⟨g,0,none⟩)] (Op.call { callee:=Callee.value (Operand.tmp 11),args:=#[],argTypes:=#[] }) 3 rfl rfl rfl (by kernel_rfl) (by go_simp;try (first | with_reducible rfl | exact ⟨rfl,rfl⟩)) ?_
 refine (num_n g b q2 v q er _ I.fG hx her hs).mono ?_
 rintro e w5 ⟨rfl,hL⟩
 refine ⟨_,rfl,?_⟩
 replace I:=I.left hL
 try simp only [Exit.then,Exit.inBlock]
 exact ⟨rfl,Or.inr ⟨by rw [HT.out];exact her,_,by rw [HT.out],_,_,I⟩⟩
theorem peek_bad4 (b:List UInt8) (bT bH bN g:Nat) (w:World) (I:PkI w w bT bH bN g b 0 (hcs 0 0 0 0 0 0 0 0 [])) (hs:b.length≤1000000) (v1 v2 v3:Int) (q1 q2 q3:Nat) (hb:b ≠ []) (h1:getV b ((1:Nat):Int) = (v1,((q1:Nat):Int),0)) (h2:getV b (q1:Nat) = (v2,((q2:Nat):Int),0)) (h3:getV b (q2:Nat) = (v3,((q3:Nat):Int),0)) (v q er:Int) (hx:getV b (q3:Nat) = (v,q,er)) (her:er ≠ 0) :
 Calls Tryz.prog 104 #[.pointer (some ⟨bT,0,none⟩),.pointer (some ⟨bH,0,none⟩),.pointer (some ⟨bN,0,none⟩)] w fun e w'=>PkEnd b w bT bH bN g e w':=by
 have HT:Hid ((takeV b).2 = er):=Lib.hid (by
  have e:(numsV b 5 1).2.2 = er:=by show (numsV b 5 ((1:Nat):Int)).2.2 = er;rw [numsV_yes h1,numsV_yes h2,numsV_yes h3, numsV_no hx her]
  unfold takeV
  rw [if_neg hb,if_neg (by rw [e];exact her)]
  exact e)
 obtain ⟨cT,_,_⟩:=blk1 I.fT
 have hcn:∀ args w,(callFunc 35 args).run Tryz.prog w = .ok (.enter 35 args) w:=fun args w=>run_enter Tryz.func35 (by kernel_rfl) rfl args w
 have hb0:0 < b.length:=List.length_pos_iff.2 hb
 have hm0:b[0]?.getD 0 = b[0]:=by rw [List.getElem?_eq_getElem hb0];rfl
 have CB:=byte_yes g b 0 w I.fG hb0 (by omega)
 rw [← hm0] at CB
 obtain ⟨m,hm⟩:∃ m,(((b[0]?.getD 0).toNat:Nat):Int) = m:=⟨_,rfl⟩
 rw [hm] at CB
 have HM:=Lib.hid hm
 clear hm hm0
 go_enter Tryz.func104,Tryz.ntmps104
 go_wp2_with fail
 refine CB.mono ?_
 clear CB
 rintro e w0 ⟨rfl,hL0⟩
 replace I:=I.left (q1:=((1:Nat):Int)) hL0
 obtain ⟨v7,c7,f7⟩:∃ v,w0.cell? ⟨bH,7,none⟩ = some v∧w0.frozen? ⟨bH,7,none⟩ = false:=⟨_,I.fH.cell_ 7 rfl,I.fH.frozen 7⟩
 have l7:=I.fH.lt
 clear cT hL0
 go_upto_region 1 with fail
 replace I:=I.set 7 (.int .i64 m)
 clear c7 f7 l7
 generalize w0.setCell ⟨bH,7,none⟩ (.int .i64 m) = w1 at *
 replace I:=I.drew
 refine wp_region_held_drew (S:=(fun w'=>w'.cell? ⟨bN,0,none⟩ = some (.func (.func 35) #[.pointer (some ⟨g,0,none⟩)] #[]))) (by kernel_rfl) ?_ (fun hHeld=>?_)
 ·(try dsimp only);exact I.S
 refine zO 0 (.load 80 (.tmp 2)) 80 ?_
 refine zO 2 (.load 80 (.tmp 2)) 80 ?_
 refine zO 4 (.load 80 (.tmp 2)) 80 ?_
 refine zO 6 (.load 80 (.tmp 2)) 80 ?_
 refine zR 1 (fun K1 hK1=>?_)
 refine take_calli 1 35 #[.pointer (some ⟨g,0,none⟩)] (Op.call { callee:=Callee.value (Operand.tmp 7),args:=#[],argTypes:=#[] }) 3 rfl rfl rfl (by kernel_rfl) (by go_simp;try (first | with_reducible rfl | exact ⟨rfl,rfl⟩)) ?_
 refine (num_y g b 1 q1 v1 _ I.fG h1 hs).mono ?_
 rintro e w1 ⟨rfl,hL⟩
 replace I:=I.left hL
 refine ⟨_,rfl,?_⟩
 refine hK1.out _ _ ?su4x1 (fun hHeld=>?ru4x1)
 case su4x1=>((try dsimp only);exact I.S)
 try simp only [zSa,zSb,zSc]
 refine zO 8 (.fieldAddr 93 (.tmp 1) 0) 0 ?_
 refine zO 9 (.fieldAddr 33 (.tmp 15) 2) 0 ?_
 refine zR 3 (fun K3 hK3=>?_)
 refine take_calli 3 35 #[.pointer (some ⟨g,0,none⟩)] (Op.call { callee:=Callee.value (Operand.tmp 9),args:=#[],argTypes:=#[] }) 3 rfl rfl rfl (by kernel_rfl) (by go_simp;try (first | with_reducible rfl | exact ⟨rfl,rfl⟩)) ?_
 refine (num_y g b q1 q2 v2 _ I.fG h2 hs).mono ?_
 rintro e w3 ⟨rfl,hL⟩
 replace I:=I.left hL
 refine ⟨_,rfl,?_⟩
 refine hK3.out _ _ ?su4x3 (fun hHeld=>?ru4x3)
 case su4x3=>((try dsimp only);exact I.S)
 try simp only [zSa,zSb,zSc]
 refine zR 5 (fun K5 hK5=>?_)
 refine take_calli 5 35 #[.pointer (some ⟨g,0,none⟩)] (Op.call { callee:=Callee.value (Operand.tmp 11),args:=#[],argTypes:=#[] }) 3 rfl rfl rfl (by kernel_rfl) (by go_simp;try (first | with_reducible rfl | exact ⟨rfl,rfl⟩)) ?_
 refine (num_y g b q2 q3 v3 _ I.fG h3 hs).mono ?_
 rintro e w5 ⟨rfl,hL⟩
 replace I:=I.left hL
 refine ⟨_,rfl,?_⟩
 refine hK5.out _ _ ?su4x5 (fun hHeld=>?ru4x5)
 case su4x5=>((try dsimp only);exact I.S)
 try simp only [zSa,zSb,zSc]
 refine zR 7 (fun K7 hK7=>?_)
 refine take_callip 7 35 #[.pointer (some ⟨g,0,none⟩)] (Op.call { callee:=Callee.value (Operand.tmp 13),args:=#[],argTypes:=#[] }) 3 rfl rfl rfl (by kernel_rfl) (by go_simp;try (first | with_reducible rfl | exact ⟨rfl,rfl⟩)) ?_
 refine (num_n g b q3 v q er _ I.fG hx her hs).mono ?_
 rintro e w7 ⟨rfl,hL⟩
 refine ⟨_,rfl,?_⟩
 replace I:=I.left hL
 try simp only [Exit.then,Exit.inBlock]
 exact ⟨rfl,Or.inr ⟨by rw [HT.out];exact her,_,by rw [HT.out],_,_,I⟩⟩
theorem peek_bad5 (b:List UInt8) (bT bH bN g:Nat) (w:World) (I:PkI w w bT bH bN g b 0 (hcs 0 0 0 0 0 0 0 0 [])) (hs:b.length≤1000000) (v1 v2 v3 v4:Int) (q1 q2 q3 q4:Nat) (hb:b ≠ []) (h1:getV b ((1:Nat):Int) = (v1,((q1:Nat):Int),0)) (h2:getV b (q1:Nat) = (v2,((q2:Nat):Int),0)) (h3:getV b (q2:Nat) = (v3,((q3:Nat):Int),0)) (h4:getV b (q3:Nat) = (v4,((q4:Nat):Int),0)) (v q er:Int) (hx:getV b (q4:Nat) = (v,q,er)) (her:er ≠ 0) :
 Calls Tryz.prog 104 #[.pointer (some ⟨bT,0,none⟩),.pointer (some ⟨bH,0,none⟩),.pointer (some ⟨bN,0,none⟩)] w fun e w'=>PkEnd b w bT bH bN g e w':=by
 have HT:Hid ((takeV b).2 = er):=Lib.hid (by
  have e:(numsV b 5 1).2.2 = er:=by show (numsV b 5 ((1:Nat):Int)).2.2 = er;rw [numsV_yes h1,numsV_yes h2,numsV_yes h3,numsV_yes h4, numsV_no hx her]
  unfold takeV
  rw [if_neg hb,if_neg (by rw [e];exact her)]
  exact e)
 obtain ⟨cT,_,_⟩:=blk1 I.fT
 have hcn:∀ args w,(callFunc 35 args).run Tryz.prog w = .ok (.enter 35 args) w:=fun args w=>run_enter Tryz.func35 (by kernel_rfl) rfl args w
 have hb0:0 < b.length:=List.length_pos_iff.2 hb
 have hm0:b[0]?.getD 0 = b[0]:=by rw [List.getElem?_eq_getElem hb0];rfl
 have CB:=byte_yes g b 0 w I.fG hb0 (by omega)
 rw [← hm0] at CB
 obtain ⟨m,hm⟩:∃ m,(((b[0]?.getD 0).toNat:Nat):Int) = m:=⟨_,rfl⟩
 rw [hm] at CB
 have HM:=Lib.hid hm
 clear hm hm0
 go_enter Tryz.func104,Tryz.ntmps104
 go_wp2_with fail
 refine CB.mono ?_
 clear CB
 rintro e w0 ⟨rfl,hL0⟩
 replace I:=I.left (q1:=((1:Nat):Int)) hL0
 obtain ⟨v7,c7,f7⟩:∃ v,w0.cell? ⟨bH,7,none⟩ = some v∧w0.frozen? ⟨bH,7,none⟩ = false:=⟨_,I.fH.cell_ 7 rfl,I.fH.frozen 7⟩
 have l7:=I.fH.lt
 clear cT hL0
 go_upto_region 1 with fail
 replace I:=I.set 7 (.int .i64 m)
 clear c7 f7 l7
 generalize w0.setCell ⟨bH,7,none⟩ (.int .i64 m) = w1 at *
 replace I:=I.drew
 refine wp_region_held_drew (S:=(fun w'=>w'.cell? ⟨bN,0,none⟩ = some (.func (.func 35) #[.pointer (some ⟨g,0,none⟩)] #[]))) (by kernel_rfl) ?_ (fun hHeld=>?_)
 ·(try dsimp only);exact I.S
 refine zO 0 (.load 80 (.tmp 2)) 80 ?_
 refine zO 2 (.load 80 (.tmp 2)) 80 ?_
 refine zO 4 (.load 80 (.tmp 2)) 80 ?_
 refine zO 6 (.load 80 (.tmp 2)) 80 ?_
 refine zR 1 (fun K1 hK1=>?_)
 refine take_calli 1 35 #[.pointer (some ⟨g,0,none⟩)] (Op.call { callee:=Callee.value (Operand.tmp 7),args:=#[],argTypes:=#[] }) 3 rfl rfl rfl (by kernel_rfl) (by go_simp;try (first | with_reducible rfl | exact ⟨rfl,rfl⟩)) ?_
 refine (num_y g b 1 q1 v1 _ I.fG h1 hs).mono ?_
 rintro e w1 ⟨rfl,hL⟩
 replace I:=I.left hL
 refine ⟨_,rfl,?_⟩
 refine hK1.out _ _ ?su5x1 (fun hHeld=>?ru5x1)
 case su5x1=>((try dsimp only);exact I.S)
 try simp only [zSa,zSb,zSc]
 refine zO 8 (.fieldAddr 93 (.tmp 1) 0) 0 ?_
 refine zO 9 (.fieldAddr 33 (.tmp 15) 2) 0 ?_
 refine zR 3 (fun K3 hK3=>?_)
 refine take_calli 3 35 #[.pointer (some ⟨g,0,none⟩)] (Op.call { callee:=Callee.value (Operand.tmp 9),args:=#[],argTypes:=#[] }) 3 rfl rfl rfl (by kernel_rfl) (by go_simp;try (first | with_reducible rfl | exact ⟨rfl,rfl⟩)) ?_
 refine (num_y g b q1 q2 v2 _ I.fG h2 hs).mono ?_
 rintro e w3 ⟨rfl,hL⟩
 replace I:=I.left hL
 refine ⟨_,rfl,?_⟩
 refine hK3.out _ _ ?su5x3 (fun hHeld=>?ru5x3)
 case su5x3=>((try dsimp only);exact I.S)
 try simp only [zSa,zSb,zSc]
 refine zR 5 (fun K5 hK5=>?_)
 refine take_calli 5 35 #[.pointer (some ⟨g,0,none⟩)] (Op.call { callee:=Callee.value (Operand.tmp 11),args:=#[],argTypes:=#[] }) 3 rfl rfl rfl (by kernel_rfl) (by go_simp;try (first | with_reducible rfl | exact ⟨rfl,rfl⟩)) ?_
 refine (num_y g b q2 q3 v3 _ I.fG h3 hs).mono ?_
 rintro e w5 ⟨rfl,hL⟩
 replace I:=I.left hL
 refine ⟨_,rfl,?_⟩
 refine hK5.out _ _ ?su5x5 (fun hHeld=>?ru5x5)
 case su5x5=>((try dsimp only);exact I.S)
 try simp only [zSa,zSb,zSc]
 refine zR 7 (fun K7 hK7=>?_)
 refine take_calli 7 35 #[.pointer (some ⟨g,0,none⟩)] (Op.call { callee:=Callee.value (Operand.tmp 13),args:=#[],argTypes:=#[] }) 3 rfl rfl rfl (by kernel_rfl) (by go_simp;try (first | with_reducible rfl | exact ⟨rfl,rfl⟩)) ?_
 refine (num_y g b q3 q4 v4 _ I.fG h4 hs).mono ?_
 rintro e w7 ⟨rfl,hL⟩
 replace I:=I.left hL
 refine ⟨_,rfl,?_⟩
 refine hK7.out _ _ ?su5x7 (fun hHeld=>?ru5x7)
 case su5x7=>((try dsimp only);exact I.S)
 try simp only [zSa,zSb,zSc]
 refine zR 10 (fun K10 hK10=>?_)
 refine take_store 10 (Op.store 3 (Operand.tmp 16) (Operand.tmp 8)) 0 rfl rfl rfl (by kernel_rfl) (w':=w7.setCell ⟨bH,2,none⟩ (.int .i64 v1)) (by have f:=I.fH.frozen 2;have c:=I.fH.cell_ 2 rfl;have l:=I.fH.lt;go_simp;try (with_reducible rfl)) ?_
 refine hK10.out _ _ ((I.set 2 (.int .i64 v1)).S) (fun hHeld=>?_)
 replace I:=I.set 2 (.int .i64 v1)
 generalize (w7.setCell ⟨bH,2,none⟩ (.int .i64 v1)) = wq at *
 refine zO 11 (.fieldAddr 93 (.tmp 1) 0) 0 ?_
 refine zO 12 (.fieldAddr 33 (.tmp 17) 3) 0 ?_
 refine zR 13 (fun K13 hK13=>?_)
 refine take_store 13 (Op.store 3 (Operand.tmp 18) (Operand.tmp 10)) 0 rfl rfl rfl (by kernel_rfl) (w':=wq.setCell ⟨bH,3,none⟩ (.int .i64 v2)) (by have f:=I.fH.frozen 3;have c:=I.fH.cell_ 3 rfl;have l:=I.fH.lt;go_simp;try (with_reducible rfl)) ?_
 refine hK13.out _ _ ((I.set 3 (.int .i64 v2)).S) (fun hHeld=>?_)
 replace I:=I.set 3 (.int .i64 v2)
 generalize (wq.setCell ⟨bH,3,none⟩ (.int .i64 v2)) = wq at *
 refine zO 14 (.fieldAddr 93 (.tmp 1) 0) 0 ?_
 refine zO 15 (.fieldAddr 33 (.tmp 19) 4) 0 ?_
 refine zR 16 (fun K16 hK16=>?_)
 refine take_store 16 (Op.store 3 (Operand.tmp 20) (Operand.tmp 12)) 0 rfl rfl rfl (by kernel_rfl) (w':=wq.setCell ⟨bH,4,none⟩ (.int .i64 v3)) (by have f:=I.fH.frozen 4;have c:=I.fH.cell_ 4 rfl;have l:=I.fH.lt;go_simp;try (with_reducible rfl)) ?_
 refine hK16.out _ _ ((I.set 4 (.int .i64 v3)).S) (fun hHeld=>?_)
 replace I:=I.set 4 (.int .i64 v3)
 generalize (wq.setCell ⟨bH,4,none⟩ (.int .i64 v3)) = wq at *
 refine zO 17 (.fieldAddr 93 (.tmp 1) 0) 0 ?_
 refine zO 18 (.fieldAddr 33 (.tmp 21) 5) 0 ?_
 refine zR 19 (fun K19 hK19=>?_)
 refine take_store 19 (Op.store 3 (Operand.tmp 22) (Operand.tmp 14)) 0 rfl rfl rfl (by kernel_rfl) (w':=wq.setCell ⟨bH,5,none⟩ (.int .i64 v4)) (by have f:=I.fH.frozen 5;have c:=I.fH.cell_ 5 rfl;have l:=I.fH.lt;go_simp;try (with_reducible rfl)) ?_
 refine hK19.out _ _ ((I.set 5 (.int .i64 v4)).S) (fun hHeld=>?_)
 replace I:=I.set 5 (.int .i64 v4)
 generalize (wq.setCell ⟨bH,5,none⟩ (.int .i64 v4)) = wq at *
 refine wpAnyH_done (by kernel_rfl) ?_ _
 clear hHeld
 have cN:=I.S
 unfold numV at cN
 go_wp2_with fail
 refine (num_n g b q4 v q er _ I.fG hx her hs).mono ?_
 rintro e w9 ⟨rfl,hL⟩
 go_wp2_with fail
 simp [bodyPost]
 exact Or.inr ⟨by rw [HT.out];exact her,_,by rw [HT.out],_,_,I.left hL⟩
theorem peek_good (b:List UInt8) (bT bH bN g:Nat) (w:World) (I:PkI w w bT bH bN g b 0 (hcs 0 0 0 0 0 0 0 0 [])) (hs:b.length≤1000000) (v1 v2 v3 v4 v5:Int) (q1 q2 q3 q4 q5:Nat) (hb:b ≠ []) (h1:getV b ((1:Nat):Int) = (v1,((q1:Nat):Int),0)) (h2:getV b (q1:Nat) = (v2,((q2:Nat):Int),0)) (h3:getV b (q2:Nat) = (v3,((q3:Nat):Int),0)) (h4:getV b (q3:Nat) = (v4,((q4:Nat):Int),0)) (h5:getV b (q4:Nat) = (v5,((q5:Nat):Int),0)) :
 Calls Tryz.prog 104 #[.pointer (some ⟨bT,0,none⟩),.pointer (some ⟨bH,0,none⟩),.pointer (some ⟨bN,0,none⟩)] w fun e w'=>PkEnd b w bT bH bN g e w':=by
 have HT:=Lib.hid (take_ok hb h1 h2 h3 h4 h5)
 have HQ:Hid (q5≤b.length):=Lib.hid (by
  have:=(getV_ok (s:=b) (a:=(q4:Nat)) (by rw [h5])).2.2.1
  rw [h5] at this
  dsimp only at this
  omega)
 have hv4:0≤v4:=by
  have:=(getV_ok (s:=b) (a:=(q3:Nat)) (by rw [h4])).2.2.2.1
  rw [h4] at this
  exact this
 have hv5:0≤v5:=by
  have:=(getV_ok (s:=b) (a:=(q4:Nat)) (by rw [h5])).2.2.2.1
  rw [h5] at this
  exact this
 obtain ⟨cT,_,_⟩:=blk1 I.fT
 have hcn:∀ args w,(callFunc 35 args).run Tryz.prog w = .ok (.enter 35 args) w:=fun args w=>run_enter Tryz.func35 (by kernel_rfl) rfl args w
 have hb0:0 < b.length:=List.length_pos_iff.2 hb
 have hm0:b[0]?.getD 0 = b[0]:=by rw [List.getElem?_eq_getElem hb0];rfl
 have CB:=byte_yes g b 0 w I.fG hb0 (by omega)
 rw [← hm0] at CB
 obtain ⟨m,hm⟩:∃ m,(((b[0]?.getD 0).toNat:Nat):Int) = m:=⟨_,rfl⟩
 rw [hm] at CB
 have HM:=Lib.hid hm
 clear hm hm0
 go_enter Tryz.func104,Tryz.ntmps104
 go_wp2_with fail
 refine CB.mono ?_
 clear CB
 rintro e w0 ⟨rfl,hL0⟩
 replace I:=I.left (q1:=((1:Nat):Int)) hL0
 obtain ⟨v7,c7,f7⟩:∃ v,w0.cell? ⟨bH,7,none⟩ = some v∧w0.frozen? ⟨bH,7,none⟩ = false:=⟨_,I.fH.cell_ 7 rfl,I.fH.frozen 7⟩
 have l7:=I.fH.lt
 clear cT hL0
 go_upto_region 1 with fail
 replace I:=I.set 7 (.int .i64 m)
 clear c7 f7 l7
 generalize w0.setCell ⟨bH,7,none⟩ (.int .i64 m) = w1 at *
 replace I:=I.drew
 refine wp_region_held_drew (S:=(fun w'=>w'.cell? ⟨bN,0,none⟩ = some (.func (.func 35) #[.pointer (some ⟨g,0,none⟩)] #[]))) (by kernel_rfl) ?_ (fun hHeld=>?_)
 ·(try dsimp only);exact I.S
 refine zO 0 (.load 80 (.tmp 2)) 80 ?_
 refine zO 2 (.load 80 (.tmp 2)) 80 ?_
 refine zO 4 (.load 80 (.tmp 2)) 80 ?_
 refine zO 6 (.load 80 (.tmp 2)) 80 ?_
 refine zR 1 (fun K1 hK1=>?_)
 refine take_calli 1 35 #[.pointer (some ⟨g,0,none⟩)] (Op.call { callee:=Callee.value (Operand.tmp 7),args:=#[],argTypes:=#[] }) 3 rfl rfl rfl (by kernel_rfl) (by go_simp;try (first | with_reducible rfl | exact ⟨rfl,rfl⟩)) ?_
 refine (num_y g b 1 q1 v1 _ I.fG h1 hs).mono ?_
 rintro e w1 ⟨rfl,hL⟩
 replace I:=I.left hL
 refine ⟨_,rfl,?_⟩
 refine hK1.out _ _ ?su6x1 (fun hHeld=>?ru6x1)
 case su6x1=>((try dsimp only);exact I.S)
 try simp only [zSa,zSb,zSc]
 refine zO 8 (.fieldAddr 93 (.tmp 1) 0) 0 ?_
 refine zO 9 (.fieldAddr 33 (.tmp 15) 2) 0 ?_
 refine zR 3 (fun K3 hK3=>?_)
 refine take_calli 3 35 #[.pointer (some ⟨g,0,none⟩)] (Op.call { callee:=Callee.value (Operand.tmp 9),args:=#[],argTypes:=#[] }) 3 rfl rfl rfl (by kernel_rfl) (by go_simp;try (first | with_reducible rfl | exact ⟨rfl,rfl⟩)) ?_
 refine (num_y g b q1 q2 v2 _ I.fG h2 hs).mono ?_
 rintro e w3 ⟨rfl,hL⟩
 replace I:=I.left hL
 refine ⟨_,rfl,?_⟩
 refine hK3.out _ _ ?su6x3 (fun hHeld=>?ru6x3)
 case su6x3=>((try dsimp only);exact I.S)
 try simp only [zSa,zSb,zSc]
 refine zR 5 (fun K5 hK5=>?_)
 refine take_calli 5 35 #[.pointer (some ⟨g,0,none⟩)] (Op.call { callee:=Callee.value (Operand.tmp 11),args:=#[],argTypes:=#[] }) 3 rfl rfl rfl (by kernel_rfl) (by go_simp;try (first | with_reducible rfl | exact ⟨rfl,rfl⟩)) ?_
 refine (num_y g b q2 q3 v3 _ I.fG h3 hs).mono ?_
 rintro e w5 ⟨rfl,hL⟩
 replace I:=I.left hL
 refine ⟨_,rfl,?_⟩
 refine hK5.out _ _ ?su6x5 (fun hHeld=>?ru6x5)
 case su6x5=>((try dsimp only);exact I.S)
 try simp only [zSa,zSb,zSc]
 refine zR 7 (fun K7 hK7=>?_)
 refine take_calli 7 35 #[.pointer (some ⟨g,0,none⟩)] (Op.call { callee:=Callee.value (Operand.tmp 13),args:=#[],argTypes:=#[] }) 3 rfl rfl rfl (by kernel_rfl) (by go_simp;try (first | with_reducible rfl | exact ⟨rfl,rfl⟩)) ?_
 refine (num_y g b q3 q4 v4 _ I.fG h4 hs).mono ?_
 rintro e w7 ⟨rfl,hL⟩
 replace I:=I.left hL
 refine ⟨_,rfl,?_⟩
 refine hK7.out _ _ ?su6x7 (fun hHeld=>?ru6x7)
 case su6x7=>((try dsimp only);exact I.S)
 try simp only [zSa,zSb,zSc]
 refine zR 10 (fun K10 hK10=>?_)
 refine take_store 10 (Op.store 3 (Operand.tmp 16) (Operand.tmp 8)) 0 rfl rfl rfl (by kernel_rfl) (w':=w7.setCell ⟨bH,2,none⟩ (.int .i64 v1)) (by have f:=I.fH.frozen 2;have c:=I.fH.cell_ 2 rfl;have l:=I.fH.lt;go_simp;try (with_reducible rfl)) ?_
 refine hK10.out _ _ ((I.set 2 (.int .i64 v1)).S) (fun hHeld=>?_)
 replace I:=I.set 2 (.int .i64 v1)
 generalize (w7.setCell ⟨bH,2,none⟩ (.int .i64 v1)) = wq at *
 refine zO 11 (.fieldAddr 93 (.tmp 1) 0) 0 ?_
 refine zO 12 (.fieldAddr 33 (.tmp 17) 3) 0 ?_
 refine zR 13 (fun K13 hK13=>?_)
 refine take_store 13 (Op.store 3 (Operand.tmp 18) (Operand.tmp 10)) 0 rfl rfl rfl (by kernel_rfl) (w':=wq.setCell ⟨bH,3,none⟩ (.int .i64 v2)) (by have f:=I.fH.frozen 3;have c:=I.fH.cell_ 3 rfl;have l:=I.fH.lt;go_simp;try (with_reducible rfl)) ?_
 refine hK13.out _ _ ((I.set 3 (.int .i64 v2)).S) (fun hHeld=>?_)
 replace I:=I.set 3 (.int .i64 v2)
 generalize (wq.setCell ⟨bH,3,none⟩ (.int .i64 v2)) = wq at *
 refine zO 14 (.fieldAddr 93 (.tmp 1) 0) 0 ?_
 refine zO 15 (.fieldAddr 33 (.tmp 19) 4) 0 ?_
 refine zR 16 (fun K16 hK16=>?_)
 refine take_store 16 (Op.store 3 (Operand.tmp 20) (Operand.tmp 12)) 0 rfl rfl rfl (by kernel_rfl) (w':=wq.setCell ⟨bH,4,none⟩ (.int .i64 v3)) (by have f:=I.fH.frozen 4;have c:=I.fH.cell_ 4 rfl;have l:=I.fH.lt;go_simp;try (with_reducible rfl)) ?_
 refine hK16.out _ _ ((I.set 4 (.int .i64 v3)).S) (fun hHeld=>?_)
 replace I:=I.set 4 (.int .i64 v3)
 generalize (wq.setCell ⟨bH,4,none⟩ (.int .i64 v3)) = wq at *
 refine zO 17 (.fieldAddr 93 (.tmp 1) 0) 0 ?_
 refine zO 18 (.fieldAddr 33 (.tmp 21) 5) 0 ?_
 refine zR 19 (fun K19 hK19=>?_)
 refine take_store 19 (Op.store 3 (Operand.tmp 22) (Operand.tmp 14)) 0 rfl rfl rfl (by kernel_rfl) (w':=wq.setCell ⟨bH,5,none⟩ (.int .i64 v4)) (by have f:=I.fH.frozen 5;have c:=I.fH.cell_ 5 rfl;have l:=I.fH.lt;go_simp;try (with_reducible rfl)) ?_
 refine hK19.out _ _ ((I.set 5 (.int .i64 v4)).S) (fun hHeld=>?_)
 replace I:=I.set 5 (.int .i64 v4)
 generalize (wq.setCell ⟨bH,5,none⟩ (.int .i64 v4)) = wq at *
 refine wpAnyH_done (by kernel_rfl) ?_ _
 clear hHeld
 have cN:=I.S
 unfold numV at cN
 go_wp2_with fail
 refine (num_y g b q4 q5 v5 _ I.fG h5 hs).mono ?_
 rintro e w9 ⟨rfl,hL⟩
 replace I:=I.left hL
 obtain ⟨y6,c6,f6⟩:∃ v,w9.cell? ⟨bH,6,none⟩ = some v∧w9.frozen? ⟨bH,6,none⟩ = false:=⟨_,I.fH.cell_ 6 rfl,I.fH.frozen 6⟩
 have l6:=I.fH.lt
 clear hL cN
 go_upto_region 4 with fail
 replace I:=I.set 6 (.int .i64 9223372036854775807)
 clear c6 f6 l6
 generalize w9.setCell ⟨bH,6,none⟩ (.int .i64 9223372036854775807) = w10 at *
 have c5:w10.cell? ⟨bH,5,none⟩ = some (.int .i64 v4):=I.fH.cell_ 5 rfl
 have c6:w10.cell? ⟨bH,6,none⟩ = some (.int .i64 9223372036854775807):=I.fH.cell_ 6 rfl
 have f6:=I.fH.frozen 6
 have l6:=I.fH.lt
 by_cases hc:v5≤1000000000∧v4≤1000000000
 ·obtain ⟨k5,k4⟩:=hc
  have hmv:=Lib.hid (show moreV v4 v5 = v4 + v5 from if_pos ⟨k5,k4⟩)
  have hw:IntKind.i64.wrap (v4 + v5) = v4 + v5:=by rw [IntKind.wrap_i64];omega
  go_upto_region 6 with fail
  replace I:=I.set 6 (.int .i64 (v4 + v5))
  clear c5 c6 f6 l6
  generalize w10.setCell ⟨bH,6,none⟩ (.int .i64 (v4 + v5)) = w11 at *
  obtain ⟨cT,_,_⟩:=blk1 I.fT
  have C:=rest_any g b q5 w11 I.fG HQ.out (by omega)
  go_wp2_with fail
  refine C.mono ?_
  clear C
  rintro e w12 ⟨rfl,hL⟩
  replace I:=I.left hL
  obtain ⟨y8,c8,f8⟩:∃ v,w12.cell? ⟨bH,8,none⟩ = some v∧w12.frozen? ⟨bH,8,none⟩ = false:=⟨_,I.fH.cell_ 8 rfl,I.fH.frozen 8⟩
  have l8:=I.fH.lt
  go_wp2_with fail
  go_end0
  replace I:=I.set 8 (str (b.drop q5))
  refine Or.inl ⟨by rw [HT.out],rfl,((b.length:Nat):Int),?_⟩
  rw [HT.out]
  dsimp only
  rw [hmv.out,HM.out]
  exact I
 ·have hmv:=Lib.hid (show moreV v4 v5 = 9223372036854775807 from if_neg hc)
  by_cases k5:v5≤1000000000
  ·have k4:¬ v4≤1000000000:=fun h=>hc ⟨k5,h⟩
   clear hc
   go_upto_region 6 with fail
   generalize w10 = w11 at *
   obtain ⟨cT,_,_⟩:=blk1 I.fT
   have C:=rest_any g b q5 w11 I.fG HQ.out (by omega)
   go_wp2_with fail
   refine C.mono ?_
   clear C
   rintro e w12 ⟨rfl,hL⟩
   replace I:=I.left hL
   obtain ⟨y8,c8,f8⟩:∃ v,w12.cell? ⟨bH,8,none⟩ = some v∧w12.frozen? ⟨bH,8,none⟩ = false:=⟨_,I.fH.cell_ 8 rfl,I.fH.frozen 8⟩
   have l8:=I.fH.lt
   go_wp2_with fail
   go_end0
   replace I:=I.set 8 (str (b.drop q5))
   refine Or.inl ⟨by rw [HT.out],rfl,((b.length:Nat):Int),?_⟩
   rw [HT.out]
   dsimp only
   rw [hmv.out,HM.out]
   exact I
  ·clear hc
   go_upto_region 6 with fail
   generalize w10 = w11 at *
   obtain ⟨cT,_,_⟩:=blk1 I.fT
   have C:=rest_any g b q5 w11 I.fG HQ.out (by omega)
   go_wp2_with fail
   refine C.mono ?_
   clear C
   rintro e w12 ⟨rfl,hL⟩
   replace I:=I.left hL
   obtain ⟨y8,c8,f8⟩:∃ v,w12.cell? ⟨bH,8,none⟩ = some v∧w12.frozen? ⟨bH,8,none⟩ = false:=⟨_,I.fH.cell_ 8 rfl,I.fH.frozen 8⟩
   have l8:=I.fH.lt
   go_wp2_with fail
   go_end0
   replace I:=I.set 8 (str (b.drop q5))
   refine Or.inl ⟨by rw [HT.out],rfl,((b.length:Nat):Int),?_⟩
   rw [HT.out]
   dsimp only
   rw [hmv.out,HM.out]
   exact I
end BloW
end Go.Proofs.YtnpncpoiiikafaaGreat
