/- BloK -/
import Derived.Test.YtnpncpoiiikafaaGreatDoorTakWQs
import Derived.Test.YtnpncpoiiikafaaGreatDoorRecSQs
import Derived.Deep.DeepCutAuto
import Derived.Test.YtnpncpoiiikafaaGreatDoorMemQs
set_option linter.unusedVariables false
set_option linter.unusedSimpArgs false
set_option linter.unnecessarySimpa false
namespace Go.Proofs.YtnpncpoiiikafaaGreatDoor
open Go.RowKit
namespace BloW
open TakW (take_callip tk flt Kept byte_yes byte_short num_yes num_bad rest_any grown_set grown_drew)
open VarW
def hcs (a0 a1 m r c f e l:Int) (b:List UInt8):Array Value:=#[.int .i64 a0,.int .i64 a1,.int .i64 r,.int .i64 c,.int .i64 f,.int .i64 e,.int .i64 l,.int .i64 m,str b]
def numV (g:Nat):Value:=.func (.func 38) #[.pointer (some ⟨g,0,none⟩)] #[]
structure PkI (w wr:World) (bT bH bN g:Nat) (s:List UInt8) (q:Int) (hv:Array Value):Prop where
  fT:Blk wr bT 88 #[.pointer (some ⟨g,0,none⟩)]
  fH:Blk wr bH 66 hv
  fN:Blk wr bN 43 #[numV g]
  fG:Blk wr g 131 (tk s q)
  kept:Kept w wr bH g
  hH:bH < w.heap.size
  hG:g < w.heap.size
  h1:bT ≠ bH
  h2:bT ≠ g
  h3:bN ≠ bH
  h4:bN ≠ g
  h5:bH ≠ g
section
variable {w wr w1:World} {bT bH bN g:Nat} {s:List UInt8} {q q1:Int} {hv:Array Value}
theorem PkI.drew (h:PkI w wr bT bH bN g s q hv):PkI w wr.drew bT bH bN g s q hv :=
  ⟨h.fT.drew,h.fH.drew,h.fN.drew,h.fG.drew,h.kept.grown (TakW.grown_drew _) (by simp),h.hH,h.hG,h.h1,h.h2,h.h3,h.h4,h.h5⟩
theorem PkI.drewN (h:PkI w wr bT bH bN g s q hv) (n:Nat):PkI w (wr.drewN n) bT bH bN g s q hv :=
  ⟨h.fT.drewN n,h.fH.drewN n,h.fN.drewN n,h.fG.drewN n,h.kept.grown (row:=none) ⟨rfl,rfl,rfl,Nat.le_refl _,fun _ _ _=>rfl⟩ (by simp),h.hH,h.hG,h.h1,h.h2,h.h3,h.h4,h.h5⟩
theorem PkI.left (h:PkI w wr bT bH bN g s q hv) (hL:TakW.Left wr w1 g s q1):PkI w w1 bT bH bN g s q1 hv :=
  ⟨h.fT.grown hL.2 (by simpa using h.h2),h.fH.grown hL.2 (by simpa using h.h5),h.fN.grown hL.2 (by simpa using h.h4),hL.1,h.kept.grown hL.2 (by simp),h.hH,h.hG,h.h1,h.h2,h.h3,h.h4,h.h5⟩
theorem PkI.set (h:PkI w wr bT bH bN g s q hv) (i:Nat) (v:Value):PkI w (wr.setCell ⟨bH,i,none⟩ v) bT bH bN g s q (hv.setIfInBounds i v) :=
  ⟨h.fT.far (p:=⟨bH,i,none⟩) h.h1 v,h.fH.set i v,h.fN.far (p:=⟨bH,i,none⟩) h.h3 v,h.fG.far (p:=⟨bH,i,none⟩) (fun e=>h.h5 e.symm) v,h.kept.grown (TakW.grown_set _ bH i v) (by simp),h.hH,h.hG,h.h1,h.h2,h.h3,h.h4,h.h5⟩
theorem PkI.S (h:PkI w wr bT bH bN g s q hv):wr.cell? ⟨bN,0,none⟩ = some (numV g):=h.fN.cell_ 0 rfl
end
def takeV (b:List UInt8):Hd × Int :=
  if b = [] then (hdZ,4) else
  if (numsV b 5 1).2.2 = 0 then (hdOf b (numsV b 5 1),0) else (hdZ,(numsV b 5 1).2.2)
theorem peek_take (b:List UInt8):peekV b = if (takeV b).2 = 0 then (if mayB (takeV b).1 = true then ((takeV b).1,0) else (hdZ,170)) else (hdZ,(takeV b).2):=by
  unfold peekV takeV
  by_cases h:b = []
  · rw [if_pos h,if_pos h,if_neg (by decide)]
  · rw [if_neg h,if_neg h]
    by_cases h2:(numsV b 5 1).2.2 = 0
    · rw [if_pos h2,if_pos h2,if_pos rfl]
    · rw [if_neg h2,if_neg h2,if_neg h2]
def PkEnd (b:List UInt8) (w:World) (bT bH bN g:Nat) (e:Ending) (w':World):Prop :=
  ((takeV b).2 = 0∧e = .returned (.tuple #[])∧∃ q,PkI w w' bT bH bN g b q (hcs 0 0 (takeV b).1.mode (takeV b).1.raw (takeV b).1.cnt (takeV b).1.frst (takeV b).1.early (takeV b).1.late (takeV b).1.body)) ∨
  ((takeV b).2 ≠ 0∧∃ at_,e = .panicked (flt (takeV b).2 at_)∧∃ q hv,PkI w w' bT bH bN g b q hv)
set_option maxRecDepth 100000 in
set_option maxHeartbeats 8000000 in
theorem peek_none (b:List UInt8) (bT bH bN g:Nat) (w:World) (I:PkI w w bT bH bN g b 0 (hcs 0 0 0 0 0 0 0 0 [])) (hs:b.length≤1000000) (hb:b = []) :
    Calls Tryz.prog 39 #[.pointer (some ⟨bT,0,none⟩),.pointer (some ⟨bH,0,none⟩),.pointer (some ⟨bN,0,none⟩)] w fun e w'=>PkEnd b w bT bH bN g e w':=by
  obtain ⟨cT,_,_⟩:=blk1 I.fT
  go_enter Tryz.func39,Tryz.ntmps39
  go_wp2_with fail
  refine (byte_short g b 0 w I.fG (by omega) (by rw [hb];simp) (by omega)).mono ?_
  rintro e w1 ⟨rfl,hL⟩
  go_wp2_with fail
  simp [bodyPost]
  exact Or.inr ⟨by simp [takeV,hb],0,by simp [takeV,hb],0,_,I.left hL⟩
theorem num_y (g:Nat) (s:List UInt8) (p q:Nat) (v:Int) (w:World) (h:Blk w g 131 (tk s (p:Nat))) (hx:getV s (p:Nat) = (v,((q:Nat):Int),0)) (hs:s.length≤1000000) :
    Calls Tryz.prog 38 #[.pointer (some ⟨g,0,none⟩)] w fun e w'=>e = .returned (.int .i64 v)∧TakW.Left w w' g s (q:Nat):=num_yes g s p _ w h hx rfl (by omega)
theorem num_n (g:Nat) (s:List UInt8) (p:Nat) (v q er:Int) (w:World) (h:Blk w g 131 (tk s (p:Nat))) (hx:getV s (p:Nat) = (v,q,er)) (h0:er ≠ 0) (hs:s.length≤1000000) :
    Calls Tryz.prog 38 #[.pointer (some ⟨g,0,none⟩)] w fun e w'=>e = .panicked (flt er p)∧TakW.Left w w' g s (p:Nat):=num_bad g s p _ w h hx h0 (by omega)
theorem take_ok {b:List UInt8} {v1 v2 v3 v4 v5:Int} {q1 q2 q3 q4 q5:Nat} (hb:b ≠ []) (h1:getV b ((1:Nat):Int) = (v1,((q1:Nat):Int),0)) (h2:getV b (q1:Nat) = (v2,((q2:Nat):Int),0)) (h3:getV b (q2:Nat) = (v3,((q3:Nat):Int),0)) (h4:getV b (q3:Nat) = (v4,((q4:Nat):Int),0)) (h5:getV b (q4:Nat) = (v5,((q5:Nat):Int),0)) :
    takeV b = (⟨((b[0]?.getD 0).toNat:Int),v1,v2,v3,v4,moreV v4 v5,b.drop q5⟩,0):=by
  have e:numsV b 5 1 = ([v1,v2,v3,v4,v5],((q5:Nat):Int),0):=by
    show numsV b 5 ((1:Nat):Int) = _
    rw [numsV_yes h1,numsV_yes h2,numsV_yes h3,numsV_yes h4,numsV_yes h5];rfl
  unfold takeV
  rw [if_neg hb,e,if_pos rfl]
  simp [hdOf,atI]
set_option maxRecDepth 100000 in
set_option maxHeartbeats 8000000 in
theorem peek_bad1 (b:List UInt8) (bT bH bN g:Nat) (w:World) (I:PkI w w bT bH bN g b 0 (hcs 0 0 0 0 0 0 0 0 [])) (hs:b.length≤1000000) (hb:b ≠ [])  (v q er:Int) (hx:getV b ((1:Nat):Int) = (v,q,er)) (her:er ≠ 0) :
    Calls Tryz.prog 39 #[.pointer (some ⟨bT,0,none⟩),.pointer (some ⟨bH,0,none⟩),.pointer (some ⟨bN,0,none⟩)] w fun e w'=>PkEnd b w bT bH bN g e w':=by
  have HT:Hid ((takeV b).2 = er):=Lib.hid (by
    have e:(numsV b 5 1).2.2 = er:=by show (numsV b 5 ((1:Nat):Int)).2.2 = er;rw [ numsV_no hx her]
    unfold takeV
    rw [if_neg hb,if_neg (by rw [e];exact her)]
    exact e)
  obtain ⟨cT,_,_⟩:=blk1 I.fT
  have hcn:∀ args w,(callFunc 38 args).run Tryz.prog w = .ok (.enter 38 args) w:=fun args w=>run_enter Tryz.func38 (by kernel_rfl) rfl args w
  have hb0:0 < b.length:=List.length_pos_iff.2 hb
  have hm0:b[0]?.getD 0 = b[0]:=by rw [List.getElem?_eq_getElem hb0];rfl
  have CB:=byte_yes g b 0 w I.fG hb0 (by omega)
  rw [← hm0] at CB
  obtain ⟨m,hm⟩:∃ m,(((b[0]?.getD 0).toNat:Nat):Int) = m:=⟨_,rfl⟩
  rw [hm] at CB
  have HM:=Lib.hid hm
  clear hm hm0
  go_enter Tryz.func39,Tryz.ntmps39
  go_wp2_with fail
  refine CB.mono ?_
  clear CB
  rintro e w0 ⟨rfl,hL0⟩
  replace I:=I.left (q1:=((1:Nat):Int)) hL0
  obtain ⟨v7,c7,f7⟩:∃ v,w0.cell? ⟨bH,7,none⟩ = some v∧w0.frozen? ⟨bH,7,none⟩ = false:=⟨_,I.fH.cell_ 7 rfl,I.fH.frozen 7⟩
  have l7:=I.fH.lt
  clear cT hL0
  go_upto_region 1 with fail
  replace I:=I.set 7 (.int .i64 m)
  clear c7 f7 l7
  generalize w0.setCell ⟨bH,7,none⟩ (.int .i64 m) = w1 at *
  replace I:=I.drew
  refine wp_region_held_drew (S:=(fun w'=>w'.cell? ⟨bN,0,none⟩ = some (.func (.func 38) #[.pointer (some ⟨g,0,none⟩)] #[]))) (by kernel_rfl) ?_ (fun hHeld=>?_)
  · (try dsimp only);exact I.S
  refine take_op (v:=?vu1x0) 0 (Op.load 43 (Operand.tmp 2)) 43 rfl rfl rfl rfl rfl (by kernel_rfl) (by kernel_rfl) (by kernel_rfl) (fun _ _ _ h=>h) ?yu1x0 (by assumption) ?ru1x0
  case yu1x0=>(intro w' hSw;(try dsimp only at hSw);go_simp;try (with_reducible rfl))
  simp only [zSa,zSb,zSc]
  refine take_op (v:=?vu1x2) 2 (Op.load 43 (Operand.tmp 2)) 43 rfl rfl rfl rfl rfl (by kernel_rfl) (by kernel_rfl) (by kernel_rfl) (fun _ _ _ h=>h) ?yu1x2 (by assumption) ?ru1x2
  case yu1x2=>(intro w' hSw;(try dsimp only at hSw);go_simp;try (with_reducible rfl))
  simp only [zSa,zSb,zSc]
  refine take_op (v:=?vu1x4) 4 (Op.load 43 (Operand.tmp 2)) 43 rfl rfl rfl rfl rfl (by kernel_rfl) (by kernel_rfl) (by kernel_rfl) (fun _ _ _ h=>h) ?yu1x4 (by assumption) ?ru1x4
  case yu1x4=>(intro w' hSw;(try dsimp only at hSw);go_simp;try (with_reducible rfl))
  simp only [zSa,zSb,zSc]
  refine take_op (v:=?vu1x6) 6 (Op.load 43 (Operand.tmp 2)) 43 rfl rfl rfl rfl rfl (by kernel_rfl) (by kernel_rfl) (by kernel_rfl) (fun _ _ _ h=>h) ?yu1x6 (by assumption) ?ru1x6
  case yu1x6=>(intro w' hSw;(try dsimp only at hSw);go_simp;try (with_reducible rfl))
  simp only [zSa,zSb,zSc]
  refine wpAnyH_ready (rs:=[1]) (by kernel_rfl) (by simp) (AllReadyH.cons rfl (fun K1 hK1=>?ku1x1) AllReadyH.nil)
  refine take_callip 1 38 #[.pointer (some ⟨g,0,none⟩)] (Op.call { callee:=Callee.value (Operand.tmp 7),args:=#[],argTypes:=#[] }) 3 rfl rfl rfl (by kernel_rfl) (by go_simp;try (first | with_reducible rfl | exact ⟨rfl,rfl⟩)) ?_
  refine (num_n g b 1 v q er _ I.fG hx her hs).mono ?_
  rintro e w1 ⟨rfl,hL⟩
  refine ⟨_,rfl,?_⟩
  replace I:=I.left hL
  try simp only [Exit.then,Exit.inBlock]
  exact ⟨rfl,Or.inr ⟨by rw [HT.out];exact her,_,by rw [HT.out],_,_,I⟩⟩
set_option maxRecDepth 100000 in
set_option maxHeartbeats 8000000 in
theorem peek_bad2 (b:List UInt8) (bT bH bN g:Nat) (w:World) (I:PkI w w bT bH bN g b 0 (hcs 0 0 0 0 0 0 0 0 [])) (hs:b.length≤1000000) (v1:Int) (q1:Nat) (hb:b ≠ []) (h1:getV b ((1:Nat):Int) = (v1,((q1:Nat):Int),0)) (v q er:Int) (hx:getV b (q1:Nat) = (v,q,er)) (her:er ≠ 0) :
    Calls Tryz.prog 39 #[.pointer (some ⟨bT,0,none⟩),.pointer (some ⟨bH,0,none⟩),.pointer (some ⟨bN,0,none⟩)] w fun e w'=>PkEnd b w bT bH bN g e w':=by
  have HT:Hid ((takeV b).2 = er):=Lib.hid (by
    have e:(numsV b 5 1).2.2 = er:=by show (numsV b 5 ((1:Nat):Int)).2.2 = er;rw [numsV_yes h1, numsV_no hx her]
    unfold takeV
    rw [if_neg hb,if_neg (by rw [e];exact her)]
    exact e)
  obtain ⟨cT,_,_⟩:=blk1 I.fT
  have hcn:∀ args w,(callFunc 38 args).run Tryz.prog w = .ok (.enter 38 args) w:=fun args w=>run_enter Tryz.func38 (by kernel_rfl) rfl args w
  have hb0:0 < b.length:=List.length_pos_iff.2 hb
  have hm0:b[0]?.getD 0 = b[0]:=by rw [List.getElem?_eq_getElem hb0];rfl
  have CB:=byte_yes g b 0 w I.fG hb0 (by omega)
  rw [← hm0] at CB
  obtain ⟨m,hm⟩:∃ m,(((b[0]?.getD 0).toNat:Nat):Int) = m:=⟨_,rfl⟩
  rw [hm] at CB
  have HM:=Lib.hid hm
  clear hm hm0
  go_enter Tryz.func39,Tryz.ntmps39
  go_wp2_with fail
  refine CB.mono ?_
  clear CB
  rintro e w0 ⟨rfl,hL0⟩
  replace I:=I.left (q1:=((1:Nat):Int)) hL0
  obtain ⟨v7,c7,f7⟩:∃ v,w0.cell? ⟨bH,7,none⟩ = some v∧w0.frozen? ⟨bH,7,none⟩ = false:=⟨_,I.fH.cell_ 7 rfl,I.fH.frozen 7⟩
  have l7:=I.fH.lt
  clear cT hL0
  go_upto_region 1 with fail
  replace I:=I.set 7 (.int .i64 m)
  clear c7 f7 l7
  generalize w0.setCell ⟨bH,7,none⟩ (.int .i64 m) = w1 at *
  replace I:=I.drew
  refine wp_region_held_drew (S:=(fun w'=>w'.cell? ⟨bN,0,none⟩ = some (.func (.func 38) #[.pointer (some ⟨g,0,none⟩)] #[]))) (by kernel_rfl) ?_ (fun hHeld=>?_)
  · (try dsimp only);exact I.S
  refine take_op (v:=?vu2x0) 0 (Op.load 43 (Operand.tmp 2)) 43 rfl rfl rfl rfl rfl (by kernel_rfl) (by kernel_rfl) (by kernel_rfl) (fun _ _ _ h=>h) ?yu2x0 (by assumption) ?ru2x0
  case yu2x0=>(intro w' hSw;(try dsimp only at hSw);go_simp;try (with_reducible rfl))
  simp only [zSa,zSb,zSc]
  refine take_op (v:=?vu2x2) 2 (Op.load 43 (Operand.tmp 2)) 43 rfl rfl rfl rfl rfl (by kernel_rfl) (by kernel_rfl) (by kernel_rfl) (fun _ _ _ h=>h) ?yu2x2 (by assumption) ?ru2x2
  case yu2x2=>(intro w' hSw;(try dsimp only at hSw);go_simp;try (with_reducible rfl))
  simp only [zSa,zSb,zSc]
  refine take_op (v:=?vu2x4) 4 (Op.load 43 (Operand.tmp 2)) 43 rfl rfl rfl rfl rfl (by kernel_rfl) (by kernel_rfl) (by kernel_rfl) (fun _ _ _ h=>h) ?yu2x4 (by assumption) ?ru2x4
  case yu2x4=>(intro w' hSw;(try dsimp only at hSw);go_simp;try (with_reducible rfl))
  simp only [zSa,zSb,zSc]
  refine take_op (v:=?vu2x6) 6 (Op.load 43 (Operand.tmp 2)) 43 rfl rfl rfl rfl rfl (by kernel_rfl) (by kernel_rfl) (by kernel_rfl) (fun _ _ _ h=>h) ?yu2x6 (by assumption) ?ru2x6
  case yu2x6=>(intro w' hSw;(try dsimp only at hSw);go_simp;try (with_reducible rfl))
  simp only [zSa,zSb,zSc]
  refine wpAnyH_ready (rs:=[1]) (by kernel_rfl) (by simp) (AllReadyH.cons rfl (fun K1 hK1=>?ku2x1) AllReadyH.nil)
  refine take_calli 1 38 #[.pointer (some ⟨g,0,none⟩)] (Op.call { callee:=Callee.value (Operand.tmp 7),args:=#[],argTypes:=#[] }) 3 rfl rfl rfl (by kernel_rfl) (by go_simp;try (first | with_reducible rfl | exact ⟨rfl,rfl⟩)) ?_
  refine (num_y g b 1 q1 v1 _ I.fG h1 hs).mono ?_
  rintro e w1 ⟨rfl,hL⟩
  replace I:=I.left hL
  refine ⟨_,rfl,?_⟩
  refine hK1.out _ _ ?su2x1 (fun hHeld=>?ru2x1)
  case su2x1=>((try dsimp only);exact I.S)
  try simp only [zSa,zSb,zSc]
  refine take_op (v:=?vu2x8) 8 (Op.fieldAddr 66 (Operand.tmp 1) 0) 0 rfl rfl rfl rfl rfl (by kernel_rfl) (by kernel_rfl) (by kernel_rfl) (fun _ _ _ h=>h) ?yu2x8 (by assumption) ?ru2x8
  case yu2x8=>(intro w' hSw;(try dsimp only at hSw);go_simp;try (with_reducible rfl))
  simp only [zSa,zSb,zSc]
  refine take_op (v:=?vu2x9) 9 (Op.fieldAddr 32 (Operand.tmp 15) 2) 0 rfl rfl rfl rfl rfl (by kernel_rfl) (by kernel_rfl) (by kernel_rfl) (fun _ _ _ h=>h) ?yu2x9 (by assumption) ?ru2x9
  case yu2x9=>(intro w' hSw;(try dsimp only at hSw);go_simp;try (with_reducible rfl))
  simp only [zSa,zSb,zSc]
  refine wpAnyH_ready (rs:=[3]) (by kernel_rfl) (by simp) (AllReadyH.cons rfl (fun K3 hK3=>?ku2x3) AllReadyH.nil)
  refine take_callip 3 38 #[.pointer (some ⟨g,0,none⟩)] (Op.call { callee:=Callee.value (Operand.tmp 9),args:=#[],argTypes:=#[] }) 3 rfl rfl rfl (by kernel_rfl) (by go_simp;try (first | with_reducible rfl | exact ⟨rfl,rfl⟩)) ?_
  refine (num_n g b q1 v q er _ I.fG hx her hs).mono ?_
  rintro e w3 ⟨rfl,hL⟩
  refine ⟨_,rfl,?_⟩
  replace I:=I.left hL
  try simp only [Exit.then,Exit.inBlock]
  exact ⟨rfl,Or.inr ⟨by rw [HT.out];exact her,_,by rw [HT.out],_,_,I⟩⟩
set_option maxRecDepth 100000 in
set_option maxHeartbeats 8000000 in
theorem peek_bad3 (b:List UInt8) (bT bH bN g:Nat) (w:World) (I:PkI w w bT bH bN g b 0 (hcs 0 0 0 0 0 0 0 0 [])) (hs:b.length≤1000000) (v1 v2:Int) (q1 q2:Nat) (hb:b ≠ []) (h1:getV b ((1:Nat):Int) = (v1,((q1:Nat):Int),0)) (h2:getV b (q1:Nat) = (v2,((q2:Nat):Int),0)) (v q er:Int) (hx:getV b (q2:Nat) = (v,q,er)) (her:er ≠ 0) :
    Calls Tryz.prog 39 #[.pointer (some ⟨bT,0,none⟩),.pointer (some ⟨bH,0,none⟩),.pointer (some ⟨bN,0,none⟩)] w fun e w'=>PkEnd b w bT bH bN g e w':=by
  have HT:Hid ((takeV b).2 = er):=Lib.hid (by
    have e:(numsV b 5 1).2.2 = er:=by show (numsV b 5 ((1:Nat):Int)).2.2 = er;rw [numsV_yes h1,numsV_yes h2, numsV_no hx her]
    unfold takeV
    rw [if_neg hb,if_neg (by rw [e];exact her)]
    exact e)
  obtain ⟨cT,_,_⟩:=blk1 I.fT
  have hcn:∀ args w,(callFunc 38 args).run Tryz.prog w = .ok (.enter 38 args) w:=fun args w=>run_enter Tryz.func38 (by kernel_rfl) rfl args w
  have hb0:0 < b.length:=List.length_pos_iff.2 hb
  have hm0:b[0]?.getD 0 = b[0]:=by rw [List.getElem?_eq_getElem hb0];rfl
  have CB:=byte_yes g b 0 w I.fG hb0 (by omega)
  rw [← hm0] at CB
  obtain ⟨m,hm⟩:∃ m,(((b[0]?.getD 0).toNat:Nat):Int) = m:=⟨_,rfl⟩
  rw [hm] at CB
  have HM:=Lib.hid hm
  clear hm hm0
  go_enter Tryz.func39,Tryz.ntmps39
  go_wp2_with fail
  refine CB.mono ?_
  clear CB
  rintro e w0 ⟨rfl,hL0⟩
  replace I:=I.left (q1:=((1:Nat):Int)) hL0
  obtain ⟨v7,c7,f7⟩:∃ v,w0.cell? ⟨bH,7,none⟩ = some v∧w0.frozen? ⟨bH,7,none⟩ = false:=⟨_,I.fH.cell_ 7 rfl,I.fH.frozen 7⟩
  have l7:=I.fH.lt
  clear cT hL0
  go_upto_region 1 with fail
  replace I:=I.set 7 (.int .i64 m)
  clear c7 f7 l7
  generalize w0.setCell ⟨bH,7,none⟩ (.int .i64 m) = w1 at *
  replace I:=I.drew
  refine wp_region_held_drew (S:=(fun w'=>w'.cell? ⟨bN,0,none⟩ = some (.func (.func 38) #[.pointer (some ⟨g,0,none⟩)] #[]))) (by kernel_rfl) ?_ (fun hHeld=>?_)
  · (try dsimp only);exact I.S
  refine take_op (v:=?vu3x0) 0 (Op.load 43 (Operand.tmp 2)) 43 rfl rfl rfl rfl rfl (by kernel_rfl) (by kernel_rfl) (by kernel_rfl) (fun _ _ _ h=>h) ?yu3x0 (by assumption) ?ru3x0
  case yu3x0=>(intro w' hSw;(try dsimp only at hSw);go_simp;try (with_reducible rfl))
  simp only [zSa,zSb,zSc]
  refine take_op (v:=?vu3x2) 2 (Op.load 43 (Operand.tmp 2)) 43 rfl rfl rfl rfl rfl (by kernel_rfl) (by kernel_rfl) (by kernel_rfl) (fun _ _ _ h=>h) ?yu3x2 (by assumption) ?ru3x2
  case yu3x2=>(intro w' hSw;(try dsimp only at hSw);go_simp;try (with_reducible rfl))
  simp only [zSa,zSb,zSc]
  refine take_op (v:=?vu3x4) 4 (Op.load 43 (Operand.tmp 2)) 43 rfl rfl rfl rfl rfl (by kernel_rfl) (by kernel_rfl) (by kernel_rfl) (fun _ _ _ h=>h) ?yu3x4 (by assumption) ?ru3x4
  case yu3x4=>(intro w' hSw;(try dsimp only at hSw);go_simp;try (with_reducible rfl))
  simp only [zSa,zSb,zSc]
  refine take_op (v:=?vu3x6) 6 (Op.load 43 (Operand.tmp 2)) 43 rfl rfl rfl rfl rfl (by kernel_rfl) (by kernel_rfl) (by kernel_rfl) (fun _ _ _ h=>h) ?yu3x6 (by assumption) ?ru3x6
  case yu3x6=>(intro w' hSw;(try dsimp only at hSw);go_simp;try (with_reducible rfl))
  simp only [zSa,zSb,zSc]
  refine wpAnyH_ready (rs:=[1]) (by kernel_rfl) (by simp) (AllReadyH.cons rfl (fun K1 hK1=>?ku3x1) AllReadyH.nil)
  refine take_calli 1 38 #[.pointer (some ⟨g,0,none⟩)] (Op.call { callee:=Callee.value (Operand.tmp 7),args:=#[],argTypes:=#[] }) 3 rfl rfl rfl (by kernel_rfl) (by go_simp;try (first | with_reducible rfl | exact ⟨rfl,rfl⟩)) ?_
  refine (num_y g b 1 q1 v1 _ I.fG h1 hs).mono ?_
  rintro e w1 ⟨rfl,hL⟩
  replace I:=I.left hL
  refine ⟨_,rfl,?_⟩
  refine hK1.out _ _ ?su3x1 (fun hHeld=>?ru3x1)
  case su3x1=>((try dsimp only);exact I.S)
  try simp only [zSa,zSb,zSc]
  refine take_op (v:=?vu3x8) 8 (Op.fieldAddr 66 (Operand.tmp 1) 0) 0 rfl rfl rfl rfl rfl (by kernel_rfl) (by kernel_rfl) (by kernel_rfl) (fun _ _ _ h=>h) ?yu3x8 (by assumption) ?ru3x8
  case yu3x8=>(intro w' hSw;(try dsimp only at hSw);go_simp;try (with_reducible rfl))
  simp only [zSa,zSb,zSc]
  refine take_op (v:=?vu3x9) 9 (Op.fieldAddr 32 (Operand.tmp 15) 2) 0 rfl rfl rfl rfl rfl (by kernel_rfl) (by kernel_rfl) (by kernel_rfl) (fun _ _ _ h=>h) ?yu3x9 (by assumption) ?ru3x9
  case yu3x9=>(intro w' hSw;(try dsimp only at hSw);go_simp;try (with_reducible rfl))
  simp only [zSa,zSb,zSc]
  refine wpAnyH_ready (rs:=[3]) (by kernel_rfl) (by simp) (AllReadyH.cons rfl (fun K3 hK3=>?ku3x3) AllReadyH.nil)
  refine take_calli 3 38 #[.pointer (some ⟨g,0,none⟩)] (Op.call { callee:=Callee.value (Operand.tmp 9),args:=#[],argTypes:=#[] }) 3 rfl rfl rfl (by kernel_rfl) (by go_simp;try (first | with_reducible rfl | exact ⟨rfl,rfl⟩)) ?_
  refine (num_y g b q1 q2 v2 _ I.fG h2 hs).mono ?_
  rintro e w3 ⟨rfl,hL⟩
  replace I:=I.left hL
  refine ⟨_,rfl,?_⟩
  refine hK3.out _ _ ?su3x3 (fun hHeld=>?ru3x3)
  case su3x3=>((try dsimp only);exact I.S)
  try simp only [zSa,zSb,zSc]
  refine wpAnyH_ready (rs:=[5]) (by kernel_rfl) (by simp) (AllReadyH.cons rfl (fun K5 hK5=>?ku3x5) AllReadyH.nil)
  refine take_callip 5 38 #[.pointer (some ⟨g,0,none⟩)] (Op.call { callee:=Callee.value (Operand.tmp 11),args:=#[],argTypes:=#[] }) 3 rfl rfl rfl (by kernel_rfl) (by go_simp;try (first | with_reducible rfl | exact ⟨rfl,rfl⟩)) ?_
  refine (num_n g b q2 v q er _ I.fG hx her hs).mono ?_
  rintro e w5 ⟨rfl,hL⟩
  refine ⟨_,rfl,?_⟩
  replace I:=I.left hL
  try simp only [Exit.then,Exit.inBlock]
  exact ⟨rfl,Or.inr ⟨by rw [HT.out];exact her,_,by rw [HT.out],_,_,I⟩⟩
set_option maxRecDepth 100000 in
set_option maxHeartbeats 8000000 in
theorem peek_bad4 (b:List UInt8) (bT bH bN g:Nat) (w:World) (I:PkI w w bT bH bN g b 0 (hcs 0 0 0 0 0 0 0 0 [])) (hs:b.length≤1000000) (v1 v2 v3:Int) (q1 q2 q3:Nat) (hb:b ≠ []) (h1:getV b ((1:Nat):Int) = (v1,((q1:Nat):Int),0)) (h2:getV b (q1:Nat) = (v2,((q2:Nat):Int),0)) (h3:getV b (q2:Nat) = (v3,((q3:Nat):Int),0)) (v q er:Int) (hx:getV b (q3:Nat) = (v,q,er)) (her:er ≠ 0) :
    Calls Tryz.prog 39 #[.pointer (some ⟨bT,0,none⟩),.pointer (some ⟨bH,0,none⟩),.pointer (some ⟨bN,0,none⟩)] w fun e w'=>PkEnd b w bT bH bN g e w':=by
  have HT:Hid ((takeV b).2 = er):=Lib.hid (by
    have e:(numsV b 5 1).2.2 = er:=by show (numsV b 5 ((1:Nat):Int)).2.2 = er;rw [numsV_yes h1,numsV_yes h2,numsV_yes h3, numsV_no hx her]
    unfold takeV
    rw [if_neg hb,if_neg (by rw [e];exact her)]
    exact e)
  obtain ⟨cT,_,_⟩:=blk1 I.fT
  have hcn:∀ args w,(callFunc 38 args).run Tryz.prog w = .ok (.enter 38 args) w:=fun args w=>run_enter Tryz.func38 (by kernel_rfl) rfl args w
  have hb0:0 < b.length:=List.length_pos_iff.2 hb
  have hm0:b[0]?.getD 0 = b[0]:=by rw [List.getElem?_eq_getElem hb0];rfl
  have CB:=byte_yes g b 0 w I.fG hb0 (by omega)
  rw [← hm0] at CB
  obtain ⟨m,hm⟩:∃ m,(((b[0]?.getD 0).toNat:Nat):Int) = m:=⟨_,rfl⟩
  rw [hm] at CB
  have HM:=Lib.hid hm
  clear hm hm0
  go_enter Tryz.func39,Tryz.ntmps39
  go_wp2_with fail
  refine CB.mono ?_
  clear CB
  rintro e w0 ⟨rfl,hL0⟩
  replace I:=I.left (q1:=((1:Nat):Int)) hL0
  obtain ⟨v7,c7,f7⟩:∃ v,w0.cell? ⟨bH,7,none⟩ = some v∧w0.frozen? ⟨bH,7,none⟩ = false:=⟨_,I.fH.cell_ 7 rfl,I.fH.frozen 7⟩
  have l7:=I.fH.lt
  clear cT hL0
  go_upto_region 1 with fail
  replace I:=I.set 7 (.int .i64 m)
  clear c7 f7 l7
  generalize w0.setCell ⟨bH,7,none⟩ (.int .i64 m) = w1 at *
  replace I:=I.drew
  refine wp_region_held_drew (S:=(fun w'=>w'.cell? ⟨bN,0,none⟩ = some (.func (.func 38) #[.pointer (some ⟨g,0,none⟩)] #[]))) (by kernel_rfl) ?_ (fun hHeld=>?_)
  · (try dsimp only);exact I.S
  refine take_op (v:=?vu4x0) 0 (Op.load 43 (Operand.tmp 2)) 43 rfl rfl rfl rfl rfl (by kernel_rfl) (by kernel_rfl) (by kernel_rfl) (fun _ _ _ h=>h) ?yu4x0 (by assumption) ?ru4x0
  case yu4x0=>(intro w' hSw;(try dsimp only at hSw);go_simp;try (with_reducible rfl))
  simp only [zSa,zSb,zSc]
  refine take_op (v:=?vu4x2) 2 (Op.load 43 (Operand.tmp 2)) 43 rfl rfl rfl rfl rfl (by kernel_rfl) (by kernel_rfl) (by kernel_rfl) (fun _ _ _ h=>h) ?yu4x2 (by assumption) ?ru4x2
  case yu4x2=>(intro w' hSw;(try dsimp only at hSw);go_simp;try (with_reducible rfl))
  simp only [zSa,zSb,zSc]
  refine take_op (v:=?vu4x4) 4 (Op.load 43 (Operand.tmp 2)) 43 rfl rfl rfl rfl rfl (by kernel_rfl) (by kernel_rfl) (by kernel_rfl) (fun _ _ _ h=>h) ?yu4x4 (by assumption) ?ru4x4
  case yu4x4=>(intro w' hSw;(try dsimp only at hSw);go_simp;try (with_reducible rfl))
  simp only [zSa,zSb,zSc]
  refine take_op (v:=?vu4x6) 6 (Op.load 43 (Operand.tmp 2)) 43 rfl rfl rfl rfl rfl (by kernel_rfl) (by kernel_rfl) (by kernel_rfl) (fun _ _ _ h=>h) ?yu4x6 (by assumption) ?ru4x6
  case yu4x6=>(intro w' hSw;(try dsimp only at hSw);go_simp;try (with_reducible rfl))
  simp only [zSa,zSb,zSc]
  refine wpAnyH_ready (rs:=[1]) (by kernel_rfl) (by simp) (AllReadyH.cons rfl (fun K1 hK1=>?ku4x1) AllReadyH.nil)
  refine take_calli 1 38 #[.pointer (some ⟨g,0,none⟩)] (Op.call { callee:=Callee.value (Operand.tmp 7),args:=#[],argTypes:=#[] }) 3 rfl rfl rfl (by kernel_rfl) (by go_simp;try (first | with_reducible rfl | exact ⟨rfl,rfl⟩)) ?_
  refine (num_y g b 1 q1 v1 _ I.fG h1 hs).mono ?_
  rintro e w1 ⟨rfl,hL⟩
  replace I:=I.left hL
  refine ⟨_,rfl,?_⟩
  refine hK1.out _ _ ?su4x1 (fun hHeld=>?ru4x1)
  case su4x1=>((try dsimp only);exact I.S)
  try simp only [zSa,zSb,zSc]
  refine take_op (v:=?vu4x8) 8 (Op.fieldAddr 66 (Operand.tmp 1) 0) 0 rfl rfl rfl rfl rfl (by kernel_rfl) (by kernel_rfl) (by kernel_rfl) (fun _ _ _ h=>h) ?yu4x8 (by assumption) ?ru4x8
  case yu4x8=>(intro w' hSw;(try dsimp only at hSw);go_simp;try (with_reducible rfl))
  simp only [zSa,zSb,zSc]
  refine take_op (v:=?vu4x9) 9 (Op.fieldAddr 32 (Operand.tmp 15) 2) 0 rfl rfl rfl rfl rfl (by kernel_rfl) (by kernel_rfl) (by kernel_rfl) (fun _ _ _ h=>h) ?yu4x9 (by assumption) ?ru4x9
  case yu4x9=>(intro w' hSw;(try dsimp only at hSw);go_simp;try (with_reducible rfl))
  simp only [zSa,zSb,zSc]
  refine wpAnyH_ready (rs:=[3]) (by kernel_rfl) (by simp) (AllReadyH.cons rfl (fun K3 hK3=>?ku4x3) AllReadyH.nil)
  refine take_calli 3 38 #[.pointer (some ⟨g,0,none⟩)] (Op.call { callee:=Callee.value (Operand.tmp 9),args:=#[],argTypes:=#[] }) 3 rfl rfl rfl (by kernel_rfl) (by go_simp;try (first | with_reducible rfl | exact ⟨rfl,rfl⟩)) ?_
  refine (num_y g b q1 q2 v2 _ I.fG h2 hs).mono ?_
  rintro e w3 ⟨rfl,hL⟩
  replace I:=I.left hL
  refine ⟨_,rfl,?_⟩
  refine hK3.out _ _ ?su4x3 (fun hHeld=>?ru4x3)
  case su4x3=>((try dsimp only);exact I.S)
  try simp only [zSa,zSb,zSc]
  refine wpAnyH_ready (rs:=[5]) (by kernel_rfl) (by simp) (AllReadyH.cons rfl (fun K5 hK5=>?ku4x5) AllReadyH.nil)
  refine take_calli 5 38 #[.pointer (some ⟨g,0,none⟩)] (Op.call { callee:=Callee.value (Operand.tmp 11),args:=#[],argTypes:=#[] }) 3 rfl rfl rfl (by kernel_rfl) (by go_simp;try (first | with_reducible rfl | exact ⟨rfl,rfl⟩)) ?_
  refine (num_y g b q2 q3 v3 _ I.fG h3 hs).mono ?_
  rintro e w5 ⟨rfl,hL⟩
  replace I:=I.left hL
  refine ⟨_,rfl,?_⟩
  refine hK5.out _ _ ?su4x5 (fun hHeld=>?ru4x5)
  case su4x5=>((try dsimp only);exact I.S)
  try simp only [zSa,zSb,zSc]
  refine wpAnyH_ready (rs:=[7]) (by kernel_rfl) (by simp) (AllReadyH.cons rfl (fun K7 hK7=>?ku4x7) AllReadyH.nil)
  refine take_callip 7 38 #[.pointer (some ⟨g,0,none⟩)] (Op.call { callee:=Callee.value (Operand.tmp 13),args:=#[],argTypes:=#[] }) 3 rfl rfl rfl (by kernel_rfl) (by go_simp;try (first | with_reducible rfl | exact ⟨rfl,rfl⟩)) ?_
  refine (num_n g b q3 v q er _ I.fG hx her hs).mono ?_
  rintro e w7 ⟨rfl,hL⟩
  refine ⟨_,rfl,?_⟩
  replace I:=I.left hL
  try simp only [Exit.then,Exit.inBlock]
  exact ⟨rfl,Or.inr ⟨by rw [HT.out];exact her,_,by rw [HT.out],_,_,I⟩⟩
set_option maxRecDepth 100000 in
set_option maxHeartbeats 8000000 in
theorem peek_bad5 (b:List UInt8) (bT bH bN g:Nat) (w:World) (I:PkI w w bT bH bN g b 0 (hcs 0 0 0 0 0 0 0 0 [])) (hs:b.length≤1000000) (v1 v2 v3 v4:Int) (q1 q2 q3 q4:Nat) (hb:b ≠ []) (h1:getV b ((1:Nat):Int) = (v1,((q1:Nat):Int),0)) (h2:getV b (q1:Nat) = (v2,((q2:Nat):Int),0)) (h3:getV b (q2:Nat) = (v3,((q3:Nat):Int),0)) (h4:getV b (q3:Nat) = (v4,((q4:Nat):Int),0)) (v q er:Int) (hx:getV b (q4:Nat) = (v,q,er)) (her:er ≠ 0) :
    Calls Tryz.prog 39 #[.pointer (some ⟨bT,0,none⟩),.pointer (some ⟨bH,0,none⟩),.pointer (some ⟨bN,0,none⟩)] w fun e w'=>PkEnd b w bT bH bN g e w':=by
  have HT:Hid ((takeV b).2 = er):=Lib.hid (by
    have e:(numsV b 5 1).2.2 = er:=by show (numsV b 5 ((1:Nat):Int)).2.2 = er;rw [numsV_yes h1,numsV_yes h2,numsV_yes h3,numsV_yes h4, numsV_no hx her]
    unfold takeV
    rw [if_neg hb,if_neg (by rw [e];exact her)]
    exact e)
  obtain ⟨cT,_,_⟩:=blk1 I.fT
  have hcn:∀ args w,(callFunc 38 args).run Tryz.prog w = .ok (.enter 38 args) w:=fun args w=>run_enter Tryz.func38 (by kernel_rfl) rfl args w
  have hb0:0 < b.length:=List.length_pos_iff.2 hb
  have hm0:b[0]?.getD 0 = b[0]:=by rw [List.getElem?_eq_getElem hb0];rfl
  have CB:=byte_yes g b 0 w I.fG hb0 (by omega)
  rw [← hm0] at CB
  obtain ⟨m,hm⟩:∃ m,(((b[0]?.getD 0).toNat:Nat):Int) = m:=⟨_,rfl⟩
  rw [hm] at CB
  have HM:=Lib.hid hm
  clear hm hm0
  go_enter Tryz.func39,Tryz.ntmps39
  go_wp2_with fail
  refine CB.mono ?_
  clear CB
  rintro e w0 ⟨rfl,hL0⟩
  replace I:=I.left (q1:=((1:Nat):Int)) hL0
  obtain ⟨v7,c7,f7⟩:∃ v,w0.cell? ⟨bH,7,none⟩ = some v∧w0.frozen? ⟨bH,7,none⟩ = false:=⟨_,I.fH.cell_ 7 rfl,I.fH.frozen 7⟩
  have l7:=I.fH.lt
  clear cT hL0
  go_upto_region 1 with fail
  replace I:=I.set 7 (.int .i64 m)
  clear c7 f7 l7
  generalize w0.setCell ⟨bH,7,none⟩ (.int .i64 m) = w1 at *
  replace I:=I.drew
  refine wp_region_held_drew (S:=(fun w'=>w'.cell? ⟨bN,0,none⟩ = some (.func (.func 38) #[.pointer (some ⟨g,0,none⟩)] #[]))) (by kernel_rfl) ?_ (fun hHeld=>?_)
  · (try dsimp only);exact I.S
  refine take_op (v:=?vu5x0) 0 (Op.load 43 (Operand.tmp 2)) 43 rfl rfl rfl rfl rfl (by kernel_rfl) (by kernel_rfl) (by kernel_rfl) (fun _ _ _ h=>h) ?yu5x0 (by assumption) ?ru5x0
  case yu5x0=>(intro w' hSw;(try dsimp only at hSw);go_simp;try (with_reducible rfl))
  simp only [zSa,zSb,zSc]
  refine take_op (v:=?vu5x2) 2 (Op.load 43 (Operand.tmp 2)) 43 rfl rfl rfl rfl rfl (by kernel_rfl) (by kernel_rfl) (by kernel_rfl) (fun _ _ _ h=>h) ?yu5x2 (by assumption) ?ru5x2
  case yu5x2=>(intro w' hSw;(try dsimp only at hSw);go_simp;try (with_reducible rfl))
  simp only [zSa,zSb,zSc]
  refine take_op (v:=?vu5x4) 4 (Op.load 43 (Operand.tmp 2)) 43 rfl rfl rfl rfl rfl (by kernel_rfl) (by kernel_rfl) (by kernel_rfl) (fun _ _ _ h=>h) ?yu5x4 (by assumption) ?ru5x4
  case yu5x4=>(intro w' hSw;(try dsimp only at hSw);go_simp;try (with_reducible rfl))
  simp only [zSa,zSb,zSc]
  refine take_op (v:=?vu5x6) 6 (Op.load 43 (Operand.tmp 2)) 43 rfl rfl rfl rfl rfl (by kernel_rfl) (by kernel_rfl) (by kernel_rfl) (fun _ _ _ h=>h) ?yu5x6 (by assumption) ?ru5x6
  case yu5x6=>(intro w' hSw;(try dsimp only at hSw);go_simp;try (with_reducible rfl))
  simp only [zSa,zSb,zSc]
  refine wpAnyH_ready (rs:=[1]) (by kernel_rfl) (by simp) (AllReadyH.cons rfl (fun K1 hK1=>?ku5x1) AllReadyH.nil)
  refine take_calli 1 38 #[.pointer (some ⟨g,0,none⟩)] (Op.call { callee:=Callee.value (Operand.tmp 7),args:=#[],argTypes:=#[] }) 3 rfl rfl rfl (by kernel_rfl) (by go_simp;try (first | with_reducible rfl | exact ⟨rfl,rfl⟩)) ?_
  refine (num_y g b 1 q1 v1 _ I.fG h1 hs).mono ?_
  rintro e w1 ⟨rfl,hL⟩
  replace I:=I.left hL
  refine ⟨_,rfl,?_⟩
  refine hK1.out _ _ ?su5x1 (fun hHeld=>?ru5x1)
  case su5x1=>((try dsimp only);exact I.S)
  try simp only [zSa,zSb,zSc]
  refine take_op (v:=?vu5x8) 8 (Op.fieldAddr 66 (Operand.tmp 1) 0) 0 rfl rfl rfl rfl rfl (by kernel_rfl) (by kernel_rfl) (by kernel_rfl) (fun _ _ _ h=>h) ?yu5x8 (by assumption) ?ru5x8
  case yu5x8=>(intro w' hSw;(try dsimp only at hSw);go_simp;try (with_reducible rfl))
  simp only [zSa,zSb,zSc]
  refine take_op (v:=?vu5x9) 9 (Op.fieldAddr 32 (Operand.tmp 15) 2) 0 rfl rfl rfl rfl rfl (by kernel_rfl) (by kernel_rfl) (by kernel_rfl) (fun _ _ _ h=>h) ?yu5x9 (by assumption) ?ru5x9
  case yu5x9=>(intro w' hSw;(try dsimp only at hSw);go_simp;try (with_reducible rfl))
  simp only [zSa,zSb,zSc]
  refine wpAnyH_ready (rs:=[3]) (by kernel_rfl) (by simp) (AllReadyH.cons rfl (fun K3 hK3=>?ku5x3) AllReadyH.nil)
  refine take_calli 3 38 #[.pointer (some ⟨g,0,none⟩)] (Op.call { callee:=Callee.value (Operand.tmp 9),args:=#[],argTypes:=#[] }) 3 rfl rfl rfl (by kernel_rfl) (by go_simp;try (first | with_reducible rfl | exact ⟨rfl,rfl⟩)) ?_
  refine (num_y g b q1 q2 v2 _ I.fG h2 hs).mono ?_
  rintro e w3 ⟨rfl,hL⟩
  replace I:=I.left hL
  refine ⟨_,rfl,?_⟩
  refine hK3.out _ _ ?su5x3 (fun hHeld=>?ru5x3)
  case su5x3=>((try dsimp only);exact I.S)
  try simp only [zSa,zSb,zSc]
  refine wpAnyH_ready (rs:=[5]) (by kernel_rfl) (by simp) (AllReadyH.cons rfl (fun K5 hK5=>?ku5x5) AllReadyH.nil)
  refine take_calli 5 38 #[.pointer (some ⟨g,0,none⟩)] (Op.call { callee:=Callee.value (Operand.tmp 11),args:=#[],argTypes:=#[] }) 3 rfl rfl rfl (by kernel_rfl) (by go_simp;try (first | with_reducible rfl | exact ⟨rfl,rfl⟩)) ?_
  refine (num_y g b q2 q3 v3 _ I.fG h3 hs).mono ?_
  rintro e w5 ⟨rfl,hL⟩
  replace I:=I.left hL
  refine ⟨_,rfl,?_⟩
  refine hK5.out _ _ ?su5x5 (fun hHeld=>?ru5x5)
  case su5x5=>((try dsimp only);exact I.S)
  try simp only [zSa,zSb,zSc]
  refine wpAnyH_ready (rs:=[7]) (by kernel_rfl) (by simp) (AllReadyH.cons rfl (fun K7 hK7=>?ku5x7) AllReadyH.nil)
  refine take_calli 7 38 #[.pointer (some ⟨g,0,none⟩)] (Op.call { callee:=Callee.value (Operand.tmp 13),args:=#[],argTypes:=#[] }) 3 rfl rfl rfl (by kernel_rfl) (by go_simp;try (first | with_reducible rfl | exact ⟨rfl,rfl⟩)) ?_
  refine (num_y g b q3 q4 v4 _ I.fG h4 hs).mono ?_
  rintro e w7 ⟨rfl,hL⟩
  replace I:=I.left hL
  refine ⟨_,rfl,?_⟩
  refine hK7.out _ _ ?su5x7 (fun hHeld=>?ru5x7)
  case su5x7=>((try dsimp only);exact I.S)
  try simp only [zSa,zSb,zSc]
  refine wpAnyH_ready (rs:=[10]) (by kernel_rfl) (by simp) (AllReadyH.cons rfl (fun K10 hK10=>?ku5x10) AllReadyH.nil)
  refine take_store 10 (Op.store 3 (Operand.tmp 16) (Operand.tmp 8)) 0 rfl rfl rfl (by kernel_rfl) (w':=w7.setCell ⟨bH,2,none⟩ (.int .i64 v1)) (by have f:=I.fH.frozen 2;have c:=I.fH.cell_ 2 rfl;have l:=I.fH.lt;go_simp;try (with_reducible rfl)) ?_
  refine hK10.out _ _ ((I.set 2 (.int .i64 v1)).S) (fun hHeld=>?_)
  replace I:=I.set 2 (.int .i64 v1)
  generalize (w7.setCell ⟨bH,2,none⟩ (.int .i64 v1)) = wq at *
  refine take_op (v:=?vu5x11) 11 (Op.fieldAddr 66 (Operand.tmp 1) 0) 0 rfl rfl rfl rfl rfl (by kernel_rfl) (by kernel_rfl) (by kernel_rfl) (fun _ _ _ h=>h) ?yu5x11 (by assumption) ?ru5x11
  case yu5x11=>(intro w' hSw;(try dsimp only at hSw);go_simp;try (with_reducible rfl))
  simp only [zSa,zSb,zSc]
  refine take_op (v:=?vu5x12) 12 (Op.fieldAddr 32 (Operand.tmp 17) 3) 0 rfl rfl rfl rfl rfl (by kernel_rfl) (by kernel_rfl) (by kernel_rfl) (fun _ _ _ h=>h) ?yu5x12 (by assumption) ?ru5x12
  case yu5x12=>(intro w' hSw;(try dsimp only at hSw);go_simp;try (with_reducible rfl))
  simp only [zSa,zSb,zSc]
  refine wpAnyH_ready (rs:=[13]) (by kernel_rfl) (by simp) (AllReadyH.cons rfl (fun K13 hK13=>?ku5x13) AllReadyH.nil)
  refine take_store 13 (Op.store 3 (Operand.tmp 18) (Operand.tmp 10)) 0 rfl rfl rfl (by kernel_rfl) (w':=wq.setCell ⟨bH,3,none⟩ (.int .i64 v2)) (by have f:=I.fH.frozen 3;have c:=I.fH.cell_ 3 rfl;have l:=I.fH.lt;go_simp;try (with_reducible rfl)) ?_
  refine hK13.out _ _ ((I.set 3 (.int .i64 v2)).S) (fun hHeld=>?_)
  replace I:=I.set 3 (.int .i64 v2)
  generalize (wq.setCell ⟨bH,3,none⟩ (.int .i64 v2)) = wq at *
  refine take_op (v:=?vu5x14) 14 (Op.fieldAddr 66 (Operand.tmp 1) 0) 0 rfl rfl rfl rfl rfl (by kernel_rfl) (by kernel_rfl) (by kernel_rfl) (fun _ _ _ h=>h) ?yu5x14 (by assumption) ?ru5x14
  case yu5x14=>(intro w' hSw;(try dsimp only at hSw);go_simp;try (with_reducible rfl))
  simp only [zSa,zSb,zSc]
  refine take_op (v:=?vu5x15) 15 (Op.fieldAddr 32 (Operand.tmp 19) 4) 0 rfl rfl rfl rfl rfl (by kernel_rfl) (by kernel_rfl) (by kernel_rfl) (fun _ _ _ h=>h) ?yu5x15 (by assumption) ?ru5x15
  case yu5x15=>(intro w' hSw;(try dsimp only at hSw);go_simp;try (with_reducible rfl))
  simp only [zSa,zSb,zSc]
  refine wpAnyH_ready (rs:=[16]) (by kernel_rfl) (by simp) (AllReadyH.cons rfl (fun K16 hK16=>?ku5x16) AllReadyH.nil)
  refine take_store 16 (Op.store 3 (Operand.tmp 20) (Operand.tmp 12)) 0 rfl rfl rfl (by kernel_rfl) (w':=wq.setCell ⟨bH,4,none⟩ (.int .i64 v3)) (by have f:=I.fH.frozen 4;have c:=I.fH.cell_ 4 rfl;have l:=I.fH.lt;go_simp;try (with_reducible rfl)) ?_
  refine hK16.out _ _ ((I.set 4 (.int .i64 v3)).S) (fun hHeld=>?_)
  replace I:=I.set 4 (.int .i64 v3)
  generalize (wq.setCell ⟨bH,4,none⟩ (.int .i64 v3)) = wq at *
  refine take_op (v:=?vu5x17) 17 (Op.fieldAddr 66 (Operand.tmp 1) 0) 0 rfl rfl rfl rfl rfl (by kernel_rfl) (by kernel_rfl) (by kernel_rfl) (fun _ _ _ h=>h) ?yu5x17 (by assumption) ?ru5x17
  case yu5x17=>(intro w' hSw;(try dsimp only at hSw);go_simp;try (with_reducible rfl))
  simp only [zSa,zSb,zSc]
  refine take_op (v:=?vu5x18) 18 (Op.fieldAddr 32 (Operand.tmp 21) 5) 0 rfl rfl rfl rfl rfl (by kernel_rfl) (by kernel_rfl) (by kernel_rfl) (fun _ _ _ h=>h) ?yu5x18 (by assumption) ?ru5x18
  case yu5x18=>(intro w' hSw;(try dsimp only at hSw);go_simp;try (with_reducible rfl))
  simp only [zSa,zSb,zSc]
  refine wpAnyH_ready (rs:=[19]) (by kernel_rfl) (by simp) (AllReadyH.cons rfl (fun K19 hK19=>?ku5x19) AllReadyH.nil)
  refine take_store 19 (Op.store 3 (Operand.tmp 22) (Operand.tmp 14)) 0 rfl rfl rfl (by kernel_rfl) (w':=wq.setCell ⟨bH,5,none⟩ (.int .i64 v4)) (by have f:=I.fH.frozen 5;have c:=I.fH.cell_ 5 rfl;have l:=I.fH.lt;go_simp;try (with_reducible rfl)) ?_
  refine hK19.out _ _ ((I.set 5 (.int .i64 v4)).S) (fun hHeld=>?_)
  replace I:=I.set 5 (.int .i64 v4)
  generalize (wq.setCell ⟨bH,5,none⟩ (.int .i64 v4)) = wq at *
  refine wpAnyH_done (by kernel_rfl) ?_ _
  clear hHeld
  have cN:=I.S
  unfold numV at cN
  go_wp2_with fail
  refine (num_n g b q4 v q er _ I.fG hx her hs).mono ?_
  rintro e w9 ⟨rfl,hL⟩
  go_wp2_with fail
  simp [bodyPost]
  exact Or.inr ⟨by rw [HT.out];exact her,_,by rw [HT.out],_,_,I.left hL⟩
set_option maxRecDepth 100000 in
set_option maxHeartbeats 8000000 in
theorem peek_good (b:List UInt8) (bT bH bN g:Nat) (w:World) (I:PkI w w bT bH bN g b 0 (hcs 0 0 0 0 0 0 0 0 [])) (hs:b.length≤1000000) (v1 v2 v3 v4 v5:Int) (q1 q2 q3 q4 q5:Nat) (hb:b ≠ []) (h1:getV b ((1:Nat):Int) = (v1,((q1:Nat):Int),0)) (h2:getV b (q1:Nat) = (v2,((q2:Nat):Int),0)) (h3:getV b (q2:Nat) = (v3,((q3:Nat):Int),0)) (h4:getV b (q3:Nat) = (v4,((q4:Nat):Int),0)) (h5:getV b (q4:Nat) = (v5,((q5:Nat):Int),0)) :
    Calls Tryz.prog 39 #[.pointer (some ⟨bT,0,none⟩),.pointer (some ⟨bH,0,none⟩),.pointer (some ⟨bN,0,none⟩)] w fun e w'=>PkEnd b w bT bH bN g e w':=by
  have HT:=Lib.hid (take_ok hb h1 h2 h3 h4 h5)
  have HQ:Hid (q5≤b.length):=Lib.hid (by
    have:=(getV_ok (s:=b) (a:=(q4:Nat)) (by rw [h5])).2.2.1
    rw [h5] at this
    dsimp only at this
    omega)
  have hv4:0≤v4:=by
    have:=(getV_ok (s:=b) (a:=(q3:Nat)) (by rw [h4])).2.2.2.1
    rw [h4] at this
    exact this
  have hv5:0≤v5:=by
    have:=(getV_ok (s:=b) (a:=(q4:Nat)) (by rw [h5])).2.2.2.1
    rw [h5] at this
    exact this
  obtain ⟨cT,_,_⟩:=blk1 I.fT
  have hcn:∀ args w,(callFunc 38 args).run Tryz.prog w = .ok (.enter 38 args) w:=fun args w=>run_enter Tryz.func38 (by kernel_rfl) rfl args w
  have hb0:0 < b.length:=List.length_pos_iff.2 hb
  have hm0:b[0]?.getD 0 = b[0]:=by rw [List.getElem?_eq_getElem hb0];rfl
  have CB:=byte_yes g b 0 w I.fG hb0 (by omega)
  rw [← hm0] at CB
  obtain ⟨m,hm⟩:∃ m,(((b[0]?.getD 0).toNat:Nat):Int) = m:=⟨_,rfl⟩
  rw [hm] at CB
  have HM:=Lib.hid hm
  clear hm hm0
  go_enter Tryz.func39,Tryz.ntmps39
  go_wp2_with fail
  refine CB.mono ?_
  clear CB
  rintro e w0 ⟨rfl,hL0⟩
  replace I:=I.left (q1:=((1:Nat):Int)) hL0
  obtain ⟨v7,c7,f7⟩:∃ v,w0.cell? ⟨bH,7,none⟩ = some v∧w0.frozen? ⟨bH,7,none⟩ = false:=⟨_,I.fH.cell_ 7 rfl,I.fH.frozen 7⟩
  have l7:=I.fH.lt
  clear cT hL0
  go_upto_region 1 with fail
  replace I:=I.set 7 (.int .i64 m)
  clear c7 f7 l7
  generalize w0.setCell ⟨bH,7,none⟩ (.int .i64 m) = w1 at *
  replace I:=I.drew
  refine wp_region_held_drew (S:=(fun w'=>w'.cell? ⟨bN,0,none⟩ = some (.func (.func 38) #[.pointer (some ⟨g,0,none⟩)] #[]))) (by kernel_rfl) ?_ (fun hHeld=>?_)
  · (try dsimp only);exact I.S
  refine take_op (v:=?vu6x0) 0 (Op.load 43 (Operand.tmp 2)) 43 rfl rfl rfl rfl rfl (by kernel_rfl) (by kernel_rfl) (by kernel_rfl) (fun _ _ _ h=>h) ?yu6x0 (by assumption) ?ru6x0
  case yu6x0=>(intro w' hSw;(try dsimp only at hSw);go_simp;try (with_reducible rfl))
  simp only [zSa,zSb,zSc]
  refine take_op (v:=?vu6x2) 2 (Op.load 43 (Operand.tmp 2)) 43 rfl rfl rfl rfl rfl (by kernel_rfl) (by kernel_rfl) (by kernel_rfl) (fun _ _ _ h=>h) ?yu6x2 (by assumption) ?ru6x2
  case yu6x2=>(intro w' hSw;(try dsimp only at hSw);go_simp;try (with_reducible rfl))
  simp only [zSa,zSb,zSc]
  refine take_op (v:=?vu6x4) 4 (Op.load 43 (Operand.tmp 2)) 43 rfl rfl rfl rfl rfl (by kernel_rfl) (by kernel_rfl) (by kernel_rfl) (fun _ _ _ h=>h) ?yu6x4 (by assumption) ?ru6x4
  case yu6x4=>(intro w' hSw;(try dsimp only at hSw);go_simp;try (with_reducible rfl))
  simp only [zSa,zSb,zSc]
  refine take_op (v:=?vu6x6) 6 (Op.load 43 (Operand.tmp 2)) 43 rfl rfl rfl rfl rfl (by kernel_rfl) (by kernel_rfl) (by kernel_rfl) (fun _ _ _ h=>h) ?yu6x6 (by assumption) ?ru6x6
  case yu6x6=>(intro w' hSw;(try dsimp only at hSw);go_simp;try (with_reducible rfl))
  simp only [zSa,zSb,zSc]
  refine wpAnyH_ready (rs:=[1]) (by kernel_rfl) (by simp) (AllReadyH.cons rfl (fun K1 hK1=>?ku6x1) AllReadyH.nil)
  refine take_calli 1 38 #[.pointer (some ⟨g,0,none⟩)] (Op.call { callee:=Callee.value (Operand.tmp 7),args:=#[],argTypes:=#[] }) 3 rfl rfl rfl (by kernel_rfl) (by go_simp;try (first | with_reducible rfl | exact ⟨rfl,rfl⟩)) ?_
  refine (num_y g b 1 q1 v1 _ I.fG h1 hs).mono ?_
  rintro e w1 ⟨rfl,hL⟩
  replace I:=I.left hL
  refine ⟨_,rfl,?_⟩
  refine hK1.out _ _ ?su6x1 (fun hHeld=>?ru6x1)
  case su6x1=>((try dsimp only);exact I.S)
  try simp only [zSa,zSb,zSc]
  refine take_op (v:=?vu6x8) 8 (Op.fieldAddr 66 (Operand.tmp 1) 0) 0 rfl rfl rfl rfl rfl (by kernel_rfl) (by kernel_rfl) (by kernel_rfl) (fun _ _ _ h=>h) ?yu6x8 (by assumption) ?ru6x8
  case yu6x8=>(intro w' hSw;(try dsimp only at hSw);go_simp;try (with_reducible rfl))
  simp only [zSa,zSb,zSc]
  refine take_op (v:=?vu6x9) 9 (Op.fieldAddr 32 (Operand.tmp 15) 2) 0 rfl rfl rfl rfl rfl (by kernel_rfl) (by kernel_rfl) (by kernel_rfl) (fun _ _ _ h=>h) ?yu6x9 (by assumption) ?ru6x9
  case yu6x9=>(intro w' hSw;(try dsimp only at hSw);go_simp;try (with_reducible rfl))
  simp only [zSa,zSb,zSc]
  refine wpAnyH_ready (rs:=[3]) (by kernel_rfl) (by simp) (AllReadyH.cons rfl (fun K3 hK3=>?ku6x3) AllReadyH.nil)
  refine take_calli 3 38 #[.pointer (some ⟨g,0,none⟩)] (Op.call { callee:=Callee.value (Operand.tmp 9),args:=#[],argTypes:=#[] }) 3 rfl rfl rfl (by kernel_rfl) (by go_simp;try (first | with_reducible rfl | exact ⟨rfl,rfl⟩)) ?_
  refine (num_y g b q1 q2 v2 _ I.fG h2 hs).mono ?_
  rintro e w3 ⟨rfl,hL⟩
  replace I:=I.left hL
  refine ⟨_,rfl,?_⟩
  refine hK3.out _ _ ?su6x3 (fun hHeld=>?ru6x3)
  case su6x3=>((try dsimp only);exact I.S)
  try simp only [zSa,zSb,zSc]
  refine wpAnyH_ready (rs:=[5]) (by kernel_rfl) (by simp) (AllReadyH.cons rfl (fun K5 hK5=>?ku6x5) AllReadyH.nil)
  refine take_calli 5 38 #[.pointer (some ⟨g,0,none⟩)] (Op.call { callee:=Callee.value (Operand.tmp 11),args:=#[],argTypes:=#[] }) 3 rfl rfl rfl (by kernel_rfl) (by go_simp;try (first | with_reducible rfl | exact ⟨rfl,rfl⟩)) ?_
  refine (num_y g b q2 q3 v3 _ I.fG h3 hs).mono ?_
  rintro e w5 ⟨rfl,hL⟩
  replace I:=I.left hL
  refine ⟨_,rfl,?_⟩
  refine hK5.out _ _ ?su6x5 (fun hHeld=>?ru6x5)
  case su6x5=>((try dsimp only);exact I.S)
  try simp only [zSa,zSb,zSc]
  refine wpAnyH_ready (rs:=[7]) (by kernel_rfl) (by simp) (AllReadyH.cons rfl (fun K7 hK7=>?ku6x7) AllReadyH.nil)
  refine take_calli 7 38 #[.pointer (some ⟨g,0,none⟩)] (Op.call { callee:=Callee.value (Operand.tmp 13),args:=#[],argTypes:=#[] }) 3 rfl rfl rfl (by kernel_rfl) (by go_simp;try (first | with_reducible rfl | exact ⟨rfl,rfl⟩)) ?_
  refine (num_y g b q3 q4 v4 _ I.fG h4 hs).mono ?_
  rintro e w7 ⟨rfl,hL⟩
  replace I:=I.left hL
  refine ⟨_,rfl,?_⟩
  refine hK7.out _ _ ?su6x7 (fun hHeld=>?ru6x7)
  case su6x7=>((try dsimp only);exact I.S)
  try simp only [zSa,zSb,zSc]
  refine wpAnyH_ready (rs:=[10]) (by kernel_rfl) (by simp) (AllReadyH.cons rfl (fun K10 hK10=>?ku6x10) AllReadyH.nil)
  refine take_store 10 (Op.store 3 (Operand.tmp 16) (Operand.tmp 8)) 0 rfl rfl rfl (by kernel_rfl) (w':=w7.setCell ⟨bH,2,none⟩ (.int .i64 v1)) (by have f:=I.fH.frozen 2;have c:=I.fH.cell_ 2 rfl;have l:=I.fH.lt;go_simp;try (with_reducible rfl)) ?_
  refine hK10.out _ _ ((I.set 2 (.int .i64 v1)).S) (fun hHeld=>?_)
  replace I:=I.set 2 (.int .i64 v1)
  generalize (w7.setCell ⟨bH,2,none⟩ (.int .i64 v1)) = wq at *
  refine take_op (v:=?vu6x11) 11 (Op.fieldAddr 66 (Operand.tmp 1) 0) 0 rfl rfl rfl rfl rfl (by kernel_rfl) (by kernel_rfl) (by kernel_rfl) (fun _ _ _ h=>h) ?yu6x11 (by assumption) ?ru6x11
  case yu6x11=>(intro w' hSw;(try dsimp only at hSw);go_simp;try (with_reducible rfl))
  simp only [zSa,zSb,zSc]
  refine take_op (v:=?vu6x12) 12 (Op.fieldAddr 32 (Operand.tmp 17) 3) 0 rfl rfl rfl rfl rfl (by kernel_rfl) (by kernel_rfl) (by kernel_rfl) (fun _ _ _ h=>h) ?yu6x12 (by assumption) ?ru6x12
  case yu6x12=>(intro w' hSw;(try dsimp only at hSw);go_simp;try (with_reducible rfl))
  simp only [zSa,zSb,zSc]
  refine wpAnyH_ready (rs:=[13]) (by kernel_rfl) (by simp) (AllReadyH.cons rfl (fun K13 hK13=>?ku6x13) AllReadyH.nil)
  refine take_store 13 (Op.store 3 (Operand.tmp 18) (Operand.tmp 10)) 0 rfl rfl rfl (by kernel_rfl) (w':=wq.setCell ⟨bH,3,none⟩ (.int .i64 v2)) (by have f:=I.fH.frozen 3;have c:=I.fH.cell_ 3 rfl;have l:=I.fH.lt;go_simp;try (with_reducible rfl)) ?_
  refine hK13.out _ _ ((I.set 3 (.int .i64 v2)).S) (fun hHeld=>?_)
  replace I:=I.set 3 (.int .i64 v2)
  generalize (wq.setCell ⟨bH,3,none⟩ (.int .i64 v2)) = wq at *
  refine take_op (v:=?vu6x14) 14 (Op.fieldAddr 66 (Operand.tmp 1) 0) 0 rfl rfl rfl rfl rfl (by kernel_rfl) (by kernel_rfl) (by kernel_rfl) (fun _ _ _ h=>h) ?yu6x14 (by assumption) ?ru6x14
  case yu6x14=>(intro w' hSw;(try dsimp only at hSw);go_simp;try (with_reducible rfl))
  simp only [zSa,zSb,zSc]
  refine take_op (v:=?vu6x15) 15 (Op.fieldAddr 32 (Operand.tmp 19) 4) 0 rfl rfl rfl rfl rfl (by kernel_rfl) (by kernel_rfl) (by kernel_rfl) (fun _ _ _ h=>h) ?yu6x15 (by assumption) ?ru6x15
  case yu6x15=>(intro w' hSw;(try dsimp only at hSw);go_simp;try (with_reducible rfl))
  simp only [zSa,zSb,zSc]
  refine wpAnyH_ready (rs:=[16]) (by kernel_rfl) (by simp) (AllReadyH.cons rfl (fun K16 hK16=>?ku6x16) AllReadyH.nil)
  refine take_store 16 (Op.store 3 (Operand.tmp 20) (Operand.tmp 12)) 0 rfl rfl rfl (by kernel_rfl) (w':=wq.setCell ⟨bH,4,none⟩ (.int .i64 v3)) (by have f:=I.fH.frozen 4;have c:=I.fH.cell_ 4 rfl;have l:=I.fH.lt;go_simp;try (with_reducible rfl)) ?_
  refine hK16.out _ _ ((I.set 4 (.int .i64 v3)).S) (fun hHeld=>?_)
  replace I:=I.set 4 (.int .i64 v3)
  generalize (wq.setCell ⟨bH,4,none⟩ (.int .i64 v3)) = wq at *
  refine take_op (v:=?vu6x17) 17 (Op.fieldAddr 66 (Operand.tmp 1) 0) 0 rfl rfl rfl rfl rfl (by kernel_rfl) (by kernel_rfl) (by kernel_rfl) (fun _ _ _ h=>h) ?yu6x17 (by assumption) ?ru6x17
  case yu6x17=>(intro w' hSw;(try dsimp only at hSw);go_simp;try (with_reducible rfl))
  simp only [zSa,zSb,zSc]
  refine take_op (v:=?vu6x18) 18 (Op.fieldAddr 32 (Operand.tmp 21) 5) 0 rfl rfl rfl rfl rfl (by kernel_rfl) (by kernel_rfl) (by kernel_rfl) (fun _ _ _ h=>h) ?yu6x18 (by assumption) ?ru6x18
  case yu6x18=>(intro w' hSw;(try dsimp only at hSw);go_simp;try (with_reducible rfl))
  simp only [zSa,zSb,zSc]
  refine wpAnyH_ready (rs:=[19]) (by kernel_rfl) (by simp) (AllReadyH.cons rfl (fun K19 hK19=>?ku6x19) AllReadyH.nil)
  refine take_store 19 (Op.store 3 (Operand.tmp 22) (Operand.tmp 14)) 0 rfl rfl rfl (by kernel_rfl) (w':=wq.setCell ⟨bH,5,none⟩ (.int .i64 v4)) (by have f:=I.fH.frozen 5;have c:=I.fH.cell_ 5 rfl;have l:=I.fH.lt;go_simp;try (with_reducible rfl)) ?_
  refine hK19.out _ _ ((I.set 5 (.int .i64 v4)).S) (fun hHeld=>?_)
  replace I:=I.set 5 (.int .i64 v4)
  generalize (wq.setCell ⟨bH,5,none⟩ (.int .i64 v4)) = wq at *
  refine wpAnyH_done (by kernel_rfl) ?_ _
  clear hHeld
  have cN:=I.S
  unfold numV at cN
  go_wp2_with fail
  refine (num_y g b q4 q5 v5 _ I.fG h5 hs).mono ?_
  rintro e w9 ⟨rfl,hL⟩
  replace I:=I.left hL
  obtain ⟨y6,c6,f6⟩:∃ v,w9.cell? ⟨bH,6,none⟩ = some v∧w9.frozen? ⟨bH,6,none⟩ = false:=⟨_,I.fH.cell_ 6 rfl,I.fH.frozen 6⟩
  have l6:=I.fH.lt
  clear hL cN
  go_upto_region 4 with fail
  replace I:=I.set 6 (.int .i64 9223372036854775807)
  clear c6 f6 l6
  generalize w9.setCell ⟨bH,6,none⟩ (.int .i64 9223372036854775807) = w10 at *
  have c5:w10.cell? ⟨bH,5,none⟩ = some (.int .i64 v4):=I.fH.cell_ 5 rfl
  have c6:w10.cell? ⟨bH,6,none⟩ = some (.int .i64 9223372036854775807):=I.fH.cell_ 6 rfl
  have f6:=I.fH.frozen 6
  have l6:=I.fH.lt
  by_cases hc:v5≤1000000000∧v4≤1000000000
  · obtain ⟨k5,k4⟩:=hc
    have hmv:=Lib.hid (show moreV v4 v5 = v4 + v5 from if_pos ⟨k5,k4⟩)
    have hw:IntKind.i64.wrap (v4 + v5) = v4 + v5:=by rw [IntKind.wrap_i64];omega
    go_upto_region 6 with fail
    replace I:=I.set 6 (.int .i64 (v4 + v5))
    clear c5 c6 f6 l6
    generalize w10.setCell ⟨bH,6,none⟩ (.int .i64 (v4 + v5)) = w11 at *
    obtain ⟨cT,_,_⟩:=blk1 I.fT
    have C:=rest_any g b q5 w11 I.fG HQ.out (by omega)
    go_wp2_with fail
    refine C.mono ?_
    clear C
    rintro e w12 ⟨rfl,hL⟩
    replace I:=I.left hL
    obtain ⟨y8,c8,f8⟩:∃ v,w12.cell? ⟨bH,8,none⟩ = some v∧w12.frozen? ⟨bH,8,none⟩ = false:=⟨_,I.fH.cell_ 8 rfl,I.fH.frozen 8⟩
    have l8:=I.fH.lt
    go_wp2_with fail
    go_end0
    replace I:=I.set 8 (str (b.drop q5))
    refine Or.inl ⟨by rw [HT.out],rfl,((b.length:Nat):Int),?_⟩
    rw [HT.out]
    dsimp only
    rw [hmv.out,HM.out]
    exact I
  · have hmv:=Lib.hid (show moreV v4 v5 = 9223372036854775807 from if_neg hc)
    by_cases k5:v5≤1000000000
    · have k4:¬ v4≤1000000000:=fun h=>hc ⟨k5,h⟩
      clear hc
      go_upto_region 6 with fail
      generalize w10 = w11 at *
      obtain ⟨cT,_,_⟩:=blk1 I.fT
      have C:=rest_any g b q5 w11 I.fG HQ.out (by omega)
      go_wp2_with fail
      refine C.mono ?_
      clear C
      rintro e w12 ⟨rfl,hL⟩
      replace I:=I.left hL
      obtain ⟨y8,c8,f8⟩:∃ v,w12.cell? ⟨bH,8,none⟩ = some v∧w12.frozen? ⟨bH,8,none⟩ = false:=⟨_,I.fH.cell_ 8 rfl,I.fH.frozen 8⟩
      have l8:=I.fH.lt
      go_wp2_with fail
      go_end0
      replace I:=I.set 8 (str (b.drop q5))
      refine Or.inl ⟨by rw [HT.out],rfl,((b.length:Nat):Int),?_⟩
      rw [HT.out]
      dsimp only
      rw [hmv.out,HM.out]
      exact I
    · clear hc
      go_upto_region 6 with fail
      generalize w10 = w11 at *
      obtain ⟨cT,_,_⟩:=blk1 I.fT
      have C:=rest_any g b q5 w11 I.fG HQ.out (by omega)
      go_wp2_with fail
      refine C.mono ?_
      clear C
      rintro e w12 ⟨rfl,hL⟩
      replace I:=I.left hL
      obtain ⟨y8,c8,f8⟩:∃ v,w12.cell? ⟨bH,8,none⟩ = some v∧w12.frozen? ⟨bH,8,none⟩ = false:=⟨_,I.fH.cell_ 8 rfl,I.fH.frozen 8⟩
      have l8:=I.fH.lt
      go_wp2_with fail
      go_end0
      replace I:=I.set 8 (str (b.drop q5))
      refine Or.inl ⟨by rw [HT.out],rfl,((b.length:Nat):Int),?_⟩
      rw [HT.out]
      dsimp only
      rw [hmv.out,HM.out]
      exact I
end BloW
end Go.Proofs.YtnpncpoiiikafaaGreatDoor
