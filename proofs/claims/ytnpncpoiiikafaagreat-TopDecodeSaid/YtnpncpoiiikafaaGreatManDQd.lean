/- ManD -/
import Derived.Test.YtnpncpoiiikafaaGreatManEQd
import Derived.Test.YtnpncpoiiikafaaGreatHedIQd
import Derived.Deep.CutRange
import Derived.Test.YtnpncpoiiikafaaGreatMemQd
set_option linter.unusedVariables false
set_option linter.unusedSimpArgs false
set_option linter.unnecessarySimpa false
set_option maxRecDepth 100000
set_option maxHeartbeats 32000000
namespace Go.Proofs.YtnpncpoiiikafaaGreat
open Go.RowKit
namespace ClW
theorem exec_call1 (f:FuncId) (hf:∀ args w,(callFunc f args).run Tryz.prog w = .ok (.enter f args) w) (t:Tmp) (v:Value) (ats:Array TypeId) (tmps:Array Value) (defers:List Deferred) (d:Nat) (ty:TypeId) (w:World) (h:(Act.mk tmps defers).eval (.tmp t) = v) :
 (execOp (Act.mk tmps defers).eval { dst := some d, op := .call { callee := .value (.func f), args := #[.tmp t], argTypes := ats }, type := ty, pos := "", after := #[], guard := none }).run Tryz.prog w = .ok (.enter f #[v]) w := by
 rw [execOp_call_go]
 simp [h,hf]
end ClW
namespace ManW
open TakW (tk flt at_any end_yes end_bad new_any caughtK_no caughtK_ok)
open ClW (Cl own_left own_fell)
open HedW (num_b at3)
open BloW (getV_three)
open SkpW (En ec blk9)
open SufW (w64s)
theorem El_ent:El Tryz.prog 47 107 9 72:=El.mk' Tryz.underlying47 (z:=.agg (ec enZ)) (by kernel_rfl) rfl (by decide)
theorem hcNum:∀ args w,(callFunc 35 args).run Tryz.prog w = .ok (.enter 35 args) w:=fun args w=>run_enter Tryz.func35 (by kernel_rfl) rfl args w
theorem hcAt:∀ args w,(callFunc 54 args).run Tryz.prog w = .ok (.enter 54 args) w:=fun args w=>run_enter Tryz.func54 (by kernel_rfl) rfl args w
theorem hcEnt:∀ args w,(callFunc 55 args).run Tryz.prog w = .ok (.enter 55 args) w:=fun args w=>run_enter Tryz.func55 (by kernel_rfl) rfl args w
def mdL (c:Nat) (s:List UInt8) (q:Int) (m:Mn) (A:Option Addr) (n c':Nat):List (TypeId × Array Value) :=
 [(145,tk s q),(105,#[.pointer (some ⟨c,0,none⟩)]),(49,mcs m A n c')]
section
variable {w wr w1:World} {c:Nat} {s:List UInt8} {q q1:Int} {m m2:Mn} {A A2:Option Addr} {n c' n2 c2:Nat}
theorem md_left (h:Cl w wr c (mdL c s q m A n c')) (hL:TakW.Left wr w1 c s q1):Cl w w1 c (mdL c s q1 m A n c'):=Cl.left (i:=0) (s:=s) (q:=q) h rfl hL
theorem md_sets (h:Cl w wr c (mdL c s q m A n c')) (m2:Mn):Cl w (((((wr.setCell ⟨c + 2,0,none⟩ (.int .i64 m2.gen)).setCell ⟨c + 2,1,none⟩ (.int .i64 m2.next)).setCell ⟨c + 2,2,none⟩ (.int .i64 m2.now)).setCell ⟨c + 2,3,none⟩ (.int .i64 m2.floor)).setCell ⟨c + 2,4,none⟩ (.slice A2 n2 c2)) c (mdL c s q m2 A2 n2 c2):=by
 have h1:Cl w _ c (mdL c s q ⟨m2.gen,m.next,m.now,m.floor,m.ents⟩ A n c'):=Cl.set (i:=2) h rfl 0 (.int .i64 m2.gen)
 have h2:Cl w _ c (mdL c s q ⟨m2.gen,m2.next,m.now,m.floor,m.ents⟩ A n c'):=Cl.set (i:=2) h1 rfl 1 (.int .i64 m2.next)
 have h3:Cl w _ c (mdL c s q ⟨m2.gen,m2.next,m2.now,m.floor,m.ents⟩ A n c'):=Cl.set (i:=2) h2 rfl 2 (.int .i64 m2.now)
 have h4:Cl w _ c (mdL c s q ⟨m2.gen,m2.next,m2.now,m2.floor,m.ents⟩ A n c'):=Cl.set (i:=2) h3 rfl 3 (.int .i64 m2.floor)
 exact Cl.set (i:=2) h4 rfl 4 (.slice A2 n2 c2)
theorem md_set (h:Cl w wr c (mdL c s q m A n c')):Cl w (wr.setCell ⟨c + 2,4,none⟩ (.slice A2 n2 c2)) c (mdL c s q m A2 n2 c2):=Cl.set (i:=2) h rfl 4 (.slice A2 n2 c2)
theorem md_G (h:Cl w wr c (mdL c s q m A n c')):Blk wr c 145 (tk s q):=h.fr 0 _ rfl
theorem md_T (h:Cl w wr c (mdL c s q m A n c')):Blk wr (c + 1) 105 #[.pointer (some ⟨c,0,none⟩)]:=h.fr 1 _ rfl
theorem md_M (h:Cl w wr c (mdL c s q m A n c')):Blk wr (c + 2) 49 (mcs m A n c'):=h.fr 2 _ rfl
theorem md_S (h:Cl w wr c (mdL c s q m A n c')):wr.cell? ⟨c + 1,0,none⟩ = some (.pointer (some ⟨c,0,none⟩)):=(md_T h).cell_ 0 rfl
theorem md_lt (h:Cl w wr c (mdL c s q m A n c')):c + 3≤w.heap.size:=h.hc
end
def mdC (c:Nat):Array Value:=#[.pointer (some ⟨c + 1,0,none⟩),.pointer (some ⟨c + 2,0,none⟩)]
def MdEnd (b:List UInt8) (w:World) (c:Nat) (e:Ending) (w':World):Prop :=
 ((takeM b).2 = 0∧e = .returned (.tuple #[])∧∃ q A n c',Cl w w' c (mdL c b q (takeM b).1 A n c')∧Own w' w.heap.size 107 9 A n c' (ecells (takeM b).1.ents)) ∨
 ((takeM b).2 ≠ 0∧∃ at_,e = .panicked (flt (takeM b).2 at_)∧∃ q m A n c',Cl w w' c (mdL c b q m A n c'))
theorem MdEnd.no {b:List UInt8} {w w':World} {c n c':Nat} {er at_ q:Int} {m:Mn} {A:Option Addr} (h:takeM b = (mnZ,er)) (he:er ≠ 0) (I:Cl w w' c (mdL c b q m A n c')):MdEnd b w c (.panicked (flt er at_)) w' :=
 .inr ⟨by rw [h];exact he,at_,by rw [h],q,m,A,n,c',I⟩
theorem takeM_a {b:List UInt8} {l:List Int} {z er:Int} (h:numsV b 4 0 = (l,z,er)) (he:er ≠ 0):takeM b = (mnZ,er):=by unfold takeM;rw [h];exact if_neg he
theorem takeM_b {b:List UInt8} {l:List Int} {z v r er:Int} (h:numsV b 4 0 = (l,z,0)) (h2:getV b z = (v,r,er)) (he:er ≠ 0):takeM b = (mnZ,er):=by
 unfold takeM;rw [h];dsimp only;rw [if_pos rfl,h2];exact if_neg he
theorem takeM_c {b:List UInt8} {l:List Int} {z v r:Int} (h:numsV b 4 0 = (l,z,0)) (h2:getV b z = (v,r,0)) (hv:100 < v):takeM b = (mnZ,3):=by
 unfold takeM;rw [h];dsimp only;rw [if_pos rfl,h2];dsimp only;rw [if_pos rfl];unfold takeE;rw [if_pos hv]
def endE (b:List UInt8) (l:List Int) (x:List En × Int × Int):Mn × Int:=if x.2.2 = 0 then (if x.2.1 = b.length then (mnOf l x.1,0) else (mnZ,6)) else (mnZ,x.2.2)
theorem takeM_d {b:List UInt8} {l:List Int} {z r:Int} {N:Nat} (h:numsV b 4 0 = (l,z,0)) (h2:getV b z = ((N:Int),r,0)) (hv:N≤100):takeM b = endE b l (entsV b N r):=by
 unfold takeM;rw [h];dsimp only;rw [if_pos rfl,h2];dsimp only;rw [if_pos rfl];unfold takeE endE;rw [if_neg (by omega),Int.toNat_natCast]
theorem at_b (g:Nat) (s:List UInt8) (a:Nat) (w:World) (h:Blk w g 145 (tk s (a:Nat))) :
 Calls Tryz.prog 54 #[.pointer (some ⟨g,0,none⟩)] w fun e w'=>(e = .returned (.int .i64 ((a:Nat):Int))∧w' = w) ∨ (e = .panicked []∧False):=(at_any g s (a:Nat) w h).mono fun e w' h=>.inl h
theorem md_any (b:List UInt8) (c:Nat) (w:World) (I:Cl w w c (mdL c b 0 mnZ none 0 0)) (hs:b.length≤1000000) :
 Calls Tryz.prog 53 (mdC c) w fun e w'=>MdEnd b w c e w':=by
 have hcw:=md_lt I
 unfold mdC
 go_enter Tryz.func53,Tryz.ntmps53
 go_upto_region 0 with fail
 replace I:=I.drew
 refine wp_region_held_drew (S:=(fun w'=>w'.cell? ⟨c + 1,0,none⟩ = some (.pointer (some ⟨c,0,none⟩)))) (by kernel_rfl) ?_ (fun hHeld=>?_)
 ·(try dsimp only);exact md_S I
 refine zO 0 (.fieldAddr 105 (.tmp 0) 0) 0 ?_
 refine zO 1 (.load 78 (.tmp 4)) 78 ?_
 refine zO 3 (.fieldAddr 105 (.tmp 0) 0) 0 ?_
 refine zO 4 (.load 78 (.tmp 7)) 78 ?_
 refine zO 6 (.fieldAddr 105 (.tmp 0) 0) 0 ?_
 refine zO 7 (.load 78 (.tmp 10)) 78 ?_
 refine zO 9 (.fieldAddr 105 (.tmp 0) 0) 0 ?_
 refine zO 10 (.load 78 (.tmp 13)) 78 ?_
 refine zR 2 (fun K2 hK2=>?_)
 refine ClW.take_callb 2 35 #[.pointer (some ⟨c,0,none⟩)] (Op.call { callee:=Callee.value (Operand.func 35),args:=#[Operand.tmp 5],argTypes:=#[78] }) 3 rfl rfl rfl (by kernel_rfl) (ClW.exec_call1 _ hcNum 5 _ _ _ _ _ _ _ rfl) ?_
 refine (num_b c b 0 _ (md_G I) hs).mono ?_
 rintro e w2 (⟨v1,q1,rfl,h1,hL⟩ | ⟨v,qq,er,rfl,hx,her,hL⟩)
 rotate_left
 ·refine .inr ⟨_,rfl,?_⟩
  try simp only [Exit.then,Exit.inBlock]
  exact ⟨rfl,MdEnd.no (takeM_a (by show numsV b 4 ((0:Nat):Int) = _;rw [numsV_no hx her]) her) her (md_left I hL)⟩
 replace I:=md_left I hL
 refine .inl ⟨_,rfl,?_⟩
 refine hK2.out _ _ ?su3x2 (fun hHeld=>?ru3x2)
 case su3x2=>((try dsimp only);exact md_S I)
 try simp only [zSa,zSb,zSc]
 refine zR 5 (fun K5 hK5=>?_)
 refine ClW.take_callb 5 35 #[.pointer (some ⟨c,0,none⟩)] (Op.call { callee:=Callee.value (Operand.func 35),args:=#[Operand.tmp 8],argTypes:=#[78] }) 3 rfl rfl rfl (by kernel_rfl) (ClW.exec_call1 _ hcNum 8 _ _ _ _ _ _ _ rfl) ?_
 refine (num_b c b q1 _ (md_G I) hs).mono ?_
 rintro e w5 (⟨v2,q2,rfl,h2,hL⟩ | ⟨v,qq,er,rfl,hx,her,hL⟩)
 rotate_left
 ·refine .inr ⟨_,rfl,?_⟩
  try simp only [Exit.then,Exit.inBlock]
  exact ⟨rfl,MdEnd.no (takeM_a (by show numsV b 4 ((0:Nat):Int) = _;rw [numsV_yes h1,numsV_no hx her]) her) her (md_left I hL)⟩
 replace I:=md_left I hL
 refine .inl ⟨_,rfl,?_⟩
 refine hK5.out _ _ ?su3x5 (fun hHeld=>?ru3x5)
 case su3x5=>((try dsimp only);exact md_S I)
 try simp only [zSa,zSb,zSc]
 refine zR 8 (fun K8 hK8=>?_)
 refine ClW.take_callb 8 35 #[.pointer (some ⟨c,0,none⟩)] (Op.call { callee:=Callee.value (Operand.func 35),args:=#[Operand.tmp 11],argTypes:=#[78] }) 3 rfl rfl rfl (by kernel_rfl) (ClW.exec_call1 _ hcNum 11 _ _ _ _ _ _ _ rfl) ?_
 refine (num_b c b q2 _ (md_G I) hs).mono ?_
 rintro e w8 (⟨v3,q3,rfl,h3,hL⟩ | ⟨v,qq,er,rfl,hx,her,hL⟩)
 rotate_left
 ·refine .inr ⟨_,rfl,?_⟩
  try simp only [Exit.then,Exit.inBlock]
  exact ⟨rfl,MdEnd.no (takeM_a (by show numsV b 4 ((0:Nat):Int) = _;rw [numsV_yes h1,numsV_yes h2,numsV_no hx her]) her) her (md_left I hL)⟩
 replace I:=md_left I hL
 refine .inl ⟨_,rfl,?_⟩
 refine hK8.out _ _ ?su3x8 (fun hHeld=>?ru3x8)
 case su3x8=>((try dsimp only);exact md_S I)
 try simp only [zSa,zSb,zSc]
 refine zR 11 (fun K11 hK11=>?_)
 refine ClW.take_callb 11 35 #[.pointer (some ⟨c,0,none⟩)] (Op.call { callee:=Callee.value (Operand.func 35),args:=#[Operand.tmp 14],argTypes:=#[78] }) 3 rfl rfl rfl (by kernel_rfl) (ClW.exec_call1 _ hcNum 14 _ _ _ _ _ _ _ rfl) ?_
 refine (num_b c b q3 _ (md_G I) hs).mono ?_
 rintro e w11 (⟨v4,q4,rfl,h4,hL⟩ | ⟨v,qq,er,rfl,hx,her,hL⟩)
 rotate_left
 ·refine .inr ⟨_,rfl,?_⟩
  try simp only [Exit.then,Exit.inBlock]
  exact ⟨rfl,MdEnd.no (takeM_a (by show numsV b 4 ((0:Nat):Int) = _;rw [numsV_yes h1,numsV_yes h2,numsV_yes h3,numsV_no hx her]) her) her (md_left I hL)⟩
 replace I:=md_left I hL
 refine .inl ⟨_,rfl,?_⟩
 refine hK11.out _ _ ?su3x11 (fun hHeld=>?ru3x11)
 case su3x11=>((try dsimp only);exact md_S I)
 try simp only [zSa,zSb,zSc]
 refine zO 12 (.build 49 #[(0,.tmp 6),(1,.tmp 9),(2,.tmp 12),(3,.tmp 15)]) 49 ?_
 refine zR 13 (fun K13 hK13=>?_)
 refine take_store 13 (Op.store 49 (Operand.tmp 1) (Operand.tmp 16)) 0 rfl rfl rfl (by kernel_rfl) (w':=((((w11.setCell ⟨c + 2,0,none⟩ (.int .i64 v1)).setCell ⟨c + 2,1,none⟩ (.int .i64 v2)).setCell ⟨c + 2,2,none⟩ (.int .i64 v3)).setCell ⟨c + 2,3,none⟩ (.int .i64 v4)).setCell ⟨c + 2,4,none⟩ (.slice none 0 0)) (by have bM:=md_M I;have f0:=bM.frozen 0;have f1:=bM.frozen 1;have f2:=bM.frozen 2;have f3:=bM.frozen 3;have f4:=bM.frozen 4;have lM:=bM.lt;obtain ⟨k0,k1,k2,k3,k4⟩:=blk5 bM;go_simp;try (with_reducible rfl)) ?_
 refine hK13.out _ _ (md_S (md_sets (A2:=none) (n2:=0) (c2:=0) I ⟨v1,v2,v3,v4,[]⟩)) (fun hHeld=>?_)
 replace I:=md_sets (A2:=none) (n2:=0) (c2:=0) I ⟨v1,v2,v3,v4,[]⟩
 generalize (((((w11.setCell ⟨c + 2,0,none⟩ (.int .i64 v1)).setCell ⟨c + 2,1,none⟩ (.int .i64 v2)).setCell ⟨c + 2,2,none⟩ (.int .i64 v3)).setCell ⟨c + 2,3,none⟩ (.int .i64 v4)).setCell ⟨c + 2,4,none⟩ (.slice none 0 0)) = wq at *
 refine wpAnyH_done (by kernel_rfl) ?_ _
 clear hHeld
 have HN4:Hid (numsV b 4 0 = ([v1,v2,v3,v4],((q4:Nat):Int),0)):=Lib.hid (by
  show numsV b 4 ((0:Nat):Int) = _
  rw [numsV_yes h1,numsV_yes h2,numsV_yes h3,numsV_yes h4];rfl)
 clear h1 h2 h3 h4
 go_upto_region 1 with fail
 replace I:=I.drew
 refine wp_region_held_drew (S:=(fun w'=>w'.cell? ⟨c + 1,0,none⟩ = some (.pointer (some ⟨c,0,none⟩)))) (by kernel_rfl) ?_ (fun hHeld=>?_)
 ·(try dsimp only);exact md_S I
 refine zO 0 (.fieldAddr 105 (.tmp 0) 0) 0 ?_
 refine zO 1 (.load 78 (.tmp 17)) 78 ?_
 refine zO 3 (.fieldAddr 105 (.tmp 0) 0) 0 ?_
 refine zO 4 (.load 78 (.tmp 20)) 78 ?_
 refine zR 2 (fun K2 hK2=>?_)
 refine ClW.take_callb 2 54 #[.pointer (some ⟨c,0,none⟩)] (Op.call { callee:=Callee.value (Operand.func 54),args:=#[Operand.tmp 18],argTypes:=#[78] }) 3 rfl rfl rfl (by kernel_rfl) (ClW.exec_call1 _ hcAt 18 _ _ _ _ _ _ _ rfl) ?_
 refine (at_b c b q4 _ (md_G I)).mono ?_
 rintro e w2 (⟨rfl,rfl⟩ | ⟨rfl,hf⟩)
 rotate_left
 ·refine .inr ⟨_,rfl,?_⟩
  exact hf.elim
 refine .inl ⟨_,rfl,?_⟩
 refine hK2.out _ _ ?su2t3x2 (fun hHeld=>?ru2t3x2)
 case su2t3x2=>((try dsimp only);exact md_S I)
 try simp only [zSa,zSb,zSc]
 refine zR 5 (fun K5 hK5=>?_)
 refine ClW.take_callb 5 35 #[.pointer (some ⟨c,0,none⟩)] (Op.call { callee:=Callee.value (Operand.func 35),args:=#[Operand.tmp 21],argTypes:=#[78] }) 3 rfl rfl rfl (by kernel_rfl) (ClW.exec_call1 _ hcNum 21 _ _ _ _ _ _ _ rfl) ?_
 refine (num_b c b q4 _ (md_G I) hs).mono ?_
 rintro e w5 (⟨vn,q5,rfl,h5,hL⟩ | ⟨v,qq,er,rfl,hx,her,hL⟩)
 rotate_left
 ·refine .inr ⟨_,rfl,?_⟩
  try simp only [Exit.then,Exit.inBlock]
  exact ⟨rfl,MdEnd.no (takeM_b HN4.out hx her) her (md_left I hL)⟩
 replace I:=md_left I hL
 refine .inl ⟨_,rfl,?_⟩
 refine hK5.out _ _ ?su2t3x5 (fun hHeld=>?ru2t3x5)
 case su2t3x5=>((try dsimp only);exact md_S I)
 try simp only [zSa,zSb,zSc]
 refine zO 6 (.assign (.tmp 19)) 3 ?_
 refine zO 7 (.assign (.tmp 22)) 3 ?_
 refine wpAnyH_done (by kernel_rfl) ?_ _
 by_cases hbig:100 < vn
 ·have HE:=Lib.hid (takeM_c HN4.out h5 hbig)
  clear h5 HN4
  go_wp2_with fail
  simp [bodyPost]
  exact MdEnd.no HE.out (by decide) I
 ·have hv0:0≤vn:=by
   have:=(getV_ok (s:=b) (a:=(q4:Nat)) (by rw [h5])).2.2.2.1
   rw [h5] at this
   exact this
  obtain ⟨N,rfl⟩:=Int.eq_ofNat_of_zero_le hv0
  have hN:N≤100:=by omega
  have HT:=Lib.hid (takeM_d HN4.out h5 hN)
  have HQ0:Hid (q5≤b.length):=Lib.hid (by
   have:=(getV_ok (s:=b) (a:=(q4:Nat)) (by rw [h5])).2.2.1
   rw [h5] at this
   dsimp only at this
   omega)
  have hI:¬ (100:Int) < (N:Int):=by omega
  have HM0:Hid (takeM b = endE b [v1,v2,v3,v4] (([]:List En) ++ (entsV b (N - 0) (q5:Nat)).1,(entsV b (N - 0) (q5:Nat)).2)):=Lib.hid (by rw [HT.out];rfl)
  obtain ⟨M,hM⟩:∃ M:Mn,(⟨v1,v2,v3,v4,[]⟩:Mn) = M:=⟨_,rfl⟩
  rw [hM] at I
  have HMV:Hid (∀ es,mnOf [v1,v2,v3,v4] es = ⟨M.gen,M.next,M.now,M.floor,es⟩):=Lib.hid (fun es=>by rw [← hM];rfl)
  clear HT h5 HN4 hbig hM hv0
  go_wp2_with fail
  go_loopw [29] (fun iv wr=>∃ (k q:Nat) (A:Option Addr) (c':Nat) (acc:List En),iv = .int .i64 k∧k≤N∧Hid (q≤b.length)∧Hid (takeM b = endE b [v1,v2,v3,v4] (acc ++ (entsV b (N - k) (q:Nat)).1,(entsV b (N - k) (q:Nat)).2))∧Cl w wr c (mdL c b (q:Nat) M A k c')∧Own wr w.heap.size 107 9 A k c' (ecells acc)) (fun iv _=>N - (intOf iv).toNat)
  case atStart=>exact ⟨0,q5,none,0,[],rfl,by omega,HQ0,HM0,I,Own.nil _ _ _ _⟩
  case round =>
   clear I HM0 HQ0
   obtain ⟨k,q,A,c',acc,rfl,hk,HQ,HM,I,own⟩:=hrel
   by_cases hlt:k < N
   ·have hkI:(k:Int) < (N:Int):=by omega
    have hk0:(0:Int)≤(k:Int):=by omega
    have hk1:IntKind.i64.wrap ((k:Int) + 1) = (k:Int) + 1:=w64s (by omega) (by omega)
    obtain ⟨m,hm⟩:∃ m,N - k = m + 1:=⟨N - k - 1,by omega⟩
    have HMM:=Lib.hid hm
    have HNO:Hid (∀ er p l,entV b (q:Nat) = (l,p,er) → er ≠ 0 → takeM b = (mnZ,er)):=Lib.hid (by
     intro er p l h1 h2
     rw [HM.out,hm,entsV_no h1 h2]
     exact if_neg h2)
    have HYE:Hid (∀ l (q':Nat),entV b (q:Nat) = (l,((q':Nat):Int),0) → takeM b = endE b [v1,v2,v3,v4] ((acc ++ [enOf l]) ++ (entsV b (N - (k + 1)) (q':Nat)).1,(entsV b (N - (k + 1)) (q':Nat)).2)):=Lib.hid (by
     intro l q' h1
     rw [HM.out,hm,entsV_yes h1,show N - (k + 1) = m by omega]
     simp)
    have HQL:Hid (∀ l (q':Nat),entV b (q:Nat) = (l,((q':Nat):Int),0) → q'≤b.length):=Lib.hid (by
     intro l q' h1
     have:=(entV_ok (b:=b) (p:=(q:Nat)) (by rw [h1]) (by omega) (by have:=HQ.out;omega)).2.1
     rw [h1] at this
     dsimp only at this
     omega)
    have zI0:=I.size
    clear hm HM
    go_upto_region 6 with fail
    refine wp_region_held_drew (S:=(fun w'=>w'.cell? ⟨c + 1,0,none⟩ = some (.pointer (some ⟨c,0,none⟩)))) (by kernel_rfl) ?_ (fun hHeld=>?_)
    ·replace own:=Own.drew own;replace I:=ClW.Cl.drew I;(try dsimp only);exact md_S I
    replace own:=Own.drew own
    replace I:=ClW.Cl.drew I
    refine zO 0 (.fieldAddr 49 (.tmp 1) 4) 0 ?_
    refine zO 2 (.load 105 (.tmp 0)) 105 ?_
    refine wpAnyH_ready (rs:=[1,3]) (by kernel_rfl) (by simp) (AllReadyH.cons rfl (fun K1 hK1=>?ku1t2x1) (AllReadyH.cons rfl (fun K3 hK3=>?ku1t2x3) AllReadyH.nil))
    case ku1t2x1 =>
     refine take_any 1 (Op.load 47 (Operand.tmp 31)) 47 rfl rfl rfl (by kernel_rfl) (v:=.slice A k c') (by have cM:=(md_M I).cell_ 4 rfl;go_simp;try (with_reducible rfl)) ?_
     refine hK1.out _ _ ?su1t2xb1x1 (fun hHeld=>?ru1t2xb1x1)
     case su1t2xb1x1=>((try dsimp only);exact md_S I)
     try simp only [zSa,zSb,zSc]
     refine zR 3 (fun K3 hK3=>?_)
     refine ClW.take_callb 3 55 #[.agg #[.pointer (some ⟨c,0,none⟩)]] (Op.call { callee:=Callee.value (Operand.func 55),args:=#[Operand.tmp 33],argTypes:=#[105] }) 107 rfl rfl rfl (by kernel_rfl) (ClW.exec_call1 _ hcEnt 33 _ _ _ _ _ _ _ rfl) ?_
     refine (entry_any c b q _ (md_G I) hs).mono ?_
     rintro e w3 (⟨l,q',rfl,h1,hL⟩ | ⟨l,z,er,at_,q',rfl,hx,her,hL⟩)
     rotate_left
     ·refine .inr ⟨_,rfl,?_⟩
      try simp only [Exit.then,Exit.inBlock]
      exact ⟨rfl,MdEnd.no (HNO.out er _ _ hx her) her (md_left I hL)⟩
     have zL:=hL.2.size
     try simp only [World.size_drew] at zL
     replace own:=own_left own hL (by omega)
     replace I:=md_left I hL
     have zI:=I.size
     refine .inl ⟨_,rfl,?_⟩
     refine hK3.out _ _ ?su1t2xb1x3 (fun hHeld=>?ru1t2xb1x3)
     case su1t2xb1x3=>((try dsimp only);exact md_S I)
     try simp only [zSa,zSb,zSc]
     refine zR 4 (fun K4 hK4=>?_)
     refine take_build (e:=107) (len:=1) (size:=9) (w.heap.size) (ecells [enOf l]) 4 (Op.buildSlice 47 1 #[(0,Operand.tmp 34)]) 47 rfl rfl rfl (by kernel_rfl) ?eu1t2xb1x4 (by rfl) (by decide) (by first | exact Nat.le_refl _ | (simp only [World.size_alloc,World.size_setCell,World.size_drew] at *;omega) | omega) ?_
     case eu1t2xb1x4=>(go_simp;try (first | with_reducible rfl | (simp [rcells,rcell];done) | (simp [fcells];done) | (simp [tcells];done) | rfl))
     intro gx4 w4 o4 gr4 l4 m4
     have z4:=gr4.size
     try simp only [World.size_drew] at z4
     replace own:=Own.grow0 own gr4
     replace I:=ClW.Cl.grow0 I gr4
     refine hK4.out _ _ ?su1t2xb1x4 (fun hHeld=>?ru1t2xb1x4)
     case su1t2xb1x4=>((try dsimp only);exact md_S I)
     try simp only [zSa,zSb,zSc]
     refine zR 5 (fun K5 hK5=>?_)
     refine take_app El_ent 5 (Operand.tmp 32) (Operand.tmp 35) 47 rfl rfl rfl (by kernel_rfl) own rfl (o4.rd) rfl (ecells_one _) (by unfold maxLen;omega) (by omega) (by first | exact Nat.le_refl _ | (simp only [World.size_alloc,World.size_setCell,World.size_drew] at *;omega) | omega) ?_
     intro A5 c5 w5 o5 gr5 at5
     have z5:=gr5.size
     try simp only [World.size_drew] at z5
     replace I:=ClW.Cl.grown I gr5 (fun k e=>(own.blk k e).1)
     refine hK5.out _ _ ?su1t2xb1x5 (fun hHeld=>?ru1t2xb1x5)
     case su1t2xb1x5=>((try dsimp only);exact md_S I)
     try simp only [zSa,zSb,zSc]
     refine zO 6 (.fieldAddr 49 (.tmp 1) 4) 0 ?_
     refine zR 7 (fun K7 hK7=>?_)
     refine take_store 7 (Op.store 47 (Operand.tmp 37) (Operand.tmp 36)) 0 rfl rfl rfl (by kernel_rfl) (w':=w5.setCell ⟨c + 2,4,none⟩ (.slice A5 (k + 1) c5)) (by have bM:=md_M I;have f4:=bM.frozen 4;have lM:=bM.lt;have k4:=bM.cell_ 4 rfl;go_simp;try (with_reducible rfl)) ?_
     refine hK7.out _ _ (md_S (md_set (A2:=A5) (n2:=k + 1) (c2:=c5) I)) (fun hHeld=>?_)
     have hne:blkOf A5 ≠ some (c + 2):=(fun e=>by have:=(o5.blk _ e).1;omega)
     replace o5:=o5.far (p:=⟨c + 2,4,none⟩) hne (.slice A5 (k + 1) c5)
     replace I:=md_set (A2:=A5) (n2:=k + 1) (c2:=c5) I
     generalize (w5.setCell ⟨c + 2,4,none⟩ (.slice A5 (k + 1) c5)) = wq at *
     refine wpAnyH_done (by kernel_rfl) ?_ _
     have HM2:=Lib.hid (HYE.out l q' h1)
     have HQ2:=Lib.hid (HQL.out l q' h1)
     have o6:Own wq w.heap.size 107 9 A5 (k + 1) c5 (ecells (acc ++ [enOf l])):=by rw [show ecells (acc ++ [enOf l]) = ecells acc ++ ecells [enOf l] by simp [ecells]];exact o5
     clear HYE HQL HNO h1 o5
     go_wp2_with fail
     go_roundw
     case rel=>exact ⟨k + 1,q',A5,c5,_,by go_num,by omega,HQ2,HM2,I,o6⟩
     case measure=>simp [intOf];omega
    case ku1t2x3 =>
     refine ClW.take_callb 3 55 #[.agg #[.pointer (some ⟨c,0,none⟩)]] (Op.call { callee:=Callee.value (Operand.func 55),args:=#[Operand.tmp 33],argTypes:=#[105] }) 107 rfl rfl rfl (by kernel_rfl) (ClW.exec_call1 _ hcEnt 33 _ _ _ _ _ _ _ rfl) ?_
     refine (entry_any c b q _ (md_G I) hs).mono ?_
     rintro e w3 (⟨l,q',rfl,h1,hL⟩ | ⟨l,z,er,at_,q',rfl,hx,her,hL⟩)
     rotate_left
     ·refine .inr ⟨_,rfl,?_⟩
      try simp only [Exit.then,Exit.inBlock]
      exact ⟨rfl,MdEnd.no (HNO.out er _ _ hx her) her (md_left I hL)⟩
     have zL:=hL.2.size
     try simp only [World.size_drew] at zL
     replace own:=own_left own hL (by omega)
     replace I:=md_left I hL
     have zI:=I.size
     refine .inl ⟨_,rfl,?_⟩
     refine hK3.out _ _ ?su1t2xb6x3 (fun hHeld=>?ru1t2xb6x3)
     case su1t2xb6x3=>((try dsimp only);exact md_S I)
     try simp only [zSa,zSb,zSc]
     refine wpAnyH_ready (rs:=[1,4]) (by kernel_rfl) (by simp) (AllReadyH.cons rfl (fun K1 hK1=>?ku1t2xb6x1) (AllReadyH.cons rfl (fun K4 hK4=>?ku1t2xb6x4) AllReadyH.nil))
     case ku1t2xb6x1 =>
      refine take_any 1 (Op.load 47 (Operand.tmp 31)) 47 rfl rfl rfl (by kernel_rfl) (v:=.slice A k c') (by have cM:=(md_M I).cell_ 4 rfl;go_simp;try (with_reducible rfl)) ?_
      refine hK1.out _ _ ?su1t2xb6xb7x1 (fun hHeld=>?ru1t2xb6xb7x1)
      case su1t2xb6xb7x1=>((try dsimp only);exact md_S I)
      try simp only [zSa,zSb,zSc]
      refine zR 4 (fun K4 hK4=>?_)
      refine take_build (e:=107) (len:=1) (size:=9) (w.heap.size) (ecells [enOf l]) 4 (Op.buildSlice 47 1 #[(0,Operand.tmp 34)]) 47 rfl rfl rfl (by kernel_rfl) ?eu1t2xb6xb7x4 (by rfl) (by decide) (by first | exact Nat.le_refl _ | (simp only [World.size_alloc,World.size_setCell,World.size_drew] at *;omega) | omega) ?_
      case eu1t2xb6xb7x4=>(go_simp;try (first | with_reducible rfl | (simp [rcells,rcell];done) | (simp [fcells];done) | (simp [tcells];done) | rfl))
      intro gx4 w4 o4 gr4 l4 m4
      have z4:=gr4.size
      try simp only [World.size_drew] at z4
      replace own:=Own.grow0 own gr4
      replace I:=ClW.Cl.grow0 I gr4
      refine hK4.out _ _ ?su1t2xb6xb7x4 (fun hHeld=>?ru1t2xb6xb7x4)
      case su1t2xb6xb7x4=>((try dsimp only);exact md_S I)
      try simp only [zSa,zSb,zSc]
      refine zR 5 (fun K5 hK5=>?_)
      refine take_app El_ent 5 (Operand.tmp 32) (Operand.tmp 35) 47 rfl rfl rfl (by kernel_rfl) own rfl (o4.rd) rfl (ecells_one _) (by unfold maxLen;omega) (by omega) (by first | exact Nat.le_refl _ | (simp only [World.size_alloc,World.size_setCell,World.size_drew] at *;omega) | omega) ?_
      intro A5 c5 w5 o5 gr5 at5
      have z5:=gr5.size
      try simp only [World.size_drew] at z5
      replace I:=ClW.Cl.grown I gr5 (fun k e=>(own.blk k e).1)
      refine hK5.out _ _ ?su1t2xb6xb7x5 (fun hHeld=>?ru1t2xb6xb7x5)
      case su1t2xb6xb7x5=>((try dsimp only);exact md_S I)
      try simp only [zSa,zSb,zSc]
      refine zO 6 (.fieldAddr 49 (.tmp 1) 4) 0 ?_
      refine zR 7 (fun K7 hK7=>?_)
      refine take_store 7 (Op.store 47 (Operand.tmp 37) (Operand.tmp 36)) 0 rfl rfl rfl (by kernel_rfl) (w':=w5.setCell ⟨c + 2,4,none⟩ (.slice A5 (k + 1) c5)) (by have bM:=md_M I;have f4:=bM.frozen 4;have lM:=bM.lt;have k4:=bM.cell_ 4 rfl;go_simp;try (with_reducible rfl)) ?_
      refine hK7.out _ _ (md_S (md_set (A2:=A5) (n2:=k + 1) (c2:=c5) I)) (fun hHeld=>?_)
      have hne:blkOf A5 ≠ some (c + 2):=(fun e=>by have:=(o5.blk _ e).1;omega)
      replace o5:=o5.far (p:=⟨c + 2,4,none⟩) hne (.slice A5 (k + 1) c5)
      replace I:=md_set (A2:=A5) (n2:=k + 1) (c2:=c5) I
      generalize (w5.setCell ⟨c + 2,4,none⟩ (.slice A5 (k + 1) c5)) = wq at *
      refine wpAnyH_done (by kernel_rfl) ?_ _
      have HM2:=Lib.hid (HYE.out l q' h1)
      have HQ2:=Lib.hid (HQL.out l q' h1)
      have o6:Own wq w.heap.size 107 9 A5 (k + 1) c5 (ecells (acc ++ [enOf l])):=by rw [show ecells (acc ++ [enOf l]) = ecells acc ++ ecells [enOf l] by simp [ecells]];exact o5
      clear HYE HQL HNO h1 o5
      go_wp2_with fail
      go_roundw
      case rel=>exact ⟨k + 1,q',A5,c5,_,by go_num,by omega,HQ2,HM2,I,o6⟩
      case measure=>simp [intOf];omega
     case ku1t2xb6x4 =>
      refine take_build (e:=107) (len:=1) (size:=9) (w.heap.size) (ecells [enOf l]) 4 (Op.buildSlice 47 1 #[(0,Operand.tmp 34)]) 47 rfl rfl rfl (by kernel_rfl) ?eu1t2xb6xb11x4 (by rfl) (by decide) (by first | exact Nat.le_refl _ | (simp only [World.size_alloc,World.size_setCell,World.size_drew] at *;omega) | omega) ?_
      case eu1t2xb6xb11x4=>(go_simp;try (first | with_reducible rfl | (simp [rcells,rcell];done) | (simp [fcells];done) | (simp [tcells];done) | rfl))
      intro gx4 w4 o4 gr4 l4 m4
      have z4:=gr4.size
      try simp only [World.size_drew] at z4
      replace own:=Own.grow0 own gr4
      replace I:=ClW.Cl.grow0 I gr4
      refine hK4.out _ _ ?su1t2xb6xb11x4 (fun hHeld=>?ru1t2xb6xb11x4)
      case su1t2xb6xb11x4=>((try dsimp only);exact md_S I)
      try simp only [zSa,zSb,zSc]
      refine zR 1 (fun K1 hK1=>?_)
      refine take_any 1 (Op.load 47 (Operand.tmp 31)) 47 rfl rfl rfl (by kernel_rfl) (v:=.slice A k c') (by have cM:=(md_M I).cell_ 4 rfl;go_simp;try (with_reducible rfl)) ?_
      refine hK1.out _ _ ?su1t2xb6xb11x1 (fun hHeld=>?ru1t2xb6xb11x1)
      case su1t2xb6xb11x1=>((try dsimp only);exact md_S I)
      try simp only [zSa,zSb,zSc]
      refine zR 5 (fun K5 hK5=>?_)
      refine take_app El_ent 5 (Operand.tmp 32) (Operand.tmp 35) 47 rfl rfl rfl (by kernel_rfl) own rfl (o4.rd) rfl (ecells_one _) (by unfold maxLen;omega) (by omega) (by first | exact Nat.le_refl _ | (simp only [World.size_alloc,World.size_setCell,World.size_drew] at *;omega) | omega) ?_
      intro A5 c5 w5 o5 gr5 at5
      have z5:=gr5.size
      try simp only [World.size_drew] at z5
      replace I:=ClW.Cl.grown I gr5 (fun k e=>(own.blk k e).1)
      refine hK5.out _ _ ?su1t2xb6xb11x5 (fun hHeld=>?ru1t2xb6xb11x5)
      case su1t2xb6xb11x5=>((try dsimp only);exact md_S I)
      try simp only [zSa,zSb,zSc]
      refine zO 6 (.fieldAddr 49 (.tmp 1) 4) 0 ?_
      refine zR 7 (fun K7 hK7=>?_)
      refine take_store 7 (Op.store 47 (Operand.tmp 37) (Operand.tmp 36)) 0 rfl rfl rfl (by kernel_rfl) (w':=w5.setCell ⟨c + 2,4,none⟩ (.slice A5 (k + 1) c5)) (by have bM:=md_M I;have f4:=bM.frozen 4;have lM:=bM.lt;have k4:=bM.cell_ 4 rfl;go_simp;try (with_reducible rfl)) ?_
      refine hK7.out _ _ (md_S (md_set (A2:=A5) (n2:=k + 1) (c2:=c5) I)) (fun hHeld=>?_)
      have hne:blkOf A5 ≠ some (c + 2):=(fun e=>by have:=(o5.blk _ e).1;omega)
      replace o5:=o5.far (p:=⟨c + 2,4,none⟩) hne (.slice A5 (k + 1) c5)
      replace I:=md_set (A2:=A5) (n2:=k + 1) (c2:=c5) I
      generalize (w5.setCell ⟨c + 2,4,none⟩ (.slice A5 (k + 1) c5)) = wq at *
      refine wpAnyH_done (by kernel_rfl) ?_ _
      have HM2:=Lib.hid (HYE.out l q' h1)
      have HQ2:=Lib.hid (HQL.out l q' h1)
      have o6:Own wq w.heap.size 107 9 A5 (k + 1) c5 (ecells (acc ++ [enOf l])):=by rw [show ecells (acc ++ [enOf l]) = ecells acc ++ ecells [enOf l] by simp [ecells]];exact o5
      clear HYE HQL HNO h1 o5
      go_wp2_with fail
      go_roundw
      case rel=>exact ⟨k + 1,q',A5,c5,_,by go_num,by omega,HQ2,HM2,I,o6⟩
      case measure=>simp [intOf];omega
   ·have hkN:N - k = 0:=by omega
    have hkI:¬ (k:Int) < (N:Int):=by omega
    have hM:=HM.out
    rw [hkN] at hM
    have hM2:takeM b = endE b [v1,v2,v3,v4] (acc,((q:Nat):Int),0):=by
     rw [hM]
     simp [entsV]
    have cT:=md_S I
    clear hkN hM HM
    by_cases hq:q = b.length
    ·have HE:Hid (takeM b = (⟨M.gen,M.next,M.now,M.floor,acc⟩,0)):=Lib.hid (by rw [hM2];unfold endE;rw [if_pos rfl,if_pos (by rw [hq]),HMV.out])
     have C:=end_yes c b q wr (md_G I) (by omega) (by omega) (by omega)
     clear hM2 hq HQ
     go_wp2_with fail
     refine C.mono ?_
     rintro e w9 ⟨rfl,hL⟩
     replace own:=own_left own hL (by omega)
     replace I:=md_left I hL
     clear hL cT C
     go_wp2_with fail
     refine bodyPost_ret (results_none rfl _ _ _) rfl ?_
     refine Or.inl ⟨by rw [HE.out],rfl,((q:Nat):Int),A,k,c',?_,?_⟩
     ·rw [HE.out];exact I
     ·rw [HE.out];exact own
    ·have HE:Hid (takeM b = (mnZ,6)):=Lib.hid (by rw [hM2];unfold endE;rw [if_pos rfl,if_neg (by dsimp only;omega)])
     have C:=end_bad c b q wr (md_G I) (by have:=HQ.out;omega) (by omega)
     clear hM2 hq HQ
     go_wp2_with fail
     refine C.mono ?_
     rintro e w9 ⟨rfl,hL⟩
     replace I:=md_left I hL
     clear hL cT C
     go_wp2_with fail
     simp [bodyPost]
     exact MdEnd.no HE.out (by decide) I
end ManW
end Go.Proofs.YtnpncpoiiikafaaGreat
