/- LenC -/
import Derived.Test.YtnpncpoiiikafaaGreatLenBQt
import Derived.Laws.EntriesVeiled
import Derived.BigQuiet
import Derived.Deep.CutRange
import Derived.Deep.DeepCutAuto
import Derived.WalkMore
import Derived.ScopeJumps
import Derived.Deep.LoopGhost
import Derived.Test.YtnpncpoiiikafaaGreatMemQt
set_option linter.unusedVariables false
set_option linter.unusedSimpArgs false
set_option linter.unnecessarySimpa false
set_option maxRecDepth 100000
set_option maxHeartbeats 32000000
namespace Go.Proofs.YtnpncpoiiikafaaGreat
open Go.RowKit
namespace LenW
def cmpV (x y:Int):Int:=if x < y then -1 else if y < x then 1 else 0
theorem nan_any (x:Int) (w:World):Calls Tryz.prog 211 #[.int .i64 x] w fun e w'=>e = .returned (.bool false)∧w' = w:=by
 have h:(x != x) = false:=by simp
 go_enter Tryz.func211,Tryz.ntmps211
 go_wp2_with fail
 go_ret
 exact ⟨rfl,rfl⟩
theorem compare_any (x y:Int) (w:World) (v:Int) (hv:cmpV x y = v):Calls Tryz.prog 208 #[.int .i64 x,.int .i64 y] w fun e w'=>e = .returned (.int .i64 v)∧w' = w:=by
 have C1:=nan_any x w
 have C2:=nan_any y w
 have hc:x < y ∨ (¬ x < y∧x > y) ∨ (¬ x < y∧¬ x > y):=by omega
 unfold cmpV at hv
 rcases hc with h1 | ⟨h1,h2⟩ | ⟨h1,h2⟩
 ·rw [if_pos h1] at hv;subst hv
  go_enter Tryz.func208,Tryz.ntmps208
  go_wp2_with fail
  refine C1.mono ?_
  rintro e w1 ⟨rfl,rfl⟩
  go_wp2_with fail
  refine C2.mono ?_
  rintro e w2 ⟨rfl,rfl⟩
  go_wp2_with fail
  go_ret
  exact ⟨rfl,rfl⟩
 ·rw [if_neg h1,if_pos h2] at hv;subst hv
  go_enter Tryz.func208,Tryz.ntmps208
  go_wp2_with fail
  refine C1.mono ?_
  rintro e w1 ⟨rfl,rfl⟩
  go_wp2_with fail
  refine C2.mono ?_
  rintro e w2 ⟨rfl,rfl⟩
  go_wp2_with fail
  go_ret
  exact ⟨rfl,rfl⟩
 ·rw [if_neg h1,if_neg (by omega)] at hv;subst hv
  go_enter Tryz.func208,Tryz.ntmps208
  go_wp2_with fail
  refine C1.mono ?_
  rintro e w1 ⟨rfl,rfl⟩
  go_wp2_with fail
  refine C2.mono ?_
  rintro e w2 ⟨rfl,rfl⟩
  go_wp2_with fail
  go_ret
  exact ⟨rfl,rfl⟩
theorem against_any (a s b t:Int) (w:World) (v:Int) (hv:cmpV a b = v):Calls Tryz.prog 200 #[.agg #[.int .i64 a,.int .i64 s],.agg #[.int .i64 b,.int .i64 t]] w fun e w'=>e = .returned (.int .i64 v)∧Below w.heap.size w w':=by
 have C:=fun w=>compare_any a b w v hv
 have b1:=(Blk.new w 262 #[.int .i64 a,.int .i64 s]).alloc (.cells #[.int .i64 b,.int .i64 t] 262)
 have b2:=Blk.new (w.alloc (.cells #[.int .i64 a,.int .i64 s] 262)) 262 #[.int .i64 b,.int .i64 t]
 rw [World.size_alloc] at b2
 obtain ⟨c0,c1,_,_,_⟩:=blk2 b1
 obtain ⟨d0,d1,_,_,_⟩:=blk2 b2
 clear hv
 go_enter Tryz.func200,Tryz.ntmps200
 go_wp2_with fail
 refine (C _).mono ?_
 rintro e w1 ⟨rfl,rfl⟩
 go_wp2_with fail
 go_ret
 exact ⟨rfl,((Below.refl _ w).alloc (Nat.le_refl _) _).alloc (by simp) _⟩
theorem take_callv {P:Program} {ops:Array Oper} {tmps:Array Value} {defers:_} {w:World} {Q:Exit → Act → World → Prop} (i:Nat) (f:FuncId) (x:Nat) (xs:List Operand) (ats:Array TypeId) {oi:Oper} {d:Nat} (hd:oi.dst = some d)
 (hop:oi.op = .call { callee:=.value (.tmp x),args:=xs.toArray,argTypes:=ats }) (hg:Region.wanted oi (yielded ops tmps) = true) (hx:(Act.mk tmps defers).eval (.tmp x) = .func (.func f) #[] #[]) (hc:∀ args w,(callFunc f args).run P w = .ok (.enter f args) w) {K':Act → World → Prop}
 (h:Calls P f (xs.map (Act.mk tmps defers).eval).toArray w fun e w'=>∃ v,e = .returned v∧K' ⟨tmps.setIfInBounds d v,defers⟩ w') {E:Prop} :
 if Region.wanted oi (yielded ops tmps) = true then Oper.wp P oi ⟨tmps,defers⟩ w K' Q else E:=by
 rw [if_pos hg]
 unfold Oper.wp
 have e:execOp (Act.mk tmps defers).eval oi = callFunc f (xs.map (Act.mk tmps defers).eval).toArray:=by
  have e1 : execOp (Act.mk tmps defers).eval oi = execOp (Act.mk tmps defers).eval { dst := none, op := .call { callee := .value (.func f), args := xs.toArray, argTypes := ats }, type := oi.type, pos := "", after := #[], guard := none } := by
   rw [execOp_same _ oi { dst := none, op := .call { callee := .value (.tmp x), args := xs.toArray, argTypes := ats }, type := oi.type, pos := "", after := #[], guard := none } hop rfl]
   unfold execOp
   dsimp only
   unfold resolve
   dsimp only
   rw [hx]
   rfl
  rw [e1,execOp_call_go]
  simp
 rw [e,hc]
 refine h.mono ?_
 rintro e w' ⟨v,rfl,hn⟩
 show K' (Act.put _ oi.dst v) w'
 rw [hd]
 exact hn
end LenW
end Go.Proofs.YtnpncpoiiikafaaGreat
namespace Go.Proofs.YtnpncpoiiikafaaGreat
open Go.RowKit
namespace LenW
theorem own_has {w:World} {base e size g n c:Nat} {xs:List Value} (h:Own w base e size (some ⟨g,0,none⟩) n c xs) (j:Nat) (hj:j < xs.length):∃ v,w.cell? ⟨g,j,none⟩ = some v:=⟨_,own_cell h j (List.getElem?_eq_getElem hj)⟩
theorem fcells_app (a b:List (Int × Int)):fcells (a ++ b) = fcells a ++ fcells b:=by simp [fcells]
theorem fcells_two (A B:List (Int × Int)) (x y:Int × Int):(fcells (A ++ y :: x :: B))[A.length * 2]? = some (.int .i64 y.1)∧(fcells (A ++ y :: x :: B))[A.length * 2 + 1]? = some (.int .i64 y.2) ∧
 (fcells (A ++ y :: x :: B))[(A.length + 1) * 2]? = some (.int .i64 x.1)∧(fcells (A ++ y :: x :: B))[(A.length + 1) * 2 + 1]? = some (.int .i64 x.2):=by
 obtain ⟨h1,h2⟩:=fcells_get (A ++ y :: x :: B) A.length (by simp)
 obtain ⟨h3,h4⟩:=fcells_get (A ++ y :: x :: B) (A.length + 1) (by simp)
 rw [List.getElem_append_right (by omega)] at h1 h2 h3 h4
 simp only [Nat.sub_self,List.getElem_cons_zero,Nat.add_sub_cancel_left,List.getElem_cons_succ] at h1 h2 h3 h4
 exact ⟨h1,h2,h3,h4⟩
theorem fcells_swap (A B:List (Int × Int)) (x y:Int × Int):((((fcells (A ++ y :: x :: B)).set ((A.length + 1) * 2) (.int .i64 y.1)).set ((A.length + 1) * 2 + 1) (.int .i64 y.2)).set (A.length * 2) (.int .i64 x.1)).set (A.length * 2 + 1) (.int .i64 x.2) = fcells (A ++ x :: y :: B):=by
 have hl:(fcells A).length = A.length * 2:=fcells_len A
 rw [fcells_app,fcells_app]
 have e:∀ p q:Int × Int,fcells (p :: q :: B) = .int .i64 p.1 :: .int .i64 p.2 :: .int .i64 q.1 :: .int .i64 q.2 :: fcells B:=fun _ _=>rfl
 rw [e,e]
 rw [List.set_append_right _ _ (by omega),List.set_append_right _ _ (by omega),List.set_append_right _ _ (by omega),List.set_append_right _ _ (by omega),hl]
 rw [show (A.length + 1) * 2 - A.length * 2 = 2 by omega,show (A.length + 1) * 2 + 1 - A.length * 2 = 3 by omega,show A.length * 2 - A.length * 2 = 0 by omega,show A.length * 2 + 1 - A.length * 2 = 1 by omega]
 rfl
theorem ins_place (M:List (Int × Int)) (k:Nat) (hk:k < M.length) (A B:List (Int × Int)) (hQ:sortW (M.take k) = A ++ B) (hB:∀ b,B.head? = some b → M[k].1 < b.1) (hA:∀ y,A.getLast? = some y → y.1≤M[k].1):sortW (M.take (k + 1)) = A ++ M[k] :: B:=by
 rw [List.take_succ_eq_append_getElem hk,sortW_snoc,hQ]
 refine insW_split _ A B (fun a ha=>?_) hB
 have hup:=sortW_up (M.take k)
 rw [hQ] at hup
 unfold upW at hup
 have hupA:=(List.pairwise_append.1 hup).1
 obtain ⟨A',y,rfl⟩:∃ A' y,A = A' ++ [y]:=⟨A.dropLast,A.getLast (by intro e;subst e;simp at ha),(List.dropLast_concat_getLast _).symm⟩
 have hy:=hA y (by simp)
 rcases List.mem_append.1 ha with h | h
 ·have:=(List.pairwise_append.1 hupA).2.2 a h y (by simp)
  omega
 ·simp only [List.mem_singleton] at h
  subst h
  exact hy
theorem cmpV_lt (x y:Int):(cmpV x y < 0) ↔ x < y:=by
 unfold cmpV
 split
 ·simp_all
 ·split <;> simp_all
theorem cmpV_le (x y:Int):(cmpV x y≤0) ↔ x≤y:=by
 unfold cmpV
 split
 ·simp_all;omega
 ·split
  ·simp_all
  ·simp_all
theorem insSort_any (base:Nat) (A0:Option Addr) (n c:Nat) (P M T:List (Int × Int)) (w:World) (a b:Nat) (ha:P.length = a) (hb:b = a + M.length) (hn:P.length + M.length + T.length = n) (hn3:n≤1000)
 (ho:Own w base 262 2 A0 n c (fcells (P ++ M ++ T))) (hbs:base≤w.heap.size) :
 Calls Tryz.prog 209 #[.slice A0 n c,.int .i64 a,.int .i64 b,.func (.func 200) #[] #[]] w fun e w'=>e = .returned (.tuple #[])∧Own w' base 262 2 A0 n c (fcells (P ++ sortW M ++ T))∧Below base w w':=by
 have HBM:=Lib.hid hb
 have HA:=Lib.hid ha
 have HN:=Lib.hid hn
 have hab:a≤b:=by omega
 have hbn:b≤n:=by omega
 clear hb ha hn
 go_enter Tryz.func209,Tryz.ntmps209
 go_wp2_with fail
 go_loopw [8] (fun i wr=>∃ k:Nat,i = .int .i64 ((a + k:Nat):Int)∧1≤k∧(k≤M.length ∨ (M.length = 0∧k = 1))∧Own wr base 262 2 A0 n c (fcells (P ++ sortW (M.take k) ++ M.drop k ++ T))∧Below base w wr∧base≤wr.heap.size) (fun i _=>b - (intOf i).toNat)
 case atStart =>
  refine ⟨1,by go_num,by omega,by omega,?_,Below.refl _ _,hbs⟩
  have e:sortW (M.take 1) ++ M.drop 1 = M:=by
   cases M with
   | nil=>rfl
   | cons x M=>rfl
  rw [List.append_assoc P,e]
  exact ho
 case round =>
  obtain ⟨k,rfl,hk1,hkM,o1,hbw,hz⟩:=hrel
  clear ho
  have hNN:=HN.out
  have hBB1:b≤a + M.length:=Nat.le_of_eq HBM.out
  have hBB2:a + M.length≤b:=Nat.le_of_eq HBM.out.symm
  have hAA:=HA.out
  obtain ⟨q,hq⟩:∃ q,a + k = q:=⟨_,rfl⟩
  rw [hq]
  have HQQ:=Lib.hid hq
  have hq1:q≤a + k:=Nat.le_of_eq hq.symm
  have hq2:a + k≤q:=Nat.le_of_eq hq
  clear hq
  by_cases hlt:q < b
  ·have hkl:k < M.length:=by omega
   have HPL:=Lib.hid (fun A B=>ins_place M k hkl A B)
   obtain ⟨x,hx⟩:∃ x,M[k] = x:=⟨_,rfl⟩
   have HD:=Lib.hid (show M.drop k = x :: M.drop (k + 1) by rw [List.drop_eq_getElem_cons hkl,hx])
   rw [hx] at HPL
   have hQl:(sortW (M.take k)).length = k:=by rw [sortW_len,List.length_take];omega
   have hTl:(M.drop (k + 1)).length = M.length - (k + 1):=List.length_drop
   rw [HD.out] at o1
   clear hx
   obtain ⟨g,rfl⟩:∃ g,A0 = some ⟨g,0,none⟩:=by
    rcases o1.shape with ⟨_,h0,_⟩ | ⟨g,e,_⟩
    ·omega
    ·exact ⟨g,e⟩
   obtain ⟨D,hD⟩:∃ D,M.drop (k + 1) ++ T = D:=⟨_,rfl⟩
   have HDD:=Lib.hid hD
   have o1':Own wr base 262 2 (some ⟨g,0,none⟩) n c (fcells (P ++ (sortW (M.take k) ++ (x :: ([] ++ D))))):=by
    rw [← hD];simpa [List.append_assoc] using o1
   have hDl:D.length≤n:=by rw [← hD,List.length_append,hTl];omega
   have hg0:base≤g:=(o1'.blk g rfl).1
   clear o1 hD hTl
   have hltI:(q:Int) < (b:Int):=by omega
   go_wp2_with fail
   go_loopw [9] (fun j wr'=>∃ (A B:List (Int × Int)),j = .int .i64 ((a + A.length:Nat):Int)∧sortW (M.take k) = A ++ B∧(∀ b,B.head? = some b → x.1 < b.1)∧Own wr' base 262 2 (some ⟨g,0,none⟩) n c (fcells (P ++ (A ++ (x :: (B ++ D)))))∧Below base w wr'∧base≤wr'.heap.size) (fun j _=>(intOf j).toNat - a)
   case atStart=>exact ⟨sortW (M.take k),[],by rw [hQl,HQQ.out],by simp,fun b hb=>by simp at hb,o1',hbw,hz⟩
   case round =>
    clear o1' hbw hz
    obtain ⟨A,B,rfl,hQ,hB,o2,hb2,hz2⟩:=hrel
    have HQ:=Lib.hid hQ
    have HB':=Lib.hid hB
    have hQ2:A.length + B.length = k:=by rw [← hQl,hQ,List.length_append]
    clear hQ hB
    by_cases hA0:A = []
    ·subst hA0
     have HP:=Lib.hid (HPL.out [] B HQ.out HB'.out (fun y hy=>by simp at hy))
     have hgd:decide ((a:Int) < (a:Int)) = false:=by simp
     have HB:=hb2
     go_wp2_with fail
     refine wp_region_held_drew (S:=(fun _=>True)) (by kernel_rfl) ?_ (fun hHeld=>?_)
     ·replace HB:=Below.drew HB;replace o2:=Own.drew o2;(try dsimp only);try trivial
     replace HB:=Below.drew HB
     replace o2:=Own.drew o2
     have zHB:=HB.size
     refine zM 0 (.tmp 9) ?_
     refine zM 1 (.tmp 1) ?_
     refine zO 2 (.binOp .gtr 3 (.tmp 18) (.tmp 19) 3) 4 ?_
     refine zM 3 (.tmp 20) ?_
     refine zK 4 ?_
     refine zK 5 ?_
     refine zK 6 ?_
     refine zK 7 ?_
     refine zK 8 ?_
     refine zK 9 ?_
     refine zK 10 ?_
     refine zK 11 ?_
     refine zK 12 ?_
     refine zK 13 ?_
     refine zK 14 ?_
     refine zK 15 ?_
     refine zO 16 (.pick (.tmp 21) (.tmp 33) (.const (Value.bool false))) 4 ?_
     refine wpAnyH_done (by kernel_rfl) ?_ _
     clear hHeld
     go_wp2_with fail
     go_roundw
     case rel=>exact ⟨k + 1,by rw [show a + (k + 1) = q + 1 by omega];go_num,by omega,by omega,by rw [HP.out];simpa [List.append_assoc,← HDD.out] using o2,HB,by simpa using hz2⟩
     case measure=>simp [intOf];omega
    ·obtain ⟨A',y,rfl⟩:∃ A' y,A = A' ++ [y]:=⟨A.dropLast,A.getLast hA0,(List.dropLast_concat_getLast _).symm⟩
     clear hA0
     obtain ⟨q1,q2,q3,q4⟩:=fcells_two (P ++ A') (B ++ D) x y
     have eR:P ++ (A' ++ [y] ++ (x :: (B ++ D))) = (P ++ A') ++ y :: x :: (B ++ D):=by simp
     rw [eR] at o2
     obtain ⟨i,hi⟩:∃ i,(P ++ A').length = i:=⟨_,rfl⟩
     have hil:i = a + A'.length:=by rw [← hi,List.length_append,hAA]
     rw [hi] at q1 q2 q3 q4
     have Q1:=Lib.hid q1
     have Q2:=Lib.hid q2
     have Q3:=Lib.hid q3
     have Q4:=Lib.hid q4
     have SW:=fcells_swap (P ++ A') (B ++ D) x y
     rw [hi] at SW
     have SW2:((((fcells (P ++ A' ++ y :: x :: (B ++ D))).set (i * 2) (.int .i64 x.1)).set (i * 2 + 1) (.int .i64 x.2)).set ((i + 1) * 2) (.int .i64 y.1)).set ((i + 1) * 2 + 1) (.int .i64 y.2) = fcells (P ++ A' ++ x :: y :: (B ++ D)):=by
      rw [← SW,List.set_comm (i:=(i + 1) * 2 + 1) (j:=i * 2) _ _ (by omega),List.set_comm (i:=(i + 1) * 2) (j:=i * 2) _ _ (by omega),List.set_comm (i:=(i + 1) * 2 + 1) (j:=i * 2 + 1) _ _ (by omega),List.set_comm (i:=(i + 1) * 2) (j:=i * 2 + 1) _ _ (by omega)]
     replace SW:=Lib.hid SW
     replace SW2:=Lib.hid SW2
     have hj:(a + (A' ++ [y]).length:Nat) = i + 1:=by rw [hil];simp;omega
     rw [hj]
     have HIL:=Lib.hid hil
     have hin:i + 1 < n:=by rw [List.length_append] at hQ2;simp only [List.length_singleton] at hQ2;omega
     have hgt:((i + 1:Nat):Int) > (a:Int):=by omega
     have hgt2:(i:Int) + 1 > (a:Int):=by omega
     have hgd:decide ((a:Int) < (i:Int) + 1) = true:=by simp;omega
     have hi0:(0:Int)≤(i:Int):=by omega
     have hi1:(0:Int)≤(i:Int) + 1:=by omega
     have hi2:(i:Int) + 1 < (n:Int):=by omega
     have hi3:(i:Int) < (n:Int):=by omega
     have hsub:IntKind.i64.wrap ((i:Int) + 1 - 1) = (i:Int):=(w64k (by omega) (by omega)).trans (by omega)
     have hadd:IntKind.i64.wrap ((i:Int) + 1) = (i:Int) + 1:=w64k (by omega) (by omega)
     have hiw:IntKind.i64.wrap (i:Int) = (i:Int):=w64k (by omega) (by omega)
     have hlQ:A'.length + 1 + B.length = k:=by rw [List.length_append] at hQ2;simpa using hQ2
     clear q1 q2 q3 q4 eR hi hj hil hQ2
     obtain ⟨x1,x2⟩:=x
     obtain ⟨y1,y2⟩:=y
     dsimp only at Q1 Q2 Q3 Q4 SW SW2
     obtain ⟨v,hv⟩:∃ v,cmpV x1 y1 = v:=⟨_,rfl⟩
     have hvl:=cmpV_lt x1 y1
     rw [hv] at hvl
     have HVL:=Lib.hid hvl
     clear hvl
     by_cases hlt2:x1 < y1
     ·have hv0:v < 0:=HVL.out.2 hlt2
      have HXY:=Lib.hid hlt2
      clear hlt2
      go_wp2_with fail
      have HB:=hb2
      refine wp_region_held_drew (S:=(fun w'=>w'.cell? ⟨g,i * 2,none⟩ = some (.int .i64 y1)∧w'.cell? ⟨g,i * 2 + 1,none⟩ = some (.int .i64 y2)∧w'.cell? ⟨g,(i + 1) * 2,none⟩ = some (.int .i64 x1)∧w'.cell? ⟨g,(i + 1) * 2 + 1,none⟩ = some (.int .i64 x2))) (by kernel_rfl) ?_ (fun hHeld=>?_)
      ·replace HB:=Below.drew HB;replace o2:=Own.drew o2;(try dsimp only);exact ⟨own_cell o2 _ Q1.out,own_cell o2 _ Q2.out,own_cell o2 _ Q3.out,own_cell o2 _ Q4.out⟩
      replace HB:=Below.drew HB
      replace o2:=Own.drew o2
      have zHB:=HB.size
      refine zM 0 (.tmp 9) ?_
      refine zM 1 (.tmp 1) ?_
      refine zO 2 (.binOp .gtr 3 (.tmp 18) (.tmp 19) 3) 4 ?_
      refine zM 3 (.tmp 20) ?_
      refine zM 4 (.tmp 3) ?_
      refine zM 5 (.tmp 0) ?_
      refine zM 6 (.tmp 9) ?_
      refine zO 7 (.indexAddr 259 (.tmp 23) (.tmp 24)) 0 ?_
      refine zO 8 (.load 262 (.tmp 25)) 262 ?_
      refine zM 9 (.tmp 0) ?_
      refine zM 10 (.tmp 9) ?_
      refine zO 11 (.binOp .sub 3 (.tmp 28) (.const (Value.int IntKind.i64 1)) 3) 3 ?_
      refine zO 12 (.indexAddr 259 (.tmp 27) (.tmp 29)) 0 ?_
      refine zO 13 (.load 262 (.tmp 30)) 262 ?_
      refine zR 14 (fun K14 hK14=>?_)
      refine take_callv 14 200 22 [Operand.tmp 26,Operand.tmp 31] #[262,262] rfl rfl (by kernel_rfl) rfl (fun args w=>run_enter Tryz.func200 (by kernel_rfl) rfl args w) ?_
      refine (against_any x1 x2 y1 y2 _ v hv).mono ?_
      rintro e w14 ⟨rfl,hb14⟩
      refine ⟨_,rfl,?_⟩
      have z14:=hb14.size
      try simp only [World.size_drew] at z14
      replace HB:=HB.trans (hb14.mono (by first | exact HB.size | omega))
      have zHB14:=HB.size
      replace o2:=Own.below o2 hb14
      refine hK14.out _ _ ?su7x14 (fun hHeld=>?ru7x14)
      case su7x14=>((try dsimp only);exact ⟨own_cell o2 _ Q1.out,own_cell o2 _ Q2.out,own_cell o2 _ Q3.out,own_cell o2 _ Q4.out⟩)
      try simp only [zSa,zSb,zSc]
      refine zO 15 (.binOp .lss 3 (.tmp 32) (.const (Value.int IntKind.i64 0)) 3) 4 ?_
      refine zO 16 (.pick (.tmp 21) (.tmp 33) (.const (Value.bool false))) 4 ?_
      refine wpAnyH_done (by kernel_rfl) ?_ _
      clear hHeld hb2
      go_wp2_with fail
      refine wp_region_held_drew (S:=(fun _=>True)) (by kernel_rfl) ?_ (fun hHeld=>?_)
      ·replace HB:=Below.drew HB;replace o2:=Own.drew o2;(try dsimp only);try trivial
      replace HB:=Below.drew HB
      replace o2:=Own.drew o2
      have zHB:=HB.size
      refine zM 0 (.tmp 0) ?_
      refine zM 1 (.tmp 9) ?_
      refine zM 2 (.tmp 0) ?_
      refine zM 3 (.tmp 9) ?_
      refine zO 4 (.binOp .sub 3 (.tmp 40) (.const (Value.int IntKind.i64 1)) 3) 3 ?_
      refine zM 5 (.tmp 0) ?_
      refine zM 6 (.tmp 9) ?_
      refine zO 7 (.binOp .sub 3 (.tmp 43) (.const (Value.int IntKind.i64 1)) 3) 3 ?_
      refine zO 8 (.indexAddr 259 (.tmp 42) (.tmp 44)) 0 ?_
      refine zM 10 (.tmp 0) ?_
      refine zM 11 (.tmp 9) ?_
      refine zO 12 (.indexAddr 259 (.tmp 47) (.tmp 48)) 0 ?_
      refine wpAnyH_ready (rs:=[9,13]) (by kernel_rfl) (by simp) (AllReadyH.cons rfl (fun K9 hK9=>?ku2t7x9) (AllReadyH.cons rfl (fun K13 hK13=>?ku2t7x13) AllReadyH.nil))
      case ku2t7x9 =>
       refine take_any 9 (Op.load 262 (Operand.tmp 45)) 262 rfl rfl rfl (by kernel_rfl) (v:=.agg #[.int .i64 y1,.int .i64 y2]) (by have k1:w14.cell? ⟨g,i * 2,none⟩ = _:=own_cell o2 _ Q1.out;have k2:w14.cell? ⟨g,i * 2 + 1,none⟩ = _:=own_cell o2 _ Q2.out;go_simp;try (with_reducible rfl)) ?_
       refine hK9.out _ _ ?su2t7xb1x9 (fun hHeld=>?ru2t7xb1x9)
       case su2t7xb1x9=>((try dsimp only);try trivial)
       try simp only [zSa,zSb,zSc]
       refine zR 13 (fun K13 hK13=>?_)
       refine take_any 13 (Op.load 262 (Operand.tmp 49)) 262 rfl rfl rfl (by kernel_rfl) (v:=.agg #[.int .i64 x1,.int .i64 x2]) (by have k1:w14.cell? ⟨g,(i + 1) * 2,none⟩ = _:=own_cell o2 _ Q3.out;have k2:w14.cell? ⟨g,(i + 1) * 2 + 1,none⟩ = _:=own_cell o2 _ Q4.out;go_simp;try (with_reducible rfl)) ?_
       refine hK13.out _ _ ?su2t7xb1x13 (fun hHeld=>?ru2t7xb1x13)
       case su2t7xb1x13=>((try dsimp only);try trivial)
       try simp only [zSa,zSb,zSc]
       refine zO 14 (.indexAddr 259 (.tmp 37) (.tmp 38)) 0 ?_
       refine zR 15 (fun K15 hK15=>?_)
       refine take_store 15 (Op.store 262 (Operand.tmp 51) (Operand.tmp 46)) 0 rfl rfl rfl (by kernel_rfl) (w':=(w14.drew.setCell ⟨g,(i + 1) * 2,none⟩ (.int .i64 y1)).setCell ⟨g,(i + 1) * 2 + 1,none⟩ (.int .i64 y2)) (by have f:=own_thaw o2;have hfl:=o2.len;obtain ⟨v1,hv1⟩:∃ v1,_:=own_has o2 ((i + 1) * 2) (by omega);obtain ⟨v2,hv2⟩:∃ v2,_:=own_has o2 ((i + 1) * 2 + 1) (by omega);(try simp only [World.cell?_drew,World.frozen?_drew] at f hv1 hv2);go_simp;try (with_reducible rfl)) ?_
       refine hK15.out _ _ (trivial) (fun hHeld=>?_)
       replace o2:=(o2.set (k:=(i + 1) * 2) (.int .i64 y1)).set (k:=(i + 1) * 2 + 1) (.int .i64 y2)
       replace HB:=(HB.setCell (p:=⟨g,(i + 1) * 2,none⟩) hg0 (.int .i64 y1)).setCell (p:=⟨g,(i + 1) * 2 + 1,none⟩) hg0 (.int .i64 y2)
       generalize ((w14.drew.setCell ⟨g,(i + 1) * 2,none⟩ (.int .i64 y1)).setCell ⟨g,(i + 1) * 2 + 1,none⟩ (.int .i64 y2)) = wq at *
       refine zO 16 (.indexAddr 259 (.tmp 39) (.tmp 41)) 0 ?_
       refine zR 17 (fun K17 hK17=>?_)
       refine take_store 17 (Op.store 262 (Operand.tmp 52) (Operand.tmp 50)) 0 rfl rfl rfl (by kernel_rfl) (w':=(wq.setCell ⟨g,i * 2,none⟩ (.int .i64 x1)).setCell ⟨g,i * 2 + 1,none⟩ (.int .i64 x2)) (by have f:=own_thaw o2;have hfl:=o2.len;obtain ⟨v1,hv1⟩:∃ v1,_:=own_has o2 (i * 2) (by omega);obtain ⟨v2,hv2⟩:∃ v2,_:=own_has o2 (i * 2 + 1) (by omega);(try simp only [World.cell?_drew,World.frozen?_drew] at f hv1 hv2);go_simp;try (with_reducible rfl)) ?_
       refine hK17.out _ _ (trivial) (fun hHeld=>?_)
       replace o2:=(o2.set (k:=i * 2) (.int .i64 x1)).set (k:=i * 2 + 1) (.int .i64 x2)
       replace HB:=(HB.setCell (p:=⟨g,i * 2,none⟩) hg0 (.int .i64 x1)).setCell (p:=⟨g,i * 2 + 1,none⟩) hg0 (.int .i64 x2)
       generalize ((wq.setCell ⟨g,i * 2,none⟩ (.int .i64 x1)).setCell ⟨g,i * 2 + 1,none⟩ (.int .i64 x2)) = wq at *
       refine wpAnyH_done (by kernel_rfl) ?_ _
       clear hHeld
       have o3:Own wq base 262 2 (some ⟨g,0,none⟩) n c (fcells (P ++ A' ++ (x1,x2) :: (y1,y2) :: (B ++ D))):=by first | exact SW.out ▸ o2 | exact SW2.out ▸ o2
       have zq:=HB.size
       go_wp2_with fail
       go_roundw
       case rel=>exact ⟨A',(y1,y2) :: B,by rw [HIL.out],by rw [HQ.out];simp,fun b hb=>by simp at hb;subst hb;exact HXY.out,by simpa [List.append_assoc] using o3,HB,by omega⟩
       case measure=>simp [intOf];omega
      case ku2t7x13 =>
       refine take_any 13 (Op.load 262 (Operand.tmp 49)) 262 rfl rfl rfl (by kernel_rfl) (v:=.agg #[.int .i64 x1,.int .i64 x2]) (by have k1:w14.cell? ⟨g,(i + 1) * 2,none⟩ = _:=own_cell o2 _ Q3.out;have k2:w14.cell? ⟨g,(i + 1) * 2 + 1,none⟩ = _:=own_cell o2 _ Q4.out;go_simp;try (with_reducible rfl)) ?_
       refine hK13.out _ _ ?su2t7xb5x13 (fun hHeld=>?ru2t7xb5x13)
       case su2t7xb5x13=>((try dsimp only);try trivial)
       try simp only [zSa,zSb,zSc]
       refine zR 9 (fun K9 hK9=>?_)
       refine take_any 9 (Op.load 262 (Operand.tmp 45)) 262 rfl rfl rfl (by kernel_rfl) (v:=.agg #[.int .i64 y1,.int .i64 y2]) (by have k1:w14.cell? ⟨g,i * 2,none⟩ = _:=own_cell o2 _ Q1.out;have k2:w14.cell? ⟨g,i * 2 + 1,none⟩ = _:=own_cell o2 _ Q2.out;go_simp;try (with_reducible rfl)) ?_
       refine hK9.out _ _ ?su2t7xb5x9 (fun hHeld=>?ru2t7xb5x9)
       case su2t7xb5x9=>((try dsimp only);try trivial)
       try simp only [zSa,zSb,zSc]
       refine zO 14 (.indexAddr 259 (.tmp 37) (.tmp 38)) 0 ?_
       refine zR 15 (fun K15 hK15=>?_)
       refine take_store 15 (Op.store 262 (Operand.tmp 51) (Operand.tmp 46)) 0 rfl rfl rfl (by kernel_rfl) (w':=(w14.drew.setCell ⟨g,(i + 1) * 2,none⟩ (.int .i64 y1)).setCell ⟨g,(i + 1) * 2 + 1,none⟩ (.int .i64 y2)) (by have f:=own_thaw o2;have hfl:=o2.len;obtain ⟨v1,hv1⟩:∃ v1,_:=own_has o2 ((i + 1) * 2) (by omega);obtain ⟨v2,hv2⟩:∃ v2,_:=own_has o2 ((i + 1) * 2 + 1) (by omega);(try simp only [World.cell?_drew,World.frozen?_drew] at f hv1 hv2);go_simp;try (with_reducible rfl)) ?_
       refine hK15.out _ _ (trivial) (fun hHeld=>?_)
       replace o2:=(o2.set (k:=(i + 1) * 2) (.int .i64 y1)).set (k:=(i + 1) * 2 + 1) (.int .i64 y2)
       replace HB:=(HB.setCell (p:=⟨g,(i + 1) * 2,none⟩) hg0 (.int .i64 y1)).setCell (p:=⟨g,(i + 1) * 2 + 1,none⟩) hg0 (.int .i64 y2)
       generalize ((w14.drew.setCell ⟨g,(i + 1) * 2,none⟩ (.int .i64 y1)).setCell ⟨g,(i + 1) * 2 + 1,none⟩ (.int .i64 y2)) = wq at *
       refine zO 16 (.indexAddr 259 (.tmp 39) (.tmp 41)) 0 ?_
       refine zR 17 (fun K17 hK17=>?_)
       refine take_store 17 (Op.store 262 (Operand.tmp 52) (Operand.tmp 50)) 0 rfl rfl rfl (by kernel_rfl) (w':=(wq.setCell ⟨g,i * 2,none⟩ (.int .i64 x1)).setCell ⟨g,i * 2 + 1,none⟩ (.int .i64 x2)) (by have f:=own_thaw o2;have hfl:=o2.len;obtain ⟨v1,hv1⟩:∃ v1,_:=own_has o2 (i * 2) (by omega);obtain ⟨v2,hv2⟩:∃ v2,_:=own_has o2 (i * 2 + 1) (by omega);(try simp only [World.cell?_drew,World.frozen?_drew] at f hv1 hv2);go_simp;try (with_reducible rfl)) ?_
       refine hK17.out _ _ (trivial) (fun hHeld=>?_)
       replace o2:=(o2.set (k:=i * 2) (.int .i64 x1)).set (k:=i * 2 + 1) (.int .i64 x2)
       replace HB:=(HB.setCell (p:=⟨g,i * 2,none⟩) hg0 (.int .i64 x1)).setCell (p:=⟨g,i * 2 + 1,none⟩) hg0 (.int .i64 x2)
       generalize ((wq.setCell ⟨g,i * 2,none⟩ (.int .i64 x1)).setCell ⟨g,i * 2 + 1,none⟩ (.int .i64 x2)) = wq at *
       refine wpAnyH_done (by kernel_rfl) ?_ _
       clear hHeld
       have o3:Own wq base 262 2 (some ⟨g,0,none⟩) n c (fcells (P ++ A' ++ (x1,x2) :: (y1,y2) :: (B ++ D))):=by first | exact SW.out ▸ o2 | exact SW2.out ▸ o2
       have zq:=HB.size
       go_wp2_with fail
       go_roundw
       case rel=>exact ⟨A',(y1,y2) :: B,by rw [HIL.out],by rw [HQ.out];simp,fun b hb=>by simp at hb;subst hb;exact HXY.out,by simpa [List.append_assoc] using o3,HB,by omega⟩
       case measure=>simp [intOf];omega
     ·have hv0:¬ v < 0:=fun e=>hlt2 (HVL.out.1 e)
      have HP:=Lib.hid (HPL.out (A' ++ [(y1,y2)]) B HQ.out HB'.out (fun z hz=>by simp at hz;subst hz;dsimp only;omega))
      clear hlt2
      go_wp2_with fail
      have HB:=hb2
      refine wp_region_held_drew (S:=(fun w'=>w'.cell? ⟨g,i * 2,none⟩ = some (.int .i64 y1)∧w'.cell? ⟨g,i * 2 + 1,none⟩ = some (.int .i64 y2)∧w'.cell? ⟨g,(i + 1) * 2,none⟩ = some (.int .i64 x1)∧w'.cell? ⟨g,(i + 1) * 2 + 1,none⟩ = some (.int .i64 x2))) (by kernel_rfl) ?_ (fun hHeld=>?_)
      ·replace HB:=Below.drew HB;replace o2:=Own.drew o2;(try dsimp only);exact ⟨own_cell o2 _ Q1.out,own_cell o2 _ Q2.out,own_cell o2 _ Q3.out,own_cell o2 _ Q4.out⟩
      replace HB:=Below.drew HB
      replace o2:=Own.drew o2
      have zHB:=HB.size
      refine zM 0 (.tmp 9) ?_
      refine zM 1 (.tmp 1) ?_
      refine zO 2 (.binOp .gtr 3 (.tmp 18) (.tmp 19) 3) 4 ?_
      refine zM 3 (.tmp 20) ?_
      refine zM 4 (.tmp 3) ?_
      refine zM 5 (.tmp 0) ?_
      refine zM 6 (.tmp 9) ?_
      refine zO 7 (.indexAddr 259 (.tmp 23) (.tmp 24)) 0 ?_
      refine zO 8 (.load 262 (.tmp 25)) 262 ?_
      refine zM 9 (.tmp 0) ?_
      refine zM 10 (.tmp 9) ?_
      refine zO 11 (.binOp .sub 3 (.tmp 28) (.const (Value.int IntKind.i64 1)) 3) 3 ?_
      refine zO 12 (.indexAddr 259 (.tmp 27) (.tmp 29)) 0 ?_
      refine zO 13 (.load 262 (.tmp 30)) 262 ?_
      refine zR 14 (fun K14 hK14=>?_)
      refine take_callv 14 200 22 [Operand.tmp 26,Operand.tmp 31] #[262,262] rfl rfl (by kernel_rfl) rfl (fun args w=>run_enter Tryz.func200 (by kernel_rfl) rfl args w) ?_
      refine (against_any x1 x2 y1 y2 _ v hv).mono ?_
      rintro e w14 ⟨rfl,hb14⟩
      refine ⟨_,rfl,?_⟩
      have z14:=hb14.size
      try simp only [World.size_drew] at z14
      replace HB:=HB.trans (hb14.mono (by first | exact HB.size | omega))
      have zHB14:=HB.size
      replace o2:=Own.below o2 hb14
      refine hK14.out _ _ ?su3x14 (fun hHeld=>?ru3x14)
      case su3x14=>((try dsimp only);exact ⟨own_cell o2 _ Q1.out,own_cell o2 _ Q2.out,own_cell o2 _ Q3.out,own_cell o2 _ Q4.out⟩)
      try simp only [zSa,zSb,zSc]
      refine zO 15 (.binOp .lss 3 (.tmp 32) (.const (Value.int IntKind.i64 0)) 3) 4 ?_
      refine zO 16 (.pick (.tmp 21) (.tmp 33) (.const (Value.bool false))) 4 ?_
      refine wpAnyH_done (by kernel_rfl) ?_ _
      clear hHeld hb2
      have zq:=HB.size
      go_wp2_with fail
      go_roundw
      case rel=>exact ⟨k + 1,by rw [show a + (k + 1) = q + 1 by omega];go_num,by omega,by omega,by rw [HP.out];simpa [List.append_assoc,← HDD.out] using o2,HB,by omega⟩
      case measure=>simp [intOf];omega
  ·have hge:¬ ((q:Int) < (b:Int)):=by omega
   go_wp2_with fail
   go_end0
   refine ⟨rfl,?_,hbw⟩
   have e1:M.take k = M:=List.take_of_length_le (by omega)
   have e2:M.drop k = []:=List.drop_eq_nil_of_le (by omega)
   rw [e1,e2] at o1
   simpa [List.append_assoc] using o1
end LenW
end Go.Proofs.YtnpncpoiiikafaaGreat
namespace Go.Proofs.YtnpncpoiiikafaaGreat
open Go.RowKit
namespace LenW
def SortOk (n:Nat):Prop:=∀ (base:Nat) (A0:Option Addr) (c:Nat) (M:List (Int × Int)) (w:World),M.length = n → Own w base 262 2 A0 n c (fcells M) → base≤w.heap.size →
 Calls Tryz.prog 199 #[.slice A0 n c,.func (.func 200) #[] #[]] w fun e w'=>e = .returned (.tuple #[])∧Own w' base 262 2 A0 n c (fcells (sortW M))∧Below base w w'
theorem El_w:El Tryz.prog 259 262 2 16:=El.mk' Tryz.underlying259 (z:=.agg #[.int .i64 0,.int .i64 0]) (by kernel_rfl) rfl (by decide)
theorem fcells_one (l:List (Int × Int)):∀ u ∈ fcells l,u.oneCell' = true:=by
 intro u hu
 obtain ⟨r,_,hr⟩:=List.mem_flatMap.1 hu
 simp at hr
 rcases hr with rfl | rfl <;> rfl
theorem lvsK_le (l:List Int) (k:Nat):(lvsK l k).length≤k:=by
 unfold lvsK
 exact Nat.le_trans (List.length_filterMap_le _ _) (by simp)
theorem leaves_any (A:Option Addr) (n c:Nat) (l:List Int) (w:World) (h:Rd w w.heap.size 1 A n (ints l)) (hn:n≤300) (hS:SortOk (usedL l)) :
 Calls Tryz.prog 183 #[.slice A n c] w fun e w'=>∃ A2 c2,e = .returned (.slice A2 (usedL l) c2)∧Own w' w.heap.size 262 2 A2 (usedL l) c2 (fcells (lvs l))∧Below w.heap.size w w':=by
 have hl:l.length = n:=rd_len h
 have HLV:=Lib.hid (show (lvsK l n).length = usedL l by rw [← hl,lvsK_len l _ (Nat.le_refl _),List.take_length])
 have HLS:=Lib.hid (show lvs l = sortW (lvsK l n) by rw [← hl];rfl)
 go_enter Tryz.func183,Tryz.ntmps183
 go_wp2_with fail
 go_loopw [3,8] (fun out i wr=>∃ (k j c2:Nat) (A2:Option Addr),i = .int .i64 k∧out = .slice A2 j c2∧k≤n∧(lvsK l k).length = j∧Own wr w.heap.size 262 2 A2 j c2 (fcells (lvsK l k))∧Below w.heap.size w wr) (fun _ i _=>n - (intOf i).toNat)
 case atStart=>exact ⟨0,0,0,none,rfl,rfl,by omega,by simp [lvsK],by simpa [lvsK,fcells] using Own.nil _ _ _ _,Below.refl _ _⟩
 case round =>
  obtain ⟨k,j,c2,A2,rfl,rfl,hk,hj,o2,hbw⟩:=hrel
  have hsz:=hbw.size
  by_cases hlt:k < n
  ·have hkl:k < l.length:=by omega
   obtain ⟨b,o,rfl,hb,hc⟩:=rd_ints (h.below hbw) (by omega)
   have d0:wr.cell? ⟨b,o + k,none⟩ = some (.int .i64 l[k]):=hc k hkl
   have HS:=Lib.hid (lvsK_succ l k hkl)
   have hjk:=lvsK_le l k
   rw [hj] at hjk
   obtain ⟨x,hx⟩:∃ x,l[k] = x:=⟨_,rfl⟩
   rw [hx] at d0 HS
   clear hc hx
   by_cases hx0:0 < x
   ·have HA:=Lib.hid (show lvsK l (k + 1) = lvsK l k ++ [(x,(k:Int))] by rw [HS.out,if_pos hx0])
    have hrn:Rd (wr.alloc (.cells #[.int .i64 x,.int .i64 k] 262)) (wr.heap.size + 1) 2 (some ⟨wr.heap.size,0,none⟩) 1 (fcells [(x,(k:Int))]):=rd_new (W0:=wr) (t:=262) (cs:=fcells [(x,(k:Int))]) (size:=2) (m:=1) rfl rfl
    go_wp2_with (at_builtin;with_reducible refine wp_append El_w rfl (s:=.tmp 15) (x:=.tmp 19) rfl rfl (o2.alloc _) rfl hrn (fcells_one _) (by unfold maxLen;omega) (by omega) (by simp;omega) ?_;intro A4 c4 w4 o4 hg4 hat4;have hbX:=below_grown (hbw.alloc hsz (.cells #[.int .i64 x,.int .i64 k] 262)) hg4 (o2.alloc _) (Nat.le_refl _))
    rw [← fcells_app] at o4
    go_roundw
    case rel=>exact ⟨k + 1,j + 1,c4,A4,by go_num,rfl,by omega,by rw [HA.out];simp [hj],by rw [HA.out];exact o4,hbX⟩
    case measure=>simp [intOf];omega
   ·have HA:=Lib.hid (show lvsK l (k + 1) = lvsK l k by rw [HS.out,if_neg hx0,List.append_nil])
    go_wp2_with fail
    go_roundw
    case rel=>exact ⟨k + 1,j,c2,A2,by go_num,rfl,by omega,by rw [HA.out];exact hj,by rw [HA.out];exact o2,hbw⟩
    case measure=>simp [intOf];omega
  ·obtain rfl:k = n:=by omega
   have e1:=HLV.out
   rw [hj] at e1
   subst e1
   have C:=hS w.heap.size A2 c2 _ wr hj o2 hsz
   rw [← HLS.out] at C
   clear o2 hj hl
   go_wp2_with fail
   refine C.mono ?_
   rintro e w1 ⟨rfl,o1,hb1⟩
   go_wp2_with fail
   try rw [Exit.noGoto_ret]
   go_ret
   exact ⟨A2,c2,rfl,o1,hbw.trans hb1⟩
end LenW
end Go.Proofs.YtnpncpoiiikafaaGreat
namespace Go.Proofs.YtnpncpoiiikafaaGreat
open Go.RowKit
namespace LenW
theorem pkgs_get (r:List (Int × Int)):∀ (i k:Nat) (h:2 * k + 1 < r.length),(pkgs i r)[k]? = some ((r[2 * k]'(by omega)).1 + (r[2 * k + 1]'(by omega)).1,-1 - ((i + k:Nat):Int)):=by
 suffices ∀ n (r:List (Int × Int)),r.length≤n → ∀ (i k:Nat) (h:2 * k + 1 < r.length),(pkgs i r)[k]? = some ((r[2 * k]'(by omega)).1 + (r[2 * k + 1]'(by omega)).1,-1 - ((i + k:Nat):Int)) from this _ r (Nat.le_refl _)
 intro n
 induction n with
 | zero=>intro r hr i k h;omega
 | succ n ih =>
  intro r hr i k h
  match r,hr,h with
  | [],_,h=>simp at h
  | [a],_,h=>simp at h
  | a :: b :: r,hr,h =>
   simp only [List.length_cons] at hr h
   rw [pkgs]
   cases k with
   | zero=>simp
   | succ k =>
    rw [List.getElem?_cons_succ,ih r (by omega) (i + 1) k (by omega)]
    congr 2
    omega
theorem pkgs_take (r:List (Int × Int)) (k:Nat) (h:2 * k + 1 < r.length):(pkgs 0 r).take (k + 1) = (pkgs 0 r).take k ++ [((r[2 * k]'(by omega)).1 + (r[2 * k + 1]'(by omega)).1,-1 - (k:Int))]:=by
 have e:=pkgs_get r 0 k h
 rw [Nat.zero_add] at e
 rw [List.take_add_one,e]
 rfl
theorem packages_any (A:Option Addr) (n c:Nat) (r:List (Int × Int)) (B:Int) (w:World) (h:Rd w w.heap.size 2 A n (fcells r)) (hn:n≤1000) (hB:∀ x ∈ r,0≤x.1∧x.1≤B) (hB2:B≤1000000000000000) :
 Calls Tryz.prog 185 #[.slice A n c] w fun e w'=>∃ A2 c2,e = .returned (.slice A2 (n / 2) c2)∧Own w' w.heap.size 262 2 A2 (n / 2) c2 (fcells (pkgs 0 r))∧Below w.heap.size w w':=by
 have hl:r.length = n:=rd_flen h
 have HPL:=Lib.hid (show (pkgs 0 r).length = n / 2 by rw [pkgs_len,hl])
 go_enter Tryz.func185,Tryz.ntmps185
 go_wp2_with fail
 go_loopw [3,4] (fun out i wr=>∃ (k i' c2:Nat) (A2:Option Addr),i = .int .i64 i'∧i' = 2 * k∧out = .slice A2 k c2∧i'≤n∧Own wr w.heap.size 262 2 A2 k c2 (fcells ((pkgs 0 r).take k))∧Below w.heap.size w wr) (fun _ i _=>n - (intOf i).toNat)
 case atStart=>exact ⟨0,0,0,none,rfl,rfl,rfl,by omega,by simpa [fcells] using Own.nil _ _ _ _,Below.refl _ _⟩
 case round =>
  obtain ⟨k,i,c2,A2,rfl,hik,rfl,hi,o2,hbw⟩:=hrel
  have HIK:=Lib.hid hik
  have hik1:i≤2 * k:=Nat.le_of_eq hik
  have hik2:2 * k≤i:=Nat.le_of_eq hik.symm
  have hsz:=hbw.size
  by_cases hlt:i + 1 < n
  ·have hkl:2 * k + 1 < r.length:=by omega
   obtain ⟨b,o,rfl,hb,hc⟩:=rd_fcells h (by omega)
   obtain ⟨c0,-⟩:=hc (2 * k) (by omega)
   obtain ⟨c1,-⟩:=hc (2 * k + 1) (by omega)
   have HT:=Lib.hid (pkgs_take r k hkl)
   have b0:=hB _ (List.getElem_mem (show 2 * k < r.length by omega))
   have b1:=hB _ (List.getElem_mem (show 2 * k + 1 < r.length by omega))
   obtain ⟨x,hx⟩:∃ x,(r[2 * k]'(by omega)).1 = x:=⟨_,rfl⟩
   obtain ⟨y,hy⟩:∃ y,(r[2 * k + 1]'(by omega)).1 = y:=⟨_,rfl⟩
   rw [hx] at c0 HT b0
   rw [hy] at c1 HT b1
   rw [← hik] at c0 c1
   have C0:=Lib.hid c0
   have C1:=Lib.hid c1
   have hi0:(0:Int)≤(i:Int):=by omega
   have hi1:(0:Int)≤(i:Int) + 1:=by omega
   have hi2:(i:Int) + 1 < (n:Int):=by omega
   have hi3:(i:Int) < (n:Int):=by omega
   have htd:Int.tdiv (i:Int) 2 = (k:Int):=by rw [Int.tdiv_eq_ediv_of_nonneg (by omega),hik];omega
   have hadd:IntKind.i64.wrap ((i:Int) + 1) = (i:Int) + 1:=w64k (by omega) (by omega)
   have hadd2:IntKind.i64.wrap ((i:Int) + 2) = (i:Int) + 2:=w64k (by omega) (by omega)
   have hkw:IntKind.i64.wrap (k:Int) = (k:Int):=w64k (by omega) (by omega)
   have hkw2:IntKind.i64.wrap (-1 - (k:Int)) = -1 - (k:Int):=w64k (by omega) (by omega)
   have hxy:IntKind.i64.wrap (x + y) = x + y:=w64k (by omega) (by omega)
   have HB:=hbw
   have hbb:b < w.heap.size:=hb
   clear hc hx hy c0 c1 hik
   go_wp2_with fail
   refine wp_region_held_drew (S:=(fun w'=>w'.cell? ⟨b,o + i * 2,none⟩ = some (.int .i64 x)∧w'.cell? ⟨b,o + (i + 1) * 2,none⟩ = some (.int .i64 y))) (by kernel_rfl) ?_ (fun hHeld=>?_)
   ·replace HB:=Below.drew HB;replace o2:=Own.drew o2;(try dsimp only);exact ⟨(HB.cell hbb).trans C0.out,(HB.cell hbb).trans C1.out⟩
   replace HB:=Below.drew HB
   replace o2:=Own.drew o2
   have zHB:=HB.size
   refine zM 0 (.tmp 3) ?_
   refine zM 1 (.tmp 0) ?_
   refine zM 2 (.tmp 4) ?_
   refine zO 3 (.indexAddr 259 (.tmp 13) (.tmp 14)) 0 ?_
   refine zO 4 (.fieldAddr 262 (.tmp 15) 0) 0 ?_
   refine zO 5 (.load 3 (.tmp 16)) 3 ?_
   refine zM 6 (.tmp 0) ?_
   refine zM 7 (.tmp 4) ?_
   refine zO 8 (.binOp .add 3 (.tmp 19) (.const (Value.int IntKind.i64 1)) 3) 3 ?_
   refine zO 9 (.indexAddr 259 (.tmp 18) (.tmp 20)) 0 ?_
   refine zO 10 (.fieldAddr 262 (.tmp 21) 0) 0 ?_
   refine zO 11 (.load 3 (.tmp 22)) 3 ?_
   refine zO 12 (.binOp .add 3 (.tmp 17) (.tmp 23) 3) 3 ?_
   refine zM 13 (.tmp 4) ?_
   refine zO 14 (.binOp .quo 3 (.tmp 25) (.const (Value.int IntKind.i64 2)) 3) 3 ?_
   refine zO 15 (.binOp .sub 3 (.const (Value.int IntKind.i64 (-1))) (.tmp 26) 3) 3 ?_
   refine zO 16 (.build 262 #[(0,.tmp 24),(1,.tmp 27)]) 262 ?_
   refine zR 17 (fun K17 hK17=>?_)
   refine take_build (e:=262) (len:=1) (size:=2) (w.heap.size) (fcells [(x + y,-1 - (k:Int))]) 17 (Op.buildSlice 259 1 #[(0,Operand.tmp 28)]) 259 rfl rfl rfl (by kernel_rfl) ?eu4x17 (by rfl) (by decide) (by first | exact Nat.le_refl _ | (simp only [World.size_alloc,World.size_setCell,World.size_drew] at *;omega) | omega) ?_
   case eu4x17=>(go_simp;try (first | with_reducible rfl | (simp [rcells,rcell];done) | (simp [fcells];done) | (simp [tcells];done) | rfl))
   intro gx17 w17 o17 gr17 l17 m17
   have z17:=gr17.size
   try simp only [World.size_drew] at z17
   replace HB:=below_grow HB gr17
   have zHB17:=HB.size
   replace o2:=Own.grow0 o2 gr17
   refine hK17.out _ _ ?su4x17 (fun hHeld=>?ru4x17)
   case su4x17=>((try dsimp only);exact ⟨(HB.cell hbb).trans C0.out,(HB.cell hbb).trans C1.out⟩)
   try simp only [zSa,zSb,zSc]
   refine zR 18 (fun K18 hK18=>?_)
   refine take_app El_w 18 (Operand.tmp 12) (Operand.tmp 29) 259 rfl rfl rfl (by kernel_rfl) o2 rfl (o17.rd) rfl (fcells_one _) (by unfold maxLen;omega) (by omega) (by first | exact Nat.le_refl _ | (simp only [World.size_alloc,World.size_setCell,World.size_drew] at *;omega) | omega) ?_
   intro A18 c18 w18 o18 gr18 at18
   have z18:=gr18.size
   try simp only [World.size_drew] at z18
   replace HB:=below_grown HB gr18 o2 (by first | exact Nat.le_refl _ | (simp only [World.size_alloc,World.size_setCell,World.size_drew] at *;omega) | omega)
   have zHB18:=HB.size
   refine hK18.out _ _ ?su4x18 (fun hHeld=>?ru4x18)
   case su4x18=>((try dsimp only);exact ⟨(HB.cell hbb).trans C0.out,(HB.cell hbb).trans C1.out⟩)
   try simp only [zSa,zSb,zSc]
   refine zO 19 (.assign (.tmp 30)) 259 ?_
   refine wpAnyH_done (by kernel_rfl) ?_ _
   clear hHeld
   go_wp2_with fail
   go_roundw
   case rel=>exact ⟨k + 1,i + 2,c18,A18,by go_num,by omega,rfl,by omega,by rw [HT.out,fcells_app];exact o18,HB⟩
   case measure=>simp [intOf];omega
  ·have hge:¬ ((i:Int) + 1 < (n:Int)):=by omega
   have e1:(pkgs 0 r).take k = pkgs 0 r:=List.take_of_length_le (by rw [HPL.out];omega)
   rw [e1] at o2
   obtain rfl:k = n / 2:=by omega
   go_wp2_with fail
   try rw [Exit.noGoto_ret]
   go_ret
   exact ⟨A2,c2,rfl,o2,hbw⟩
end LenW
end Go.Proofs.YtnpncpoiiikafaaGreat
namespace Go.Proofs.YtnpncpoiiikafaaGreat
open Go.RowKit
namespace LenW
theorem wp_make {P:Program} {w:World} {t e size bytes:Nat} (hE:El P t e size bytes) {ops:Array Oper} {rest:List Oper} {o:Oper} {a:Act} {Q:Exit → Act → World → Prop} (hgd:o.guard = none) {l c:Operand}
 (ho:o.op = .makeSlice t l c) (base:Nat) (n:Nat) {kl kc:IntKind} {C:Int} (hl:a.eval l = .int kl 0) (hc:a.eval c = .int kc C) (hC:C = (n:Int)) (hb:bytes * n≤281474976710656) (hn:n≤maxLen) (hbase:base≤w.heap.size)
 (h:∀ w',Own w' base e size (some ⟨w.heap.size,0,none⟩) 0 n [] → w.grownBy w' none → wpList P ops Q rest (a.put o.dst (.slice (some ⟨w.heap.size,0,none⟩) 0 n)) w'):wpList P ops Q (o :: rest) a w:=by
 obtain ⟨i,z,hi,hz,hsize,hby,hzs⟩:=hE.inf
 exact wpList_make_own w hgd l c t ho base e i z size hE.und hi hz hsize kl kc C n hl hc hC (by rw [hby];exact hb) hn hbase h
def lenV:Value → Nat
 | .slice _ n _=>n
 | _=>0
theorem rd_tail {w:World} {B:Nat} {A:Option Addr} {n cap:Nat} {x:Int × Int} {P:List (Int × Int)} (h:Rd w B 2 A n (fcells (x :: P))) (hc:n≤cap) (h1:1≤n):Rd w B 2 (if cap = 1 then A else A.map (·.add 2)) (n - 1) (fcells P):=by
 have:=h.cut (k:=1) (cap:=cap) h1 hc
 simpa [fcells_cons] using this
theorem merged_any (A1 A2:Option Addr) (n1 c1 n2 c2:Nat) (a b:List (Int × Int)) (w:World) (h1:Rd w w.heap.size 2 A1 n1 (fcells a)) (h2:Rd w w.heap.size 2 A2 n2 (fcells b)) (hn1:n1≤1000) (hn2:n2≤1000) (hc1:n1≤c1) (hc2:n2≤c2) :
 Calls Tryz.prog 184 #[.slice A1 n1 c1,.slice A2 n2 c2] w fun e w'=>∃ A c,e = .returned (.slice A (n1 + n2) c)∧Own w' w.heap.size 262 2 A (n1 + n2) c (fcells (mrg a b))∧Below w.heap.size w w':=by
 have hw12:IntKind.i64.wrap ((n1:Int) + (n2:Int)) = (n1:Int) + (n2:Int):=w64k (by omega) (by omega)
 go_enter Tryz.func184,Tryz.ntmps184
 go_wp2_with (at_make;refine wp_make El_w rfl rfl w.heap.size (n1 + n2) rfl rfl (by simp) (by omega) (by unfold maxLen;omega) (Nat.le_refl _) ?_;intro w2 hown2 hg2)
 have hb2:=below_grow (Below.refl w.heap.size w) hg2
 have hz2:=hb2.size
 go_loopw [0,1,5] (fun s0 s1 out wr=>∃ (P Q R:List (Int × Int)) (B1 B2 B3:Option Addr) (m1 m2 m3 d1 d2 d3:Nat),s0 = .slice B1 m1 d1∧s1 = .slice B2 m2 d2∧out = .slice B3 m3 d3∧Rd wr w.heap.size 2 B1 m1 (fcells P)∧Rd wr w.heap.size 2 B2 m2 (fcells Q)∧m1≤d1∧m2≤d2∧Own wr w.heap.size 262 2 B3 m3 d3 (fcells R)∧R ++ mrg P Q = mrg a b∧m1 + m2 + m3 = n1 + n2∧Below w.heap.size w wr) (fun s0 s1 _ _=>lenV s0 + lenV s1)
 case atStart=>exact ⟨a,b,[],A1,A2,_,n1,n2,0,c1,c2,_,rfl,rfl,rfl,h1.below hb2,h2.below hb2,hc1,hc2,by simpa [fcells] using hown2,rfl,by omega,hb2⟩
 case round =>
  clear h1 h2 hown2 hg2 hb2 hz2
  obtain ⟨P,Q,R,B1,B2,B3,m1,m2,m3,d1,d2,d3,rfl,rfl,rfl,r1,r2,hd1,hd2,o3,hR,hN,HB⟩:=hrel
  have hP:=rd_flen r1
  have hQ:=rd_flen r2
  have hz:=HB.size
  have HR:=Lib.hid hR
  have hN1:m1 + m2 + m3≤n1 + n2:=Nat.le_of_eq hN
  have HN:=Lib.hid hN
  clear hR hN
  match P,Q,hP,hQ,r1,r2,HR with
  | [],Q,hP,hQ,r1,r2,HR =>
   obtain rfl:m1 = 0:=by simpa using hP.symm
   have HN2:=Lib.hid (show m3 + 0 + m2 = n1 + n2 by have:=HN.out;omega)
   go_wp2_with (at_builtin;first | (with_reducible refine wp_append El_w rfl (s:=.tmp 44) (x:=.tmp 45) rfl rfl o3 rfl r1 (fcells_one _) (by unfold maxLen;omega) (by omega) hz ?_;intro A4 c4 w4 o4 hg4 hat4;have r2b:=r2.grownOwn hg4 o3 (Nat.le_refl _) hz;have z4:=hg4.size;have HB4:=below_grown HB hg4 o3 (Nat.le_refl _);have hz4:=HB4.size) | (with_reducible refine wp_append El_w rfl (s:=.tmp 46) (x:=.tmp 47) rfl rfl o4 rfl r2b (fcells_one _) (by unfold maxLen;omega) (by omega) hz4 ?_;intro A5 c5 w5 o5 hg5 hat5;have HB5:=below_grown HB4 hg5 o4 (Nat.le_refl _)))
   try rw [Exit.noGoto_ret]
   go_ret
   refine ⟨A5,c5,by rw [← HN2.out];try rfl,?_,HB5⟩
   rw [← HN2.out,← HR.out,mrg_nil,fcells_app]
   simpa [fcells] using o5
  | x :: P,[],hP,hQ,r1,r2,HR =>
   obtain rfl:m2 = 0:=by simpa using hQ.symm
   have h0:0 < m1:=by simp at hP;omega
   have h0':(0:Int) < (m1:Int):=by omega
   have HN2:=Lib.hid (show m3 + m1 + 0 = n1 + n2 by have:=HN.out;omega)
   go_wp2_with (at_builtin;first | (with_reducible refine wp_append El_w rfl (s:=.tmp 44) (x:=.tmp 45) rfl rfl o3 rfl r1 (fcells_one _) (by unfold maxLen;omega) (by omega) hz ?_;intro A4 c4 w4 o4 hg4 hat4;have r2b:=r2.grownOwn hg4 o3 (Nat.le_refl _) hz;have z4:=hg4.size;have HB4:=below_grown HB hg4 o3 (Nat.le_refl _);have hz4:=HB4.size) | (with_reducible refine wp_append El_w rfl (s:=.tmp 46) (x:=.tmp 47) rfl rfl o4 rfl r2b (fcells_one _) (by unfold maxLen;omega) (by omega) hz4 ?_;intro A5 c5 w5 o5 hg5 hat5;have HB5:=below_grown HB4 hg5 o4 (Nat.le_refl _)))
   try rw [Exit.noGoto_ret]
   go_ret
   refine ⟨A5,c5,by rw [← HN2.out];try rfl,?_,HB5⟩
   rw [← HN2.out,← HR.out,mrg_right,fcells_app]
   simpa [fcells] using o5
  | x :: P,y :: Q,hP,hQ,r1,r2,HR =>
   simp only [List.length_cons] at hP hQ
   have h0:0 < m1:=by omega
   have h0':(0:Int) < (m1:Int):=by omega
   have h1:0 < m2:=by omega
   have h1':(0:Int) < (m2:Int):=by omega
   have k1:d1 ≠ 0:=by omega
   have k2:d2 ≠ 0:=by omega
   have k3:1≤d1:=by omega
   have k4:1≤d2:=by omega
   have k5:1≤m1:=by omega
   have k6:1≤m2:=by omega
   have t1:=rd_tail r1 hd1 h0
   have t2:=rd_tail r2 hd2 h1
   obtain ⟨b1,o1,rfl,hb1,hc1'⟩:=rd_fcells r1 h0
   obtain ⟨b2,o2,rfl,hb2,hc2'⟩:=rd_fcells r2 h1
   obtain ⟨e1,e2⟩:=hc1' 0 (by simp)
   obtain ⟨e3,e4⟩:=hc2' 0 (by simp)
   simp only [Nat.zero_mul,Nat.add_zero,List.getElem_cons_zero] at e1 e2 e3 e4
   obtain ⟨x1,x2⟩:=x
   obtain ⟨y1,y2⟩:=y
   dsimp only at e1 e2 e3 e4
   have E:=Lib.hid (And.intro ((HB.cell hb1).symm.trans e1) (And.intro ((HB.cell hb1).symm.trans e2) (And.intro ((HB.cell hb2).symm.trans e3) ((HB.cell hb2).symm.trans e4))))
   have T1:=(show Rd wr w.heap.size 2 (if d1 = 1 then some ⟨b1,o1,none⟩ else some ⟨b1,o1 + 2,none⟩) (m1 - 1) (fcells P) by simpa [add_lit] using t1)
   have T2:=(show Rd wr w.heap.size 2 (if d2 = 1 then some ⟨b2,o2,none⟩ else some ⟨b2,o2 + 2,none⟩) (m2 - 1) (fcells Q) by simpa [add_lit] using t2)
   have R1:=r1
   have R2:=r2
   have k7:(1:Int)≤(m1:Int):=by omega
   have k8:(1:Int)≤(m2:Int):=by omega
   have HKK:=Lib.hid (fun (w':World) (hb:Below w.heap.size w w')=>(show w'.cell? ⟨b1,o1,none⟩ = some (.int .i64 x1)∧w'.cell? ⟨b1,o1 + 1,none⟩ = some (.int .i64 x2)∧w'.cell? ⟨b2,o2,none⟩ = some (.int .i64 y1)∧w'.cell? ⟨b2,o2 + 1,none⟩ = some (.int .i64 y2) from
    ⟨(hb.cell hb1).trans E.out.1,(hb.cell hb1).trans E.out.2.1,(hb.cell hb2).trans E.out.2.2.1,(hb.cell hb2).trans E.out.2.2.2⟩))
   obtain ⟨v,hv⟩:∃ v,cmpV x1 y1 = v:=⟨_,rfl⟩
   have hvl:=cmpV_le x1 y1
   rw [hv] at hvl
   clear hc1' hc2' e1 e2 e3 e4 t1 t2 r1 r2
   by_cases hv0:v≤0
   ·have hxy:=hvl.1 hv0
    have HM:=Lib.hid (show (R ++ [(x1,x2)]) ++ mrg P ((y1,y2) :: Q) = mrg a b by rw [← HR.out,mrg_cons,if_pos hxy];simp)
    have HNN:=Lib.hid (show (m1 - 1) + m2 + (m3 + 1) = n1 + n2 by have:=HN.out;omega)
    clear hvl hxy
    go_wp2_with fail
    refine wp_region_held_drew (S:=(fun w'=>w'.cell? ⟨b1,o1,none⟩ = some (.int .i64 x1)∧w'.cell? ⟨b1,o1 + 1,none⟩ = some (.int .i64 x2)∧w'.cell? ⟨b2,o2,none⟩ = some (.int .i64 y1)∧w'.cell? ⟨b2,o2 + 1,none⟩ = some (.int .i64 y2))) (by kernel_rfl) ?_ (fun hHeld=>?_)
    ·replace HB:=Below.drew HB;replace o3:=Own.drew o3;replace T1:=Rd.drew T1;replace T2:=Rd.drew T2;replace R1:=Rd.drew R1;replace R2:=Rd.drew R2;(try dsimp only);exact HKK.out _ HB
    replace HB:=Below.drew HB
    replace o3:=Own.drew o3
    replace T1:=Rd.drew T1
    replace T2:=Rd.drew T2
    replace R1:=Rd.drew R1
    replace R2:=Rd.drew R2
    have zHB:=HB.size
    refine zM 0 (.tmp 0) ?_
    refine zO 1 (.indexAddr 259 (.tmp 20) (.const (Value.int IntKind.i64 0))) 0 ?_
    refine zO 2 (.load 262 (.tmp 21)) 262 ?_
    refine zM 3 (.tmp 1) ?_
    refine zO 4 (.indexAddr 259 (.tmp 23) (.const (Value.int IntKind.i64 0))) 0 ?_
    refine zO 5 (.load 262 (.tmp 24)) 262 ?_
    refine zR 6 (fun K6 hK6=>?_)
    refine take_calls 6 200 [Operand.tmp 22,Operand.tmp 25] #[262,262] rfl rfl (by kernel_rfl) (fun args w=>run_enter Tryz.func200 (by kernel_rfl) rfl args w) ?_
    refine (against_any x1 x2 y1 y2 _ v hv).mono ?_
    rintro e w6 ⟨rfl,hb6⟩
    refine ⟨_,rfl,?_⟩
    have z6:=hb6.size
    try simp only [World.size_drew] at z6
    replace HB:=HB.trans (hb6.mono (by first | exact HB.size | omega))
    have zHB6:=HB.size
    replace o3:=Own.below o3 hb6
    replace T1:=Rd.below T1 (hb6.mono (by first | exact Nat.le_refl _ | (simp only [World.size_alloc,World.size_setCell,World.size_drew] at *;omega) | omega))
    replace T2:=Rd.below T2 (hb6.mono (by first | exact Nat.le_refl _ | (simp only [World.size_alloc,World.size_setCell,World.size_drew] at *;omega) | omega))
    replace R1:=Rd.below R1 (hb6.mono (by first | exact Nat.le_refl _ | (simp only [World.size_alloc,World.size_setCell,World.size_drew] at *;omega) | omega))
    replace R2:=Rd.below R2 (hb6.mono (by first | exact Nat.le_refl _ | (simp only [World.size_alloc,World.size_setCell,World.size_drew] at *;omega) | omega))
    refine hK6.out _ _ ?su8x6 (fun hHeld=>?ru8x6)
    case su8x6=>((try dsimp only);exact HKK.out _ HB)
    try simp only [zSa,zSb,zSc]
    refine zO 7 (.binOp .leq 3 (.tmp 26) (.const (Value.int IntKind.i64 0)) 3) 4 ?_
    refine wpAnyH_done (by kernel_rfl) ?_ _
    clear hHeld
    go_wp2_with fail
    refine wp_region_held_drew (S:=(fun w'=>w'.cell? ⟨b1,o1,none⟩ = some (.int .i64 x1)∧w'.cell? ⟨b1,o1 + 1,none⟩ = some (.int .i64 x2)∧w'.cell? ⟨b2,o2,none⟩ = some (.int .i64 y1)∧w'.cell? ⟨b2,o2 + 1,none⟩ = some (.int .i64 y2))) (by kernel_rfl) ?_ (fun hHeld=>?_)
    ·replace HB:=Below.drew HB;replace o3:=Own.drew o3;replace T1:=Rd.drew T1;replace T2:=Rd.drew T2;replace R1:=Rd.drew R1;replace R2:=Rd.drew R2;(try dsimp only);exact HKK.out _ HB
    replace HB:=Below.drew HB
    replace o3:=Own.drew o3
    replace T1:=Rd.drew T1
    replace T2:=Rd.drew T2
    replace R1:=Rd.drew R1
    replace R2:=Rd.drew R2
    have zHB:=HB.size
    refine zM 0 (.tmp 5) ?_
    refine zM 1 (.tmp 0) ?_
    refine zO 2 (.indexAddr 259 (.tmp 29) (.const (Value.int IntKind.i64 0))) 0 ?_
    refine zO 3 (.load 262 (.tmp 30)) 262 ?_
    refine zM 6 (.tmp 0) ?_
    refine zO 7 (.slice 259 (.tmp 34) (some (.const (Value.int IntKind.i64 1))) none none) 259 ?_
    refine zR 4 (fun K4 hK4=>?_)
    refine take_build (e:=262) (len:=1) (size:=2) (w.heap.size) (fcells [(x1,x2)]) 4 (Op.buildSlice 259 1 #[(0,Operand.tmp 31)]) 259 rfl rfl rfl (by kernel_rfl) ?eu5t8x4 (by rfl) (by decide) (by first | exact Nat.le_refl _ | (simp only [World.size_alloc,World.size_setCell,World.size_drew] at *;omega) | omega) ?_
    case eu5t8x4=>(go_simp;try (first | with_reducible rfl | (simp [rcells,rcell];done) | (simp [fcells];done) | (simp [tcells];done) | rfl))
    intro gx4 w4 o4 gr4 l4 m4
    have z4:=gr4.size
    try simp only [World.size_drew] at z4
    replace HB:=below_grow HB gr4
    have zHB4:=HB.size
    replace o3:=Own.grow0 o3 gr4
    replace T1:=Rd.grow0 T1 gr4 (by first | exact Nat.le_refl _ | (simp only [World.size_alloc,World.size_setCell,World.size_drew] at *;omega) | omega)
    replace T2:=Rd.grow0 T2 gr4 (by first | exact Nat.le_refl _ | (simp only [World.size_alloc,World.size_setCell,World.size_drew] at *;omega) | omega)
    replace R1:=Rd.grow0 R1 gr4 (by first | exact Nat.le_refl _ | (simp only [World.size_alloc,World.size_setCell,World.size_drew] at *;omega) | omega)
    replace R2:=Rd.grow0 R2 gr4 (by first | exact Nat.le_refl _ | (simp only [World.size_alloc,World.size_setCell,World.size_drew] at *;omega) | omega)
    refine hK4.out _ _ ?su5t8x4 (fun hHeld=>?ru5t8x4)
    case su5t8x4=>((try dsimp only);exact HKK.out _ HB)
    try simp only [zSa,zSb,zSc]
    refine zR 5 (fun K5 hK5=>?_)
    refine take_app El_w 5 (Operand.tmp 28) (Operand.tmp 32) 259 rfl rfl rfl (by kernel_rfl) o3 rfl (o4.rd) rfl (fcells_one _) (by unfold maxLen;omega) (by omega) (by first | exact Nat.le_refl _ | (simp only [World.size_alloc,World.size_setCell,World.size_drew] at *;omega) | omega) ?_
    intro A5 c5 w5 o5 gr5 at5
    have z5:=gr5.size
    try simp only [World.size_drew] at z5
    replace HB:=below_grown HB gr5 o3 (by first | exact Nat.le_refl _ | (simp only [World.size_alloc,World.size_setCell,World.size_drew] at *;omega) | omega)
    have zHB5:=HB.size
    replace T1:=Rd.grownOwn T1 gr5 o3 (by first | exact Nat.le_refl _ | (simp only [World.size_alloc,World.size_setCell,World.size_drew] at *;omega) | omega) (by first | exact Nat.le_refl _ | (simp only [World.size_alloc,World.size_setCell,World.size_drew] at *;omega) | omega)
    replace T2:=Rd.grownOwn T2 gr5 o3 (by first | exact Nat.le_refl _ | (simp only [World.size_alloc,World.size_setCell,World.size_drew] at *;omega) | omega) (by first | exact Nat.le_refl _ | (simp only [World.size_alloc,World.size_setCell,World.size_drew] at *;omega) | omega)
    replace R1:=Rd.grownOwn R1 gr5 o3 (by first | exact Nat.le_refl _ | (simp only [World.size_alloc,World.size_setCell,World.size_drew] at *;omega) | omega) (by first | exact Nat.le_refl _ | (simp only [World.size_alloc,World.size_setCell,World.size_drew] at *;omega) | omega)
    replace R2:=Rd.grownOwn R2 gr5 o3 (by first | exact Nat.le_refl _ | (simp only [World.size_alloc,World.size_setCell,World.size_drew] at *;omega) | omega) (by first | exact Nat.le_refl _ | (simp only [World.size_alloc,World.size_setCell,World.size_drew] at *;omega) | omega)
    refine hK5.out _ _ ?su5t8x5 (fun hHeld=>?ru5t8x5)
    case su5t8x5=>((try dsimp only);exact HKK.out _ HB)
    try simp only [zSa,zSb,zSc]
    refine zO 8 (.assign (.tmp 33)) 259 ?_
    refine zO 9 (.assign (.tmp 35)) 259 ?_
    refine wpAnyH_done (by kernel_rfl) ?_ _
    clear hHeld
    go_wp2_with fail
    go_roundw
    case rel=>exact ⟨P,(y1,y2) :: Q,R ++ [(x1,x2)],_,_,A5,m1 - 1,m2,m3 + 1,d1 - 1,d2,c5,rfl,rfl,rfl,T1,R2,by omega,hd2,by rw [fcells_app];exact o5,HM.out,HNN.out,HB⟩
    case measure=>simp [lenV];omega
   ·have hxy:¬ x1≤y1:=fun e=>hv0 (hvl.2 e)
    have HM:=Lib.hid (show (R ++ [(y1,y2)]) ++ mrg ((x1,x2) :: P) Q = mrg a b by rw [← HR.out,mrg_cons,if_neg hxy];simp)
    have HNN:=Lib.hid (show m1 + (m2 - 1) + (m3 + 1) = n1 + n2 by have:=HN.out;omega)
    clear hvl hxy
    go_wp2_with fail
    refine wp_region_held_drew (S:=(fun w'=>w'.cell? ⟨b1,o1,none⟩ = some (.int .i64 x1)∧w'.cell? ⟨b1,o1 + 1,none⟩ = some (.int .i64 x2)∧w'.cell? ⟨b2,o2,none⟩ = some (.int .i64 y1)∧w'.cell? ⟨b2,o2 + 1,none⟩ = some (.int .i64 y2))) (by kernel_rfl) ?_ (fun hHeld=>?_)
    ·replace HB:=Below.drew HB;replace o3:=Own.drew o3;replace T1:=Rd.drew T1;replace T2:=Rd.drew T2;replace R1:=Rd.drew R1;replace R2:=Rd.drew R2;(try dsimp only);exact HKK.out _ HB
    replace HB:=Below.drew HB
    replace o3:=Own.drew o3
    replace T1:=Rd.drew T1
    replace T2:=Rd.drew T2
    replace R1:=Rd.drew R1
    replace R2:=Rd.drew R2
    have zHB:=HB.size
    refine zM 0 (.tmp 0) ?_
    refine zO 1 (.indexAddr 259 (.tmp 20) (.const (Value.int IntKind.i64 0))) 0 ?_
    refine zO 2 (.load 262 (.tmp 21)) 262 ?_
    refine zM 3 (.tmp 1) ?_
    refine zO 4 (.indexAddr 259 (.tmp 23) (.const (Value.int IntKind.i64 0))) 0 ?_
    refine zO 5 (.load 262 (.tmp 24)) 262 ?_
    refine zR 6 (fun K6 hK6=>?_)
    refine take_calls 6 200 [Operand.tmp 22,Operand.tmp 25] #[262,262] rfl rfl (by kernel_rfl) (fun args w=>run_enter Tryz.func200 (by kernel_rfl) rfl args w) ?_
    refine (against_any x1 x2 y1 y2 _ v hv).mono ?_
    rintro e w6 ⟨rfl,hb6⟩
    refine ⟨_,rfl,?_⟩
    have z6:=hb6.size
    try simp only [World.size_drew] at z6
    replace HB:=HB.trans (hb6.mono (by first | exact HB.size | omega))
    have zHB6:=HB.size
    replace o3:=Own.below o3 hb6
    replace T1:=Rd.below T1 (hb6.mono (by first | exact Nat.le_refl _ | (simp only [World.size_alloc,World.size_setCell,World.size_drew] at *;omega) | omega))
    replace T2:=Rd.below T2 (hb6.mono (by first | exact Nat.le_refl _ | (simp only [World.size_alloc,World.size_setCell,World.size_drew] at *;omega) | omega))
    replace R1:=Rd.below R1 (hb6.mono (by first | exact Nat.le_refl _ | (simp only [World.size_alloc,World.size_setCell,World.size_drew] at *;omega) | omega))
    replace R2:=Rd.below R2 (hb6.mono (by first | exact Nat.le_refl _ | (simp only [World.size_alloc,World.size_setCell,World.size_drew] at *;omega) | omega))
    refine hK6.out _ _ ?su9x6 (fun hHeld=>?ru9x6)
    case su9x6=>((try dsimp only);exact HKK.out _ HB)
    try simp only [zSa,zSb,zSc]
    refine zO 7 (.binOp .leq 3 (.tmp 26) (.const (Value.int IntKind.i64 0)) 3) 4 ?_
    refine wpAnyH_done (by kernel_rfl) ?_ _
    clear hHeld
    go_wp2_with fail
    refine wp_region_held_drew (S:=(fun w'=>w'.cell? ⟨b1,o1,none⟩ = some (.int .i64 x1)∧w'.cell? ⟨b1,o1 + 1,none⟩ = some (.int .i64 x2)∧w'.cell? ⟨b2,o2,none⟩ = some (.int .i64 y1)∧w'.cell? ⟨b2,o2 + 1,none⟩ = some (.int .i64 y2))) (by kernel_rfl) ?_ (fun hHeld=>?_)
    ·replace HB:=Below.drew HB;replace o3:=Own.drew o3;replace T1:=Rd.drew T1;replace T2:=Rd.drew T2;replace R1:=Rd.drew R1;replace R2:=Rd.drew R2;(try dsimp only);exact HKK.out _ HB
    replace HB:=Below.drew HB
    replace o3:=Own.drew o3
    replace T1:=Rd.drew T1
    replace T2:=Rd.drew T2
    replace R1:=Rd.drew R1
    replace R2:=Rd.drew R2
    have zHB:=HB.size
    refine zM 0 (.tmp 5) ?_
    refine zM 1 (.tmp 1) ?_
    refine zO 2 (.indexAddr 259 (.tmp 37) (.const (Value.int IntKind.i64 0))) 0 ?_
    refine zO 3 (.load 262 (.tmp 38)) 262 ?_
    refine zM 6 (.tmp 1) ?_
    refine zO 7 (.slice 259 (.tmp 42) (some (.const (Value.int IntKind.i64 1))) none none) 259 ?_
    refine zR 4 (fun K4 hK4=>?_)
    refine take_build (e:=262) (len:=1) (size:=2) (w.heap.size) (fcells [(y1,y2)]) 4 (Op.buildSlice 259 1 #[(0,Operand.tmp 39)]) 259 rfl rfl rfl (by kernel_rfl) ?eu6t9x4 (by rfl) (by decide) (by first | exact Nat.le_refl _ | (simp only [World.size_alloc,World.size_setCell,World.size_drew] at *;omega) | omega) ?_
    case eu6t9x4=>(go_simp;try (first | with_reducible rfl | (simp [rcells,rcell];done) | (simp [fcells];done) | (simp [tcells];done) | rfl))
    intro gx4 w4 o4 gr4 l4 m4
    have z4:=gr4.size
    try simp only [World.size_drew] at z4
    replace HB:=below_grow HB gr4
    have zHB4:=HB.size
    replace o3:=Own.grow0 o3 gr4
    replace T1:=Rd.grow0 T1 gr4 (by first | exact Nat.le_refl _ | (simp only [World.size_alloc,World.size_setCell,World.size_drew] at *;omega) | omega)
    replace T2:=Rd.grow0 T2 gr4 (by first | exact Nat.le_refl _ | (simp only [World.size_alloc,World.size_setCell,World.size_drew] at *;omega) | omega)
    replace R1:=Rd.grow0 R1 gr4 (by first | exact Nat.le_refl _ | (simp only [World.size_alloc,World.size_setCell,World.size_drew] at *;omega) | omega)
    replace R2:=Rd.grow0 R2 gr4 (by first | exact Nat.le_refl _ | (simp only [World.size_alloc,World.size_setCell,World.size_drew] at *;omega) | omega)
    refine hK4.out _ _ ?su6t9x4 (fun hHeld=>?ru6t9x4)
    case su6t9x4=>((try dsimp only);exact HKK.out _ HB)
    try simp only [zSa,zSb,zSc]
    refine zR 5 (fun K5 hK5=>?_)
    refine take_app El_w 5 (Operand.tmp 36) (Operand.tmp 40) 259 rfl rfl rfl (by kernel_rfl) o3 rfl (o4.rd) rfl (fcells_one _) (by unfold maxLen;omega) (by omega) (by first | exact Nat.le_refl _ | (simp only [World.size_alloc,World.size_setCell,World.size_drew] at *;omega) | omega) ?_
    intro A5 c5 w5 o5 gr5 at5
    have z5:=gr5.size
    try simp only [World.size_drew] at z5
    replace HB:=below_grown HB gr5 o3 (by first | exact Nat.le_refl _ | (simp only [World.size_alloc,World.size_setCell,World.size_drew] at *;omega) | omega)
    have zHB5:=HB.size
    replace T1:=Rd.grownOwn T1 gr5 o3 (by first | exact Nat.le_refl _ | (simp only [World.size_alloc,World.size_setCell,World.size_drew] at *;omega) | omega) (by first | exact Nat.le_refl _ | (simp only [World.size_alloc,World.size_setCell,World.size_drew] at *;omega) | omega)
    replace T2:=Rd.grownOwn T2 gr5 o3 (by first | exact Nat.le_refl _ | (simp only [World.size_alloc,World.size_setCell,World.size_drew] at *;omega) | omega) (by first | exact Nat.le_refl _ | (simp only [World.size_alloc,World.size_setCell,World.size_drew] at *;omega) | omega)
    replace R1:=Rd.grownOwn R1 gr5 o3 (by first | exact Nat.le_refl _ | (simp only [World.size_alloc,World.size_setCell,World.size_drew] at *;omega) | omega) (by first | exact Nat.le_refl _ | (simp only [World.size_alloc,World.size_setCell,World.size_drew] at *;omega) | omega)
    replace R2:=Rd.grownOwn R2 gr5 o3 (by first | exact Nat.le_refl _ | (simp only [World.size_alloc,World.size_setCell,World.size_drew] at *;omega) | omega) (by first | exact Nat.le_refl _ | (simp only [World.size_alloc,World.size_setCell,World.size_drew] at *;omega) | omega)
    refine hK5.out _ _ ?su6t9x5 (fun hHeld=>?ru6t9x5)
    case su6t9x5=>((try dsimp only);exact HKK.out _ HB)
    try simp only [zSa,zSb,zSc]
    refine zO 8 (.assign (.tmp 41)) 259 ?_
    refine zO 9 (.assign (.tmp 43)) 259 ?_
    refine wpAnyH_done (by kernel_rfl) ?_ _
    clear hHeld
    go_wp2_with fail
    go_roundw
    case rel=>exact ⟨(x1,x2) :: P,Q,R ++ [(y1,y2)],_,_,A5,m1,m2 - 1,m3 + 1,d1,d2 - 1,c5,rfl,rfl,rfl,R1,T2,hd1,by omega,by rw [fcells_app];exact o5,HM.out,HNN.out,HB⟩
    case measure=>simp [lenV];omega
end LenW
end Go.Proofs.YtnpncpoiiikafaaGreat
