/- ManW -/
import Derived.Test.YtnpncpoiiikafaaGreatHedIQd
import Derived.Test.YtnpncpoiiikafaaGreatHedCQd
import Derived.Test.YtnpncpoiiikafaaGreatMemQd
set_option linter.unusedVariables false
set_option linter.unusedSimpArgs false
set_option linter.unnecessarySimpa false
set_option maxRecDepth 100000
set_option maxHeartbeats 32000000
namespace Go.Proofs.YtnpncpoiiikafaaGreat
open Go.RowKit
namespace ManW
open SkpW (En ec chkE echeck_any blk9)
open SufW (w64s)
def ecells (l:List En):List Value:=l.flatMap fun e=>(ec e).toList
theorem ecells_len (l:List En):(ecells l).length = l.length * 9:=flatG_len _ 9 (fun _=>rfl) l
theorem ecells_one (l:List En):∀ u ∈ ecells l,u.oneCell' = true:=by
 intro u hu
 obtain ⟨r,_,h⟩:=List.mem_flatMap.1 hu
 simp only [ec,List.mem_cons,List.not_mem_nil,or_false] at h
 rcases h with rfl | rfl | rfl | rfl | rfl | rfl | rfl | rfl | rfl <;> rfl
theorem rd_elen {w:World} {B:Nat} {A:Option Addr} {n:Nat} {l:List En} (h:Rd w B 9 A n (ecells l)):l.length = n:=by have:=h.len;rw [ecells_len] at this;omega
theorem rd_ents {w:World} {B:Nat} {A:Option Addr} {n:Nat} {l:List En} (h:Rd w B 9 A n (ecells l)) (hn:0 < n) :
 ∃ b o,A = some ⟨b,o,none⟩∧b < B∧∀ k (hk:k < l.length),w.cell? ⟨b,o + k * 9,none⟩ = some (.int .i64 l[k].id)∧w.cell? ⟨b,o + k * 9 + 1,none⟩ = some (.int .i64 l[k].gen)∧w.cell? ⟨b,o + k * 9 + 2,none⟩ = some (.int .i64 l[k].frst) ∧
  w.cell? ⟨b,o + k * 9 + 3,none⟩ = some (.bool l[k].shut)∧w.cell? ⟨b,o + k * 9 + 4,none⟩ = some (.int .i64 l[k].count)∧w.cell? ⟨b,o + k * 9 + 5,none⟩ = some (.int .i64 l[k].blocks)∧w.cell? ⟨b,o + k * 9 + 6,none⟩ = some (.int .i64 l[k].early) ∧
  w.cell? ⟨b,o + k * 9 + 7,none⟩ = some (.int .i64 l[k].late)∧w.cell? ⟨b,o + k * 9 + 8,none⟩ = some (.int .i64 l[k].bytes):=by
 obtain ⟨b,o,rfl,hb,hc⟩:=h.at_ hn
 refine ⟨b,o,rfl,hb,fun k hk=>?_⟩
 have key:∀ j v,j < 9 → (ec l[k]).toList[j]? = some v → w.cell? ⟨b,o + (k * 9 + j),none⟩ = some v:=by
  intro j v hj hv
  have hg:=flatG_get (fun e:En=>(ec e).toList) 9 (fun _=>rfl) l k hk j hj
  rw [hv] at hg
  obtain ⟨h1,h2⟩:=List.getElem?_eq_some_iff.1 hg
  rw [hc (k * 9 + j) h1]
  exact congrArg some h2
 refine ⟨key 0 _ (by omega) rfl,?_,?_,?_,?_,?_,?_,?_,?_⟩
 all_goals rw [Nat.add_assoc]
 ·exact key 1 _ (by omega) rfl
 ·exact key 2 _ (by omega) rfl
 ·exact key 3 _ (by omega) rfl
 ·exact key 4 _ (by omega) rfl
 ·exact key 5 _ (by omega) rfl
 ·exact key 6 _ (by omega) rfl
 ·exact key 7 _ (by omega) rfl
 ·exact key 8 _ (by omega) rfl
theorem chkE_in {e:En} (hs:e.shut = true) (h:chkE e = 0):1≤e.count∧e.count≤1000000000∧1≤e.frst∧e.frst≤1000000000:=SkpW.chkE_le e hs h
theorem follows_any (a b:En) (w:World) (v:Bool) (hv:nextE a b = v) (ha:chkE a = 0) :
 Calls Tryz.prog 160 #[.agg (ec a),.agg (ec b)] w fun e w'=>e = .returned (.bool v)∧Below w.heap.size w w':=by
 have hin:=fun hs=>chkE_in (e:=a) hs ha
 obtain ⟨a1,a2,a3,a4,a5,a6,a7,a8,a9⟩:=a
 obtain ⟨b1,b2,b3,b4,b5,b6,b7,b8,b9⟩:=b
 unfold nextE at hv
 dsimp only at hv hin
 have HB:Below w.heap.size w ((w.alloc (.cells (ec ⟨a1,a2,a3,a4,a5,a6,a7,a8,a9⟩) 107)).alloc (.cells (ec ⟨b1,b2,b3,b4,b5,b6,b7,b8,b9⟩) 107)):=SkpW.hb2 w _ _
 clear ha
 cases a4 with
 | false =>
  rw [Bool.false_and] at hv
  subst hv
  clear hin
  go_enter Tryz.func160,Tryz.ntmps160
  go_wp2_with fail
  go_ret
  exact ⟨rfl,HB⟩
 | true =>
  rw [Bool.true_and] at hv
  have hi:=hin rfl
  have hw:IntKind.i64.wrap (a3 + a5) = a3 + a5:=w64s (by omega) (by omega)
  clear hin hi
  by_cases k1:a1 < b1
  ·rw [decide_eq_true k1,Bool.true_and] at hv
   by_cases k2:b3 = a3 + a5
   ·rw [decide_eq_true k2,Bool.true_and] at hv
    have k2b:(b3 == a3 + a5) = true:=by simp [k2]
    clear k2
    cases b4 with
    | false =>
     simp only [Bool.not_false,Bool.true_or] at hv
     subst hv
     go_enter Tryz.func160,Tryz.ntmps160
     go_wp2_with fail
     go_ret
     exact ⟨rfl,HB⟩
    | true =>
     simp only [Bool.not_true,Bool.false_or] at hv
     go_enter Tryz.func160,Tryz.ntmps160
     go_wp2_with fail
     go_ret
     exact ⟨by rw [← hv];rfl,HB⟩
   ·rw [decide_eq_false k2,Bool.false_and] at hv
    subst hv
    have k2b:(b3 == a3 + a5) = false:=by simp [k2]
    clear k2
    go_enter Tryz.func160,Tryz.ntmps160
    go_wp2_with fail
    go_ret
    exact ⟨rfl,HB⟩
  ·rw [decide_eq_false k1,Bool.false_and] at hv
   subst hv
   go_enter Tryz.func160,Tryz.ntmps160
   go_wp2_with fail
   go_ret
   exact ⟨rfl,HB⟩
def prevE (l:List En):Nat → Option En
 | 0=>none
 | k + 1=>l[k]?
theorem rowE_step (l:List En) (k:Nat) (h:k < l.length):rowE (prevE l k) (l.drop k) = (decide (chkE l[k] = 0) && ((match prevE l k with | none=>true | some a=>nextE a l[k]) && rowE (prevE l (k + 1)) (l.drop (k + 1)))):=by
 rw [List.drop_eq_getElem_cons h]
 have e:prevE l (k + 1) = some l[k]:=List.getElem?_eq_getElem h
 rw [e]
 cases hp:prevE l k with
 | none=>simp [rowE]
 | some a=>simp [rowE]
theorem chkE_two (e:En):chkE e = 0 ∨ chkE e = 240:=by
 unfold chkE
 by_cases h:(SkpW.headB e && (if e.shut then SkpW.sealB e else SkpW.zeroB e)) = true
 ·rw [if_pos h];exact .inl rfl
 ·rw [if_neg h];exact .inr rfl
theorem Row_any (A:Option Addr) (n c:Nat) (l:List En) (w:World) (h:Rd w w.heap.size 9 A n (ecells l)) (hn:n≤1000000) (v:Int) (hv:rowEV l = v) :
 Calls Tryz.prog 113 #[.slice A n c] w fun e w'=>e = .returned (.int .i64 v)∧Below w.heap.size w w':=by
 have hl:=rd_elen h
 unfold rowEV at hv
 by_cases h1:n < 1
 ·rw [if_pos (.inl (by omega))] at hv
  subst hv
  have hI:(n:Int) < 1:=by omega
  go_enter Tryz.func113,Tryz.ntmps113
  go_wp2_with fail
  go_ret
  exact ⟨rfl,Below.refl _ _⟩
 ·have hI1:¬ (n:Int) < 1:=by omega
  by_cases h2:100 < n
  ·rw [if_pos (.inr (.inl (by omega)))] at hv
   subst hv
   have hI:(100:Int) < (n:Int):=by omega
   go_enter Tryz.func113,Tryz.ntmps113
   go_wp2_with fail
   go_ret
   exact ⟨rfl,Below.refl _ _⟩
  ·have hI2:¬ (100:Int) < (n:Int):=by omega
   obtain ⟨b,o,rfl,hb,hcc⟩:=rd_ents h (by omega)
   obtain ⟨kk,hkk⟩:∃ kk,n = kk + 1:=⟨n - 1,by omega⟩
   have hkl:kk < l.length:=by omega
   have z3:=(hcc kk hkl).2.2.2.1
   have hw1:IntKind.i64.wrap ((n:Int) - 1) = (kk:Int):=by rw [w64s (by omega) (by omega)];omega
   have hk1:(kk:Int) < (n:Int):=by omega
   have hk0:(0:Int)≤(kk:Int):=by omega
   have hlast:l[l.length - 1]? = some l[kk]:=by rw [show l.length - 1 = kk by omega];exact List.getElem?_eq_getElem hkl
   obtain ⟨sh,hsh⟩:∃ sh,l[kk].shut = sh:=⟨_,rfl⟩
   rw [hsh] at z3
   have hs:(l[l.length - 1]?.getD enZ).shut = sh:=by rw [hlast];exact hsh
   clear hcc hkk hlast hsh
   cases sh with
   | true =>
    rw [if_pos (.inr (.inr hs))] at hv
    subst hv
    clear hs
    go_enter Tryz.func113,Tryz.ntmps113
    go_wp2_with fail
    go_ret
    exact ⟨rfl,Below.refl _ _⟩
   | false =>
    rw [if_neg (by rintro (h | h | h) <;> first | omega | (rw [hs] at h;cases h))] at hv
    clear hs
    have HL:=Lib.hid hl
    have HV:=Lib.hid (show (if rowE (prevE l 0) (l.drop 0) = true then (0:Int) else 240) = v from hv)
    clear hv hl hkl
    go_enter Tryz.func113,Tryz.ntmps113
    go_wp2_with fail
    clear z3 hw1 hk1 hk0
    go_loopw [25] (fun iv wr=>∃ k:Nat,iv = .int .i64 k∧k≤n∧Hid ((if rowE (prevE l k) (l.drop k) = true then (0:Int) else 240) = v)∧(∀ a,prevE l k = some a → chkE a = 0)∧Below w.heap.size w wr) (fun iv _=>n - (intOf iv).toNat)
    case atStart=>exact ⟨0,rfl,by omega,HV,by simp [prevE],Below.refl _ _⟩
    case round =>
     clear HV
     obtain ⟨k,rfl,hk,HV,hp,HB⟩:=hrel
     by_cases hlt:k < n
     ·have hkl:k < l.length:=by rw [HL.out];exact hlt
      obtain ⟨b',o',he,_,hcc⟩:=rd_ents (h.below HB) (by omega)
      simp only [Option.some.injEq,Addr.mk.injEq] at he
      obtain ⟨rfl,rfl,_⟩:=he
      obtain ⟨e0,e1,e2,e3,e4,e5,e6,e7,e8⟩:=hcc k hkl
      have HCC:=Lib.hid hcc
      clear hcc
      have HS:=Lib.hid (rowE_step l k hkl)
      have hkI:(k:Int) < (n:Int):=by omega
      have hk0:(0:Int)≤(k:Int):=by omega
      have hk1:IntKind.i64.wrap ((k:Int) + 1) = (k:Int) + 1:=w64s (by omega) (by omega)
      have HP1:Hid (prevE l (k + 1) = some l[k]):=Lib.hid (List.getElem?_eq_getElem hkl)
      have hws:=HB.size
      have CA:=fun w=>echeck_any l[k] _ rfl w
      obtain ⟨m,hm⟩:∃ m,l[k] = m:=⟨_,rfl⟩
      rw [hm] at e0 e1 e2 e3 e4 e5 e6 e7 e8 CA HS HP1
      obtain ⟨x,hx⟩:∃ x,chkE m = x:=⟨_,rfl⟩
      have hx2:=chkE_two m
      rw [hx] at CA HS hx2
      obtain ⟨m0,m1,m2,m3,m4,m5,m6,m7,m8⟩:=m
      have HMX:=Lib.hid hx
      obtain ⟨W0,hW0⟩:∃ W0,wr.alloc (.cells (ec ⟨m0,m1,m2,m3,m4,m5,m6,m7,m8⟩) 107) = W0:=⟨_,rfl⟩
      have hW0':wr.alloc (.cells #[.int .i64 m0,.int .i64 m1,.int .i64 m2,.bool m3,.int .i64 m4,.int .i64 m5,.int .i64 m6,.int .i64 m7,.int .i64 m8] 107) = W0:=hW0
      have g1:Blk W0 wr.heap.size 107 (ec ⟨m0,m1,m2,m3,m4,m5,m6,m7,m8⟩):=hW0 ▸ Blk.new _ _ _
      have hB0:Below w.heap.size w W0:=hW0 ▸ HB.alloc HB.size _
      have hBr:Below wr.heap.size wr W0:=hW0 ▸ (Below.refl _ wr).alloc (Nat.le_refl _) _
      have hz0:wr.heap.size + 1≤W0.heap.size:=by rw [← hW0];simp
      obtain ⟨⟨c0,c1,c2,c3,c4,c5,c6,c7,c8⟩,_⟩:=blk9 g1
      have HW:=Lib.hid hW0'
      have hbz:b < wr.heap.size + 1:=by omega
      have CA0:=CA W0
      dsimp only at e0 e1 e2 e3 e4 e5 e6 e7 e8
      have HG1:=Lib.hid g1
      clear hW0 hW0' g1 hm hx CA
      go_wp2_with fail
      rw [HW.out]
      refine CA0.mono ?_
      clear CA0 c0 c1 c2 c3 c4 c5 c6 c7 c8 e0 e1 e2 e3 e4 e5 e6 e7 e8
      rintro e w5 ⟨rfl,hb5⟩
      have g1:=HG1.out.below hb5 HG1.out.lt
      obtain ⟨⟨c0,c1,c2,c3,c4,c5,c6,c7,c8⟩,_⟩:=blk9 g1
      have hB5:Below w.heap.size w w5:=hB0.trans (hb5.mono hB0.size)
      have hBr5:Below wr.heap.size wr w5:=hBr.trans (hb5.mono hBr.size)
      have hz5:wr.heap.size + 1≤w5.heap.size:=Nat.le_trans hz0 hb5.size
      clear hb5 hB0 hBr HG1 g1 HW hz0
      rcases hx2 with hx2 | hx2
      ·subst hx2
       by_cases hkz:k = 0
       ·have HV2:Hid ((if rowE (prevE l (k + 1)) (l.drop (k + 1)) = true then (0:Int) else 240) = v):=Lib.hid (by
         have hv:=HV.out
         rw [HS.out] at hv
         subst hkz
         simpa [prevE] using hv)
        have hgt:¬ (0:Int) < (k:Int):=by omega
        have hgN:¬ 0 < k:=by omega
        have hgb:decide (0 < k) = false:=by simp;omega
        clear hkz hp HV HS
        go_wp2_with fail
        refine wp_region_held_drew (S:=(fun w'=>(∀ b o,b < wr.heap.size + 1 → w'.cell? ⟨b,o,none⟩ = w5.cell? ⟨b,o,none⟩)∧wr.heap.size + 1≤w'.heap.size∧Below w.heap.size w w')) (by kernel_rfl) ?_ (fun hHeld=>?_)
        ·(try dsimp only);(first | assumption | exact keep_next (by assumption) (by assumption) (by first | exact Nat.le_refl _ | (simp only [World.size_alloc,World.size_setCell,World.size_drew];omega) | (simp;done) | (simp;omega) | omega) | exact keep_alloc (by assumption) (by first | exact Nat.le_refl _ | (simp only [World.size_alloc,World.size_setCell,World.size_drew];omega) | (simp;done) | (simp;omega) | omega) | exact keep_start (by assumption) (by first | assumption | omega) | exact keep_drew (by assumption))
        refine zM 0 (.tmp 3) ?_
        refine zO 1 (.binOp .gtr 3 (.tmp 35) (.const (Value.int IntKind.i64 0)) 3) 4 ?_
        refine zM 2 (.tmp 36) ?_
        refine zK 3 ?_
        refine zK 4 ?_
        refine zK 5 ?_
        refine zK 6 ?_
        refine zK 7 ?_
        refine zK 8 ?_
        refine zK 9 ?_
        refine zK 10 ?_
        refine zO 11 (.pick (.tmp 37) (.tmp 45) (.const (Value.bool false))) 4 ?_
        refine wpAnyH_done (by kernel_rfl) ?_ _
        go_wp2_with fail
        go_roundw
        case rel=>exact ⟨k + 1,by go_num,by omega,HV2,fun a ha=>by rw [HP1.out] at ha;obtain rfl:=Option.some.inj ha;exact HMX.out,(‹(∀ b o,_ → _)∧_∧_›).2.2⟩
        case measure=>simp [intOf];omega
       ·obtain ⟨j,hkj⟩:∃ j,k = j + 1:=⟨k - 1,by omega⟩
        obtain ⟨p,hpj⟩:∃ p,l[j]'(by omega) = p:=⟨_,rfl⟩
        have hpp:prevE l k = some p:=by rw [hkj,← hpj];exact List.getElem?_eq_getElem (by omega)
        have hpa:=hp p hpp
        obtain ⟨q0,q1,q2,q3,q4,q5,q6,q7,q8⟩:=HCC.out j (by omega)
        rw [hpj] at q0 q1 q2 q3 q4 q5 q6 q7 q8
        have CF:=fun w=>follows_any p ⟨m0,m1,m2,m3,m4,m5,m6,m7,m8⟩ w _ rfl hpa
        have HS2:=HS.out
        rw [hpp] at HS2
        dsimp only at HS2
        obtain ⟨y,hy⟩:∃ y,nextE p ⟨m0,m1,m2,m3,m4,m5,m6,m7,m8⟩ = y:=⟨_,rfl⟩
        rw [hy] at CF HS2
        have HS3:=Lib.hid HS2
        have HPP:=Lib.hid hpp
        obtain ⟨p0,p1,p2,p3,p4,p5,p6,p7,p8⟩:=p
        dsimp only at q0 q1 q2 q3 q4 q5 q6 q7 q8
        have r0:w5.cell? ⟨b,o + j * 9,none⟩ = some (.int .i64 p0):=(hBr5.cell (p:=⟨b,o + j * 9,none⟩) (by dsimp only;omega)).trans q0
        have r1:w5.cell? ⟨b,o + j * 9 + 1,none⟩ = some (.int .i64 p1):=(hBr5.cell (p:=⟨b,o + j * 9 + 1,none⟩) (by dsimp only;omega)).trans q1
        have r2:w5.cell? ⟨b,o + j * 9 + 2,none⟩ = some (.int .i64 p2):=(hBr5.cell (p:=⟨b,o + j * 9 + 2,none⟩) (by dsimp only;omega)).trans q2
        have r3:w5.cell? ⟨b,o + j * 9 + 3,none⟩ = some (.bool p3):=(hBr5.cell (p:=⟨b,o + j * 9 + 3,none⟩) (by dsimp only;omega)).trans q3
        have r4:w5.cell? ⟨b,o + j * 9 + 4,none⟩ = some (.int .i64 p4):=(hBr5.cell (p:=⟨b,o + j * 9 + 4,none⟩) (by dsimp only;omega)).trans q4
        have r5:w5.cell? ⟨b,o + j * 9 + 5,none⟩ = some (.int .i64 p5):=(hBr5.cell (p:=⟨b,o + j * 9 + 5,none⟩) (by dsimp only;omega)).trans q5
        have r6:w5.cell? ⟨b,o + j * 9 + 6,none⟩ = some (.int .i64 p6):=(hBr5.cell (p:=⟨b,o + j * 9 + 6,none⟩) (by dsimp only;omega)).trans q6
        have r7:w5.cell? ⟨b,o + j * 9 + 7,none⟩ = some (.int .i64 p7):=(hBr5.cell (p:=⟨b,o + j * 9 + 7,none⟩) (by dsimp only;omega)).trans q7
        have r8:w5.cell? ⟨b,o + j * 9 + 8,none⟩ = some (.int .i64 p8):=(hBr5.cell (p:=⟨b,o + j * 9 + 8,none⟩) (by dsimp only;omega)).trans q8
        have hj1:IntKind.i64.wrap ((k:Int) - 1) = (j:Int):=by rw [w64s (by omega) (by omega)];omega
        have hj3:(j:Int) < (n:Int):=by omega
        have hj0:(0:Int)≤(j:Int):=by omega
        have hgt:(0:Int) < (k:Int):=by omega
        have hgN:0 < k:=by omega
        clear hkj hkz HS HS2 hpp hpj hy hp HCC q0 q1 q2 q3 q4 q5 q6 q7 q8
        cases y with
        | false =>
         have hv:=HV.out
         rw [HPP.out,HS3.out,Bool.false_and,Bool.and_false,if_neg (by decide)] at hv
         subst hv
         clear HV HS3
         go_wp2_with fail
         refine wp_region_held_drew (S:=(fun w'=>(∀ b o,b < wr.heap.size + 1 → w'.cell? ⟨b,o,none⟩ = w5.cell? ⟨b,o,none⟩)∧wr.heap.size + 1≤w'.heap.size∧Below w.heap.size w w')) (by kernel_rfl) ?_ (fun hHeld=>?_)
         ·(try dsimp only);(first | assumption | exact keep_next (by assumption) (by assumption) (by first | exact Nat.le_refl _ | (simp only [World.size_alloc,World.size_setCell,World.size_drew];omega) | (simp;done) | (simp;omega) | omega) | exact keep_alloc (by assumption) (by first | exact Nat.le_refl _ | (simp only [World.size_alloc,World.size_setCell,World.size_drew];omega) | (simp;done) | (simp;omega) | omega) | exact keep_start (by assumption) (by first | assumption | omega) | exact keep_drew (by assumption))
         refine zM 0 (.tmp 3) ?_
         refine zO 1 (.binOp .gtr 3 (.tmp 35) (.const (Value.int IntKind.i64 0)) 3) 4 ?_
         refine zM 2 (.tmp 36) ?_
         refine zM 3 (.tmp 0) ?_
         refine zM 4 (.tmp 3) ?_
         refine zO 5 (.binOp .sub 3 (.tmp 39) (.const (Value.int IntKind.i64 1)) 3) 3 ?_
         refine zO 6 (.indexAddr 47 (.tmp 38) (.tmp 40)) 0 ?_
         refine zO 7 (.load 107 (.tmp 41)) 107 ?_
         refine zO 8 (.load 107 (.tmp 4)) 107 ?_
         refine take_call 9 160 [Operand.tmp 42,Operand.tmp 43] #[107,107] (by kernel_rfl) rfl rfl rfl rfl (fun args w=>run_enter Tryz.func160 (by kernel_rfl) rfl args w) ?_
         refine (CF _).mono ?_
         rintro e w1 ⟨rfl,hb1⟩
         refine ⟨_,rfl,?_,fun hHeld=>?_⟩
         ·(try dsimp only);(first | assumption | exact keep_next (by assumption) (by assumption) (by first | exact Nat.le_refl _ | (simp only [World.size_alloc,World.size_setCell,World.size_drew];omega) | (simp;done) | (simp;omega) | omega) | exact keep_alloc (by assumption) (by first | exact Nat.le_refl _ | (simp only [World.size_alloc,World.size_setCell,World.size_drew];omega) | (simp;done) | (simp;omega) | omega) | exact keep_start (by assumption) (by first | assumption | omega) | exact keep_drew (by assumption))
         simp only [zSa,zSb,zSc]
         refine zO 10 (.unOp .not 4 (.tmp 44)) 4 ?_
         refine zO 11 (.pick (.tmp 37) (.tmp 45) (.const (Value.bool false))) 4 ?_
         refine wpAnyH_done (by kernel_rfl) ?_ _
         go_wp2_with fail
         go_ret
         exact ⟨rfl,(‹(∀ b o,_ → _)∧_∧_›).2.2⟩
        | true =>
         have HV2:Hid ((if rowE (prevE l (k + 1)) (l.drop (k + 1)) = true then (0:Int) else 240) = v):=Lib.hid (by
          have hv:=HV.out
          rw [HPP.out,HS3.out,Bool.true_and] at hv
          simpa using hv)
         clear HV HS3
         go_wp2_with fail
         refine wp_region_held_drew (S:=(fun w'=>(∀ b o,b < wr.heap.size + 1 → w'.cell? ⟨b,o,none⟩ = w5.cell? ⟨b,o,none⟩)∧wr.heap.size + 1≤w'.heap.size∧Below w.heap.size w w')) (by kernel_rfl) ?_ (fun hHeld=>?_)
         ·(try dsimp only);(first | assumption | exact keep_next (by assumption) (by assumption) (by first | exact Nat.le_refl _ | (simp only [World.size_alloc,World.size_setCell,World.size_drew];omega) | (simp;done) | (simp;omega) | omega) | exact keep_alloc (by assumption) (by first | exact Nat.le_refl _ | (simp only [World.size_alloc,World.size_setCell,World.size_drew];omega) | (simp;done) | (simp;omega) | omega) | exact keep_start (by assumption) (by first | assumption | omega) | exact keep_drew (by assumption))
         refine zM 0 (.tmp 3) ?_
         refine zO 1 (.binOp .gtr 3 (.tmp 35) (.const (Value.int IntKind.i64 0)) 3) 4 ?_
         refine zM 2 (.tmp 36) ?_
         refine zM 3 (.tmp 0) ?_
         refine zM 4 (.tmp 3) ?_
         refine zO 5 (.binOp .sub 3 (.tmp 39) (.const (Value.int IntKind.i64 1)) 3) 3 ?_
         refine zO 6 (.indexAddr 47 (.tmp 38) (.tmp 40)) 0 ?_
         refine zO 7 (.load 107 (.tmp 41)) 107 ?_
         refine zO 8 (.load 107 (.tmp 4)) 107 ?_
         refine take_call 9 160 [Operand.tmp 42,Operand.tmp 43] #[107,107] (by kernel_rfl) rfl rfl rfl rfl (fun args w=>run_enter Tryz.func160 (by kernel_rfl) rfl args w) ?_
         refine (CF _).mono ?_
         rintro e w1 ⟨rfl,hb1⟩
         refine ⟨_,rfl,?_,fun hHeld=>?_⟩
         ·(try dsimp only);(first | assumption | exact keep_next (by assumption) (by assumption) (by first | exact Nat.le_refl _ | (simp only [World.size_alloc,World.size_setCell,World.size_drew];omega) | (simp;done) | (simp;omega) | omega) | exact keep_alloc (by assumption) (by first | exact Nat.le_refl _ | (simp only [World.size_alloc,World.size_setCell,World.size_drew];omega) | (simp;done) | (simp;omega) | omega) | exact keep_start (by assumption) (by first | assumption | omega) | exact keep_drew (by assumption))
         simp only [zSa,zSb,zSc]
         refine zO 10 (.unOp .not 4 (.tmp 44)) 4 ?_
         refine zO 11 (.pick (.tmp 37) (.tmp 45) (.const (Value.bool false))) 4 ?_
         refine wpAnyH_done (by kernel_rfl) ?_ _
         go_wp2_with fail
         go_roundw
         case rel=>exact ⟨k + 1,by go_num,by omega,HV2,fun a ha=>by rw [HP1.out] at ha;obtain rfl:=Option.some.inj ha;exact HMX.out,(‹(∀ b o,_ → _)∧_∧_›).2.2⟩
         case measure=>simp [intOf];omega
      ·subst hx2
       have hv:=HV.out
       rw [HS.out] at hv
       simp at hv
       subst hv
       clear HV HS
       go_wp2_with fail
       go_ret
       exact ⟨rfl,hB5⟩
     ·have hkI:¬ (k:Int) < (n:Int):=by omega
      have hv:=HV.out
      rw [List.drop_of_length_le (by rw [HL.out];omega)] at hv
      have e:rowE (prevE l k) [] = true:=by cases prevE l k <;> rfl
      rw [e,if_pos rfl] at hv
      subst hv
      clear HV e
      go_wp2_with fail
      go_ret
      exact ⟨rfl,HB⟩
end ManW
end Go.Proofs.YtnpncpoiiikafaaGreat
