/- FrP -/
import Derived.Test.YtnpncpoiiikafaaGreatZruPQt
import Derived.Test.YtnpncpoiiikafaaGreatZrXQt
import Derived.Test.YtnpncpoiiikafaaGreatAppQt
import Derived.Test.YtnpncpoiiikafaaGreatKmpPQt
import Derived.WalkMore
import Derived.ScopeJumps
import Derived.Deep.LoopGhost
import Derived.Test.YtnpncpoiiikafaaGreatRecJQt
set_option linter.unusedVariables false
set_option linter.unusedSimpArgs false
set_option linter.unnecessarySimpa false
set_option maxRecDepth 100000
set_option maxHeartbeats 32000000
namespace Go.Proofs.YtnpncpoiiikafaaGreat
namespace FraW
structure Fr where
 kind:Int
 body:List UInt8
 at_:Int
 tz:Int
def frZ:Fr:=⟨0,[],0,0⟩
def kindB (k:Int):Bool:=decide (1≤k) && decide (k≤4)
def kindAt (s:List UInt8) (a:Int):Int:=((s[a.toNat]?.getD 0).toNat:Int)
def getF (S:List UInt8 → Int) (s:List UInt8) (a:Int):Fr × Int :=
 if a < 0 ∨ (s.length:Int) < a then (frZ,2) else
 if (s.length:Int) - a < 5 then (frZ,4) else
 if kindB (kindAt s a) = false then (frZ,160) else
 if 60000 < (unfixV s (a + 1) 4).1 then (frZ,3) else
 if (s.length:Int) - a - 9 < (unfixV s (a + 1) 4).1 then (frZ,4) else
 if S ((s.drop a.toNat).take (5 + (unfixV s (a + 1) 4).1.toNat)) = (unfixV s (a + 5 + (unfixV s (a + 1) 4).1) 4).1 then
  (⟨kindAt s a,(s.drop (a.toNat + 5)).take (unfixV s (a + 1) 4).1.toNat,a,a + 9 + (unfixV s (a + 1) 4).1⟩,0) else (frZ,7)
theorem drop_take (s:List UInt8) (a k n:Nat) (h:a + k≤n):((s.take n).drop a).take k = (s.drop a).take k:=by
 rw [List.drop_take,List.take_take,Nat.min_eq_left (by omega)]
theorem unfix4 (s:List UInt8) (a:Nat) (h:a + 4≤s.length):unfixV s (a:Int) 4 = ((fval ((s.drop a).take 4):Int),(a:Int) + 4,0)∧fval ((s.drop a).take 4) < 4294967296:=by
 have hlt:fval ((s.drop a).take 4) < 4294967296:=by
  have:=fval_lt ((s.drop a).take 4)
  have hl:((s.drop a).take 4).length = 4:=by rw [List.length_take,List.length_drop];omega
  rw [hl] at this
  exact this
 refine ⟨?_,hlt⟩
 unfold unfixV
 have e:(4:Int).toNat = 4:=rfl
 rw [if_neg (by omega),if_neg (by omega),e,Int.toNat_natCast,if_neg (by omega)]
theorem unfix4_take (s:List UInt8) (a n:Nat) (h:a + 4≤n) (hn:n≤s.length):unfixV (s.take n) (a:Int) 4 = unfixV s (a:Int) 4:=by
 rw [(unfix4 s a (by omega)).1,(unfix4 (s.take n) a (by rw [List.length_take];omega)).1,drop_take s a 4 n h]
theorem kindAt_take (s:List UInt8) (a n:Nat) (h:a < n):kindAt (s.take n) (a:Int) = kindAt s (a:Int):=by
 unfold kindAt
 rw [Int.toNat_natCast,List.getElem?_take,if_pos h]
theorem getF_ok {S:List UInt8 → Int} {s:List UInt8} {a:Nat} (h:(getF S s a).2 = 0) :
 (getF S s a).1.at_ = a∧a + 9≤(getF S s a).1.tz∧(getF S s a).1.tz≤s.length∧(getF S s a).1.tz≤a + 60009∧(getF S s a).1.tz = (a:Int) + 9 + (getF S s a).1.body.length∧(getF S s a).1.body.length≤60000∧1≤(getF S s a).1.kind∧(getF S s a).1.kind≤4:=by
 unfold getF at h ⊢
 by_cases h1:(a:Int) < 0 ∨ (s.length:Int) < a
 ·rw [if_pos h1] at h;simp at h
 ·rw [if_neg h1] at h ⊢
  by_cases h2:(s.length:Int) - a < 5
  ·rw [if_pos h2] at h;simp at h
  ·rw [if_neg h2] at h ⊢
   by_cases h3:kindB (kindAt s a) = false
   ·rw [if_pos h3] at h;simp at h
   ·rw [if_neg h3] at h ⊢
    by_cases h4:60000 < (unfixV s ((a:Int) + 1) 4).1
    ·rw [if_pos h4] at h;simp at h
    ·rw [if_neg h4] at h ⊢
     by_cases h5:(s.length:Int) - a - 9 < (unfixV s ((a:Int) + 1) 4).1
     ·rw [if_pos h5] at h;simp at h
     ·rw [if_neg h5] at h ⊢
      have hu:=(unfix4 s (a + 1) (by omega)).1
      rw [show ((a + 1:Nat):Int) = (a:Int) + 1 from rfl] at hu
      rw [hu] at h4 h5 h ⊢
      dsimp only at h4 h5 h ⊢
      generalize fval ((s.drop (a + 1)).take 4) = z at *
      split at h
      ·next h6 =>
       rw [if_pos h6]
       simp only [kindB,Bool.and_eq_true,decide_eq_true_eq,Bool.not_eq_false] at h3
       rw [Int.toNat_natCast,Int.toNat_natCast,List.length_take,List.length_drop]
       dsimp only
       refine ⟨rfl,by omega,by omega,by omega,by omega,by omega,h3.1,h3.2⟩
      ·next h6=>simp at h
theorem getF_take {S:List UInt8 → Int} {s:List UInt8} {a n:Nat} (h:(getF S s a).2 = 0) (h1:(getF S s a).1.tz≤n) (hn:n≤s.length):getF S (s.take n) a = getF S s a:=by
 obtain ⟨k1,k2,k3,k4,k5,k6,k7,k8⟩:=getF_ok h
 unfold getF at h h1 k5 k6 ⊢
 have hl:(s.take n).length = n:=by rw [List.length_take];omega
 rw [hl,kindAt_take s a n (by omega)]
 have hu1:=unfix4_take s (a + 1) n (by omega) hn
 rw [show ((a + 1:Nat):Int) = (a:Int) + 1 from rfl] at hu1
 rw [hu1]
 by_cases h2:(a:Int) < 0 ∨ (s.length:Int) < a
 ·rw [if_pos h2] at h;simp at h
 ·rw [if_neg h2] at h h1 k5 k6 ⊢
  by_cases h3:(s.length:Int) - a < 5
  ·rw [if_pos h3] at h;simp at h
  ·rw [if_neg h3] at h h1 k5 k6 ⊢
   by_cases h4:kindB (kindAt s a) = false
   ·rw [if_pos h4] at h;simp at h
   ·rw [if_neg h4] at h h1 k5 k6 ⊢
    by_cases h5:60000 < (unfixV s ((a:Int) + 1) 4).1
    ·rw [if_pos h5] at h;simp at h
    ·rw [if_neg h5] at h h1 k5 k6 ⊢
     by_cases h6:(s.length:Int) - a - 9 < (unfixV s ((a:Int) + 1) 4).1
     ·rw [if_pos h6] at h;simp at h
     ·rw [if_neg h6] at h h1 k5 k6 ⊢
      have hu:=(unfix4 s (a + 1) (by omega)).1
      rw [show ((a + 1:Nat):Int) = (a:Int) + 1 from rfl] at hu
      rw [hu] at h5 h6 h h1 k5 k6 ⊢
      dsimp only at h5 h6 h h1 k5 k6 ⊢
      generalize fval ((s.drop (a + 1)).take 4) = z at *
      split at h
      ·next h7 =>
       rw [if_pos h7] at h1
       dsimp only at h1
       rw [if_neg (by omega),if_neg (by omega),if_neg (by omega)]
       have hu2:=unfix4_take s (a + 5 + z) n (by omega) hn
       rw [show ((a + 5 + z:Nat):Int) = (a:Int) + 5 + (z:Int) from by omega] at hu2
       rw [hu2,Int.toNat_natCast,Int.toNat_natCast,drop_take s a (5 + z) n (by omega),drop_take s (a + 5) z n (by omega),if_neg h4,if_neg h5]
      ·next h7=>simp at h
theorem getF_end (S:List UInt8 → Int) (s:List UInt8) (n:Nat) (hn:n≤s.length):getF S (s.take n) n = (frZ,4):=by
 unfold getF
 have hl:(s.take n).length = n:=by rw [List.length_take];omega
 rw [hl,if_neg (by omega),if_pos (by omega)]
def framesF (S:List UInt8 → Int) (s:List UInt8):Nat → Int → List Fr
 | 0,_=>[]
 | f + 1,a=>if (getF S s a).2 = 0 then (getF S s a).1 :: framesF S s f (getF S s a).1.tz else []
def framesV (S:List UInt8 → Int) (s:List UInt8) (a:Int):List Fr:=framesF S s (s.length + 1) a
theorem framesF_yes {S:List UInt8 → Int} {s:List UInt8} {f:Nat} {a:Int} (h:(getF S s a).2 = 0):framesF S s (f + 1) a = (getF S s a).1 :: framesF S s f (getF S s a).1.tz:=by rw [framesF,if_pos h]
theorem framesF_no {S:List UInt8 → Int} {s:List UInt8} {f:Nat} {a:Int} (h:(getF S s a).2 ≠ 0):framesF S s f a = []:=by
 cases f with
 | zero=>rfl
 | succ f=>rw [framesF,if_neg h]
theorem framesF_fuel {S:List UInt8 → Int} {s:List UInt8}:∀ (f g a:Nat),s.length < a + f → s.length < a + g → framesF S s f a = framesF S s g a
 | f,g,a,h1,h2=>by
  by_cases h:(getF S s a).2 = 0
  ·obtain ⟨_,k2,k3,_⟩:=getF_ok h
   obtain ⟨t,ht⟩:=Int.eq_ofNat_of_zero_le (show 0≤(getF S s a).1.tz by omega)
   cases f with
   | zero=>omega
   | succ f =>
    cases g with
    | zero=>omega
    | succ g =>
     rw [framesF_yes h,framesF_yes h,ht]
     congr 1
     exact framesF_fuel f g t (by omega) (by omega)
  ·rw [framesF_no h,framesF_no h]
 termination_by f=>f
theorem framesV_yes {S:List UInt8 → Int} {s:List UInt8} {a:Nat} (h:(getF S s a).2 = 0):framesV S s a = (getF S s a).1 :: framesV S s (getF S s a).1.tz:=by
 obtain ⟨_,k2,k3,_⟩:=getF_ok h
 obtain ⟨t,ht⟩:=Int.eq_ofNat_of_zero_le (show 0≤(getF S s a).1.tz by omega)
 unfold framesV
 rw [framesF_yes h,ht]
 congr 1
 exact framesF_fuel _ _ _ (by omega) (by omega)
theorem framesV_no {S:List UInt8 → Int} {s:List UInt8} {a:Int} (h:(getF S s a).2 ≠ 0):framesV S s a = []:=framesF_no h
def putF (S:List UInt8 → Int) (kind:Int) (body:List UInt8):List UInt8 × Int :=
 if kindB kind = false then ([],160) else if 60000 < body.length then ([],3) else
  (UInt8.ofNat kind.toNat :: (fixV body.length 4).1 ++ body ++ (fixV (S (UInt8.ofNat kind.toNat :: (fixV body.length 4).1 ++ body)) 4).1,(fixV (S (UInt8.ofNat kind.toNat :: (fixV body.length 4).1 ++ body)) 4).2)
end FraW
end Go.Proofs.YtnpncpoiiikafaaGreat
namespace Go.Proofs.YtnpncpoiiikafaaGreat
open Go.RowKit
namespace RecW
theorem results_row2 {P:Program} {fn:Func} {p u v:Tmp} {ty:TypeId} (h:fn.results = #[.cell p ty,.tmp u,.tmp v]) (tmps:Array Value) (w:World) (g:Nat) (t:TypeId) (cs:Array Value) (fr:Nat × Nat) (d:TypeDesc)
 (hp:tmps.getD p undef = .pointer (some ⟨g,0,none⟩)) (hg:w.heap[g]? = some (.cells cs t fr))
 (hu:P.underlying ty = some d) (hd:(match d with | .struct _ | .array _ _=>true | _=>false) = true) (hi:(P.info? ty).map (·.size) = some cs.size) :
 (results fn tmps).run P w = .ok (.tuple #[.agg cs,tmps.getD u undef,tmps.getD v undef]) w:=by
 have hp':tmps[p]?.getD undef = .pointer (some ⟨g,0,none⟩):=by simpa using hp
 simp [results,h,hp',asAddr,run_loadVar_row w g t ty cs fr d hg hu hd hi]
abbrev rtup (y:Rc × Int × Int):Value:=.tuple #[recv y.1,.int .i64 y.2.1,.int .i64 y.2.2]
theorem ext_cut (l:List UInt8) (p q:Nat):(⟨l.toArray⟩:ByteArray).extract p q = ⟨((l.drop p).take (q - p)).toArray⟩:=by
 apply ByteArray.ext
 simp
end RecW
end Go.Proofs.YtnpncpoiiikafaaGreat
namespace Go.Proofs.YtnpncpoiiikafaaGreat
open Go.RowKit
namespace RecW
theorem getR_any (s:List UInt8) (a:Int) (w:World) (hs:s.length≤1000000) (v:Rc × Int × Int) (hv:getR s a = v) :
 Calls Tryz.prog 107 #[str s,.int .i64 a] w fun e w'=>e = .returned (rtup v)∧Below w.heap.size w w':=by
 obtain ⟨x,hx⟩:∃ x,getV s a = x:=⟨_,rfl⟩
 obtain ⟨y,hy⟩:∃ y,getV s x.2.1 = y:=⟨_,rfl⟩
 obtain ⟨u,hu⟩:∃ u,getV s y.2.1 = u:=⟨_,rfl⟩
 have C1:=fun w=>VarW.get_any s a w (by omega) x hx
 have C2:=fun w=>VarW.get_any s x.2.1 w (by omega) y hy
 have C3:=fun w=>VarW.get_any s y.2.1 w (by omega) u hu
 go_enter Tryz.func107,Tryz.ntmps107
 go_wp2_with fail
 have gR:Blk ((w.alloc (.cells #[.int .i64 0,.int .i64 0,.string ⟨#[]⟩] 98)).alloc (.cells #[.int .i64 0,.int .i64 0,.int .i64 0] 231)) w.heap.size 98 #[.int .i64 0,.int .i64 0,str []]:=(Blk.new _ _ _).alloc _
 have gA:Blk ((w.alloc (.cells #[.int .i64 0,.int .i64 0,.string ⟨#[]⟩] 98)).alloc (.cells #[.int .i64 0,.int .i64 0,.int .i64 0] 231)) (w.heap.size + 1) 231 #[.int .i64 0,.int .i64 0,.int .i64 0]:=by
  have:=Blk.new (w.alloc (.cells #[.int .i64 0,.int .i64 0,.string ⟨#[]⟩] 98)) 231 #[.int .i64 0,.int .i64 0,.int .i64 0]
  rwa [World.size_alloc] at this
 have HB:Below w.heap.size w ((w.alloc (.cells #[.int .i64 0,.int .i64 0,.string ⟨#[]⟩] 98)).alloc (.cells #[.int .i64 0,.int .i64 0,.int .i64 0] 231)):=(by first | exact Below.refl _ _ | (repeat (first | exact Below.refl _ _ | assumption | refine Below.drew ?_ | refine Below.drewN_ ?_ _ | refine Below.alloc ?_ (by first | exact Nat.le_refl _ | (simp;done) | (simp;omega) | omega) _ | refine Below.setCell ?_ (by first | exact Nat.le_refl _ | (simp;done) | (simp;omega) | omega) _ | (refine Below.trans ?_ (Below.mono (by assumption) (by first | exact Nat.le_refl _ | (simp;done) | (simp;omega) | omega))))))
 go_step3
 go_wp2_with fail
 go_step3
 go_wp2_with fail
 go_loopw [1,6,9] (fun at_ e i wr=>∃ k:Nat,((k = 0∧at_ = .int .i64 a∧Blk wr (w.heap.size + 1) 231 #[.int .i64 0,.int .i64 0,.int .i64 0]) ∨ (k = 1∧x.2.2 = 0∧at_ = .int .i64 x.2.1∧Blk wr (w.heap.size + 1) 231 #[.int .i64 x.1,.int .i64 0,.int .i64 0]) ∨
  (k = 2∧x.2.2 = 0∧y.2.2 = 0∧at_ = .int .i64 y.2.1∧Blk wr (w.heap.size + 1) 231 #[.int .i64 x.1,.int .i64 y.1,.int .i64 0]) ∨ (k = 3∧x.2.2 = 0∧y.2.2 = 0∧u.2.2 = 0∧at_ = .int .i64 u.2.1∧Blk wr (w.heap.size + 1) 231 #[.int .i64 x.1,.int .i64 y.1,.int .i64 u.1])) ∧
  i = .int .i64 k∧Blk wr w.heap.size 98 #[.int .i64 0,.int .i64 0,str []]∧Below w.heap.size w wr) (fun _ _ i _=>3 - (intOf i).toNat)
 case atStart=>exact ⟨0,.inl ⟨rfl,rfl,gA⟩,rfl,gR,HB⟩
 case round =>
  clear gR gA HB
  obtain ⟨k,hk,rfl,gR,hbw⟩:=hrel
  have HX:=Lib.hid hx
  have HY:=Lib.hid hy
  have HU:=Lib.hid hu
  have HV:=Lib.hid hv
  clear hx hy hu hv
  rcases hk with ⟨rfl,rfl,gA⟩ | ⟨rfl,h1,rfl,gA⟩ | ⟨rfl,h1,h2,rfl,gA⟩ | ⟨rfl,h1,h2,h3,rfl,gA⟩
  ·have C:=C1 wr
   by_cases h1:x.2.2 = 0
   ·have hS:=Lib.hid h1
    go_wp2_with fail
    refine C.mono ?_
    rintro e w1 ⟨rfl,rfl⟩
    obtain ⟨c0,c1,c2,f0,f1,f2,z0⟩:=blk3 gA
    go_wp2_with fail
    go_roundw
    case rel =>
     replace gA:=gA.set 0 (.int .i64 x.1)
     replace gR:=gR.far (p:=⟨w.heap.size + 1,0,none⟩) (by show w.heap.size ≠ w.heap.size + 1;omega) (.int .i64 x.1)
     replace hbw:=hbw.setCell (p:=⟨w.heap.size + 1,0,none⟩) (by show w.heap.size≤w.heap.size + 1;omega) (.int .i64 x.1)
     exact ⟨1,.inr (.inl ⟨rfl,hS.out,rfl,gA⟩),rfl,gR,hbw⟩
    case measure=>simp [intOf]
   ·have hI:(x.2.2 == 0) = false:=by simpa using h1
    have HVV:=Lib.hid (HV.out.symm.trans (getR_1 HX.out h1))
    clear h1
    go_wp2_with fail
    refine C.mono ?_
    rintro e w1 ⟨rfl,rfl⟩
    have gA':=gA
    obtain ⟨c0,c1,c2,f0,f1,f2,z0⟩:=blk3 gA'
    clear gA'
    obtain ⟨d0,d1,d2,e0,e1,e2,z1⟩:=blk3 gR
    go_wp2_with fail
    try rw [Exit.noGoto_ret]
    refine bodyPost_ret (results_row2 rfl _ _ w.heap.size 98 #[.int .i64 0,.int .i64 0,str []] (0,0) _ rfl ((((gR.far (p:=⟨w.heap.size + 1,0,none⟩) (by show w.heap.size ≠ w.heap.size + 1;omega) (.int .i64 x.1)).set 0 (.int .i64 0)).set 1 (.int .i64 0)).set 2 (str [])) Tryz.underlying98 rfl (by kernel_rfl)) rfl ?_
    refine ⟨by rw [HVV.out];rfl,?_⟩
    exact (((hbw.setCell (p:=⟨w.heap.size + 1,0,none⟩) (by show w.heap.size≤w.heap.size + 1;omega) _).setCell (p:=⟨w.heap.size,0,none⟩) (Nat.le_refl _) _).setCell (p:=⟨w.heap.size,1,none⟩) (Nat.le_refl _) _).setCell (p:=⟨w.heap.size,2,none⟩) (Nat.le_refl _) _
  ·have C:=C2 wr
   by_cases h2:y.2.2 = 0
   ·have hS:=Lib.hid h2
    go_wp2_with fail
    refine C.mono ?_
    rintro e w1 ⟨rfl,rfl⟩
    obtain ⟨c0,c1,c2,f0,f1,f2,z0⟩:=blk3 gA
    go_wp2_with fail
    go_roundw
    case rel =>
     replace gA:=gA.set 1 (.int .i64 y.1)
     replace gR:=gR.far (p:=⟨w.heap.size + 1,1,none⟩) (by show w.heap.size ≠ w.heap.size + 1;omega) (.int .i64 y.1)
     replace hbw:=hbw.setCell (p:=⟨w.heap.size + 1,1,none⟩) (by show w.heap.size≤w.heap.size + 1;omega) (.int .i64 y.1)
     exact ⟨2,.inr (.inr (.inl ⟨rfl,h1,hS.out,rfl,gA⟩)),rfl,gR,hbw⟩
    case measure=>simp [intOf]
   ·have hI:(y.2.2 == 0) = false:=by simpa using h2
    have HVV:=Lib.hid (HV.out.symm.trans (getR_2 HX.out h1 HY.out h2))
    clear h2
    go_wp2_with fail
    refine C.mono ?_
    rintro e w1 ⟨rfl,rfl⟩
    have gA':=gA
    obtain ⟨c0,c1,c2,f0,f1,f2,z0⟩:=blk3 gA'
    clear gA'
    obtain ⟨d0,d1,d2,e0,e1,e2,z1⟩:=blk3 gR
    go_wp2_with fail
    try rw [Exit.noGoto_ret]
    refine bodyPost_ret (results_row2 rfl _ _ w.heap.size 98 #[.int .i64 0,.int .i64 0,str []] (0,0) _ rfl ((((gR.far (p:=⟨w.heap.size + 1,1,none⟩) (by show w.heap.size ≠ w.heap.size + 1;omega) (.int .i64 y.1)).set 0 (.int .i64 0)).set 1 (.int .i64 0)).set 2 (str [])) Tryz.underlying98 rfl (by kernel_rfl)) rfl ?_
    refine ⟨by rw [HVV.out];rfl,?_⟩
    exact (((hbw.setCell (p:=⟨w.heap.size + 1,1,none⟩) (by show w.heap.size≤w.heap.size + 1;omega) _).setCell (p:=⟨w.heap.size,0,none⟩) (Nat.le_refl _) _).setCell (p:=⟨w.heap.size,1,none⟩) (Nat.le_refl _) _).setCell (p:=⟨w.heap.size,2,none⟩) (Nat.le_refl _) _
  ·have C:=C3 wr
   by_cases h3:u.2.2 = 0
   ·have hS:=Lib.hid h3
    go_wp2_with fail
    refine C.mono ?_
    rintro e w1 ⟨rfl,rfl⟩
    obtain ⟨c0,c1,c2,f0,f1,f2,z0⟩:=blk3 gA
    go_wp2_with fail
    go_roundw
    case rel =>
     replace gA:=gA.set 2 (.int .i64 u.1)
     replace gR:=gR.far (p:=⟨w.heap.size + 1,2,none⟩) (by show w.heap.size ≠ w.heap.size + 1;omega) (.int .i64 u.1)
     replace hbw:=hbw.setCell (p:=⟨w.heap.size + 1,2,none⟩) (by show w.heap.size≤w.heap.size + 1;omega) (.int .i64 u.1)
     exact ⟨3,.inr (.inr (.inr ⟨rfl,h1,h2,hS.out,rfl,gA⟩)),rfl,gR,hbw⟩
    case measure=>simp [intOf]
   ·have hI:(u.2.2 == 0) = false:=by simpa using h3
    have HVV:=Lib.hid (HV.out.symm.trans (getR_3 HX.out h1 HY.out h2 HU.out h3))
    clear h3
    go_wp2_with fail
    refine C.mono ?_
    rintro e w1 ⟨rfl,rfl⟩
    have gA':=gA
    obtain ⟨c0,c1,c2,f0,f1,f2,z0⟩:=blk3 gA'
    clear gA'
    obtain ⟨d0,d1,d2,e0,e1,e2,z1⟩:=blk3 gR
    go_wp2_with fail
    try rw [Exit.noGoto_ret]
    refine bodyPost_ret (results_row2 rfl _ _ w.heap.size 98 #[.int .i64 0,.int .i64 0,str []] (0,0) _ rfl ((((gR.far (p:=⟨w.heap.size + 1,2,none⟩) (by show w.heap.size ≠ w.heap.size + 1;omega) (.int .i64 u.1)).set 0 (.int .i64 0)).set 1 (.int .i64 0)).set 2 (str [])) Tryz.underlying98 rfl (by kernel_rfl)) rfl ?_
    refine ⟨by rw [HVV.out];rfl,?_⟩
    exact (((hbw.setCell (p:=⟨w.heap.size + 1,2,none⟩) (by show w.heap.size≤w.heap.size + 1;omega) _).setCell (p:=⟨w.heap.size,0,none⟩) (Nat.le_refl _) _).setCell (p:=⟨w.heap.size,1,none⟩) (Nat.le_refl _) _).setCell (p:=⟨w.heap.size,2,none⟩) (Nat.le_refl _) _
  ·have k3:=getV_ok (s:=s) (a:=y.2.1) (by rw [HU.out];exact h3)
   have k1:=getV_ok (s:=s) (a:=a) (by rw [HX.out];exact h1)
   have k2:=getV_ok (s:=s) (a:=x.2.1) (by rw [HY.out];exact h2)
   rw [HU.out] at k3
   rw [HX.out] at k1
   rw [HY.out] at k2
   have gA':=gA
   obtain ⟨c0,c1,c2,_,_,_,z0⟩:=blk3 gA'
   clear gA'
   obtain ⟨d0,d1,d2,e0,e1,e2,z1⟩:=blk3 gR
   by_cases h4:x.1 < 1 ∨ 1000000000 < x.1 ∨ 1000000000 < y.1 ∨ 2000 < u.1
   ·have HVV:=Lib.hid (HV.out.symm.trans (getR_4 HX.out h1 HY.out h2 HU.out h3 h4))
    have h4':x.1 < 1 ∨ (¬ x.1 < 1∧1000000000 < x.1) ∨ (¬ x.1 < 1∧¬ 1000000000 < x.1∧1000000000 < y.1) ∨ (¬ x.1 < 1∧¬ 1000000000 < x.1∧¬ 1000000000 < y.1∧2000 < u.1):=by omega
    clear h1 h2 h3 h4 k1 k2 k3 C1 C2 C3
    rcases h4' with h4 | ⟨h4,h5⟩ | ⟨h4,h5,h6⟩ | ⟨h4,h5,h6,h7⟩
    all_goals
     go_wp2_with fail
     try rw [Exit.noGoto_ret]
     refine bodyPost_ret (results_row2 rfl _ _ w.heap.size 98 #[.int .i64 0,.int .i64 0,str []] (0,0) _ rfl (((gR.set 0 (.int .i64 0)).set 1 (.int .i64 0)).set 2 (str [])) Tryz.underlying98 rfl (by kernel_rfl)) rfl ?_
     refine ⟨by rw [HVV.out];rfl,?_⟩
     exact ((hbw.setCell (p:=⟨w.heap.size,0,none⟩) (Nat.le_refl _) _).setCell (p:=⟨w.heap.size,1,none⟩) (Nat.le_refl _) _).setCell (p:=⟨w.heap.size,2,none⟩) (Nat.le_refl _) _
   ·have g1:¬ x.1 < 1:=by omega
    have g2:¬ 1000000000 < x.1:=by omega
    have g3:¬ 1000000000 < y.1:=by omega
    have g4:¬ 2000 < u.1:=by omega
    have hsub:IntKind.i64.wrap ((s.length:Int) - u.2.1) = (s.length:Int) - u.2.1:=IntWalk.i64_in _ (by omega)
    by_cases h5:(s.length:Int) < u.2.1 + u.1
    ·have HVV:=Lib.hid (HV.out.symm.trans (getR_5 HX.out h1 HY.out h2 HU.out h3 h4 h5))
     have h6:(s.length:Int) - u.2.1 < u.1:=by omega
     obtain ⟨k31,k32,k33,k34,k35⟩:=k3
     clear h1 h2 h3 h4 k1 k2 C1 C2 C3
     go_wp2_with fail
     try rw [Exit.noGoto_ret]
     refine bodyPost_ret (results_row2 rfl _ _ w.heap.size 98 #[.int .i64 0,.int .i64 0,str []] (0,0) _ rfl (((gR.set 0 (.int .i64 0)).set 1 (.int .i64 0)).set 2 (str [])) Tryz.underlying98 rfl (by kernel_rfl)) rfl ?_
     refine ⟨by rw [HVV.out];rfl,?_⟩
     exact ((hbw.setCell (p:=⟨w.heap.size,0,none⟩) (Nat.le_refl _) _).setCell (p:=⟨w.heap.size,1,none⟩) (Nat.le_refl _) _).setCell (p:=⟨w.heap.size,2,none⟩) (Nat.le_refl _) _
    ·have HVV:=Lib.hid (HV.out.symm.trans (getR_6 HX.out h1 HY.out h2 HU.out h3 h4 h5))
     have h6:¬ (s.length:Int) - u.2.1 < u.1:=by omega
     obtain ⟨k31,k32,k33,k34,k35⟩:=k3
     clear HX HY HU HV h1 h2 h3 h4 k1 k2 C1 C2 C3
     obtain ⟨x0,x1,x2⟩:=x;obtain ⟨y0,y1,y2⟩:=y;obtain ⟨u0,u1,u2⟩:=u
     dsimp only at *
     obtain ⟨u0,rfl⟩:=Int.eq_ofNat_of_zero_le k34
     obtain ⟨u1,rfl⟩:=Int.eq_ofNat_of_zero_le (show 0≤u1 by omega)
     have hw:IntKind.i64.wrap ((u1:Int) + (u0:Int)) = (u1:Int) + (u0:Int):=IntWalk.i64_in _ (by omega)
     have HXT:=Lib.hid (ext_cut s u1 (u1 + u0))
     have hp1:(u1:Int)≤(u1:Int) + (u0:Int):=by omega
     have hp2:(u1:Int) + (u0:Int)≤(s.length:Int):=by omega
     go_wp2_with fail
     go_region
     all_goals
      go_wp2_with fail
      try rw [Exit.noGoto_ret]
      refine bodyPost_ret (results_row2 rfl _ _ w.heap.size 98 #[.int .i64 x0,.int .i64 y0,.string ((⟨s.toArray⟩:ByteArray).extract u1 (u1 + u0))] (0,0) _ rfl ((((gR.set 0 (.int .i64 x0)).set 1 (.int .i64 y0)).set 2 (.string ((⟨s.toArray⟩:ByteArray).extract u1 (u1 + u0)))).drew) Tryz.underlying98 rfl (by kernel_rfl)) rfl ?_
      refine ⟨?_,?_⟩
      ·rw [HVV.out,HXT.out,show u1 + u0 - u1 = u0 from by omega]
       simp [rtup,recv]
      ·exact (((hbw.setCell (p:=⟨w.heap.size,0,none⟩) (Nat.le_refl _) _).setCell (p:=⟨w.heap.size,1,none⟩) (Nat.le_refl _) _).setCell (p:=⟨w.heap.size,2,none⟩) (Nat.le_refl _) _).drew
end RecW
end Go.Proofs.YtnpncpoiiikafaaGreat
namespace Go.Proofs.YtnpncpoiiikafaaGreat
open Go.RowKit
namespace RecW
theorem El_rec':El Tryz.prog 29 98 3 32:=El.mk' Tryz.underlying29 (z:=.agg #[.int .i64 0,.int .i64 0,.string ⟨#[]⟩]) (by kernel_rfl) rfl (by decide)
theorem split_any (s:List UInt8) (w:World) (hs:s.length≤1000000) (x:List Rc × Int) (hx:splitV s = x) :
 Calls Tryz.prog 46 #[str s] w fun e w'=>∃ A n c,e = .returned (.tuple #[.slice A n c,.int .i64 x.2])∧n≤c∧Rd w' w'.heap.size 3 A n (rcells x.1)∧Below w.heap.size w w':=by
 by_cases hbig:20000 < s.length
 ·have hx2:x = ([],3):=by rw [← hx];unfold splitV;rw [if_pos hbig]
  subst hx2
  have hI:(20000:Int) < (s.length:Int):=by omega
  clear hx
  go_enter Tryz.func46,Tryz.ntmps46
  go_wp2_with fail
  go_ret2
  exact ⟨none,0,0,rfl,Nat.le_refl _,Rd.nil _ _ _ _,Below.refl _ _⟩
 ·have hI:¬ (20000:Int) < (s.length:Int):=by omega
  have hx2:x = splitR ([] ++ (splitF s (s.length + 1) (0:Nat)).1,(splitF s (s.length + 1) (0:Nat)).2):=by rw [← hx];unfold splitV;rw [if_neg hbig];rfl
  have HX:=Lib.hid hx2
  clear hx hx2 hbig
  go_enter Tryz.func46,Tryz.ntmps46
  go_wp2_with fail
  go_loopw [4,5] (fun out at_ wr=>∃ (j q f:Nat) (acc:List Rc) (A2:Option Addr) (c2:Nat),at_ = .int .i64 q∧out = .slice A2 j c2∧j≤q∧q≤s.length∧s.length < q + f∧x = splitR (acc ++ (splitF s f q).1,(splitF s f q).2) ∧
   Own wr w.heap.size 98 3 A2 j c2 (rcells acc)∧Below w.heap.size w wr) (fun _ i _=>s.length - (intOf i).toNat)
  case atStart=>exact ⟨0,0,s.length + 1,[],none,0,rfl,rfl,by omega,by omega,by omega,HX.out,Own.nil _ _ _ _,(by first | exact Below.refl _ _ | (repeat (first | exact Below.refl _ _ | assumption | refine Below.drew ?_ | refine Below.drewN_ ?_ _ | refine Below.alloc ?_ (by first | exact Nat.le_refl _ | (simp;done) | (simp;omega) | omega) _ | refine Below.setCell ?_ (by first | exact Nat.le_refl _ | (simp;done) | (simp;omega) | omega) _ | (refine Below.trans ?_ (Below.mono (by assumption) (by first | exact Nat.le_refl _ | (simp;done) | (simp;omega) | omega))))))⟩
  case round =>
   obtain ⟨j,q,f,acc,A2,c2,rfl,rfl,hj,hq,hf,hr,o2,hbw⟩:=hrel
   have HR:=Lib.hid hr
   have hsz:=hbw.size
   clear hr
   by_cases hlt:q < s.length
   ·obtain ⟨f,rfl⟩:∃ f',f = f' + 1:=⟨f - 1,by omega⟩
    have hqI:(q:Int) < (s.length:Int):=by omega
    have HY:=Lib.hid (fun h=>splitF_yes (s:=s) (f:=f) (a:=q) hqI h)
    have HN:=Lib.hid (fun h=>splitF_no (s:=s) (f:=f) (a:=q) hqI h)
    have HO:=Lib.hid (fun h=>getR_ok (s:=s) (a:=q) h)
    obtain ⟨z,hz⟩:∃ z,getR s q = z:=⟨_,rfl⟩
    rw [hz] at HY HN HO
    have C:=fun w=>getR_any s q w (by omega) z hz
    clear hz
    obtain ⟨⟨ra,rb,rd⟩,tz,er⟩:=z
    dsimp only at HY HN HO
    go_wp2_with fail
    refine (C _).mono ?_
    clear C
    rintro e w1 ⟨rfl,hb1⟩
    have hbw1:Below w.heap.size w w1:=hbw.trans (hb1.mono hsz)
    have o3:=o2.below hb1
    clear hb1 o2 hbw
    have hz1:=hbw1.size
    by_cases he:er = 0
    ·subst he
     obtain ⟨f1,f2,f3,f4⟩:=HO.out rfl
     obtain ⟨tz,rfl⟩:=Int.eq_ofNat_of_zero_le (show 0≤tz by omega)
     have hx:x = splitR (acc ++ [(ra,rb,rd)] ++ (splitF s f tz).1,(splitF s f tz).2):=by rw [HR.out,HY.out rfl];simp
     have HXX:=Lib.hid hx
     clear hx
     have hrn:Rd ((w1.alloc (.cells #[.int .i64 ra,.int .i64 rb,str rd] 98)).alloc (.cells #[.int .i64 ra,.int .i64 rb,str rd] 98)) (w1.heap.size + 1 + 1) 3 (some ⟨w1.heap.size + 1,0,none⟩) 1 (rcells [(ra,rb,rd)]):=by
      have:=rd_new (W0:=w1.alloc (.cells #[.int .i64 ra,.int .i64 rb,str rd] 98)) (t:=98) (cs:=rcells [(ra,rb,rd)]) (size:=3) (m:=1) rfl rfl
      rw [World.size_alloc] at this
      exact this
     go_wp2_with (at_builtin;with_reducible refine wp_append El_rec' rfl (s:=.tmp 27) (x:=.tmp 29) rfl rfl ((o3.alloc _).alloc _) rfl hrn (rcells_one _) (by unfold maxLen;omega) (by omega) (by simp;omega) ?_;intro A4 c4 w4 o4 hg4 hat4;clear hrn)
     have hb4:=below_grown (hbw1.alloc hbw1.size _) (grown_alloc hg4) (o3.alloc _) (Nat.le_refl _)
     rw [← rcells_append] at o4
     go_roundw
     case rel=>exact ⟨j + 1,tz,f,acc ++ [(ra,rb,rd)],A4,c4,rfl,rfl,by omega,by omega,by omega,HXX.out,o4,hb4⟩
     case measure=>simp [intOf];omega
    ·have heI:(er != 0) = true:=by simp [he]
     have hx:x = ([],er):=by rw [HR.out,HN.out he,List.append_nil];unfold splitR;rw [if_neg he]
     subst hx
     clear he
     go_wp2_with fail
     go_ret2
     exact ⟨none,0,0,rfl,Nat.le_refl _,Rd.nil _ _ _ _,hbw1.alloc hbw1.size _⟩
   ·have hx:x = splitR (acc,0):=by rw [HR.out,splitF_end (by omega),List.append_nil]
    have row_any':=row_any A2 j c2 acc wr o2.rd (by omega)
    have HX2:=Lib.hid hx
    generalize hrow:rowN acc = rv at *
    have HRW:=Lib.hid hrow
    clear hrow hx
    go_wp2_with fail
    refine row_any'.mono ?_
    clear row_any'
    rintro e w1 ⟨rfl,hb1⟩
    have hbw1:Below w.heap.size w w1:=hbw.trans (hb1.mono hsz)
    have o3:=o2.below hb1
    by_cases he:rv = 0
    ·subst he
     have hx:x = (acc,0):=by rw [HX2.out];unfold splitR;rw [if_pos rfl,if_pos HRW.out]
     subst hx
     go_wp2_with fail
     go_ret2
     exact ⟨A2,j,c2,rfl,o3.cap,o3.rd,hbw1⟩
    ·have heI:(rv != 0) = true:=by simp [he]
     have hx:x = ([],rv):=by rw [HX2.out];unfold splitR;rw [if_pos rfl,if_neg (by rw [HRW.out];exact he),HRW.out]
     subst hx
     clear he
     go_wp2_with fail
     go_ret2
     exact ⟨none,0,0,rfl,Nat.le_refl _,Rd.nil _ _ _ _,hbw1⟩
end RecW
end Go.Proofs.YtnpncpoiiikafaaGreat
namespace Go.Proofs.YtnpncpoiiikafaaGreat
open VarW
theorem take_cut (s:List UInt8) (a b c:Nat) (h:a≤b) (h2:b≤c):(s.drop a).take (b - a) ++ (s.drop b).take (c - b) = (s.drop a).take (c - a):=by
 rw [show c - a = (b - a) + (c - b) from by omega,List.take_add,List.drop_drop,show a + (b - a) = b from by omega]
theorem getR_inv {s:List UInt8} {a:Nat} (h:(getR s a).2.2 = 0):putR (getR s a).1 = (s.drop a).take ((getR s a).2.1.toNat - a):=by
 obtain ⟨x,hx⟩:∃ x,getV s a = x:=⟨_,rfl⟩
 by_cases h1:x.2.2 = 0
 ·obtain ⟨y,hy⟩:∃ y,getV s x.2.1 = y:=⟨_,rfl⟩
  have k1:=getV_ok (s:=s) (a:=a) (by rw [hx];exact h1)
  have i1:=getV_inv (s:=s) (a:=a) (by rw [hx];exact h1)
  rw [hx] at k1 i1
  by_cases h2:y.2.2 = 0
  ·obtain ⟨u,hu⟩:∃ u,getV s y.2.1 = u:=⟨_,rfl⟩
   have k2:=getV_ok (s:=s) (a:=x.2.1) (by rw [hy];exact h2)
   have i2:=getV_inv (s:=s) (a:=x.2.1) (by rw [hy];exact h2)
   rw [hy] at k2 i2
   by_cases h3:u.2.2 = 0
   ·have k3:=getV_ok (s:=s) (a:=y.2.1) (by rw [hu];exact h3)
    have i3:=getV_inv (s:=s) (a:=y.2.1) (by rw [hu];exact h3)
    rw [hu] at k3 i3
    by_cases h4:x.1 < 1 ∨ 1000000000 < x.1 ∨ 1000000000 < y.1 ∨ 2000 < u.1
    ·rw [getR_4 hx h1 hy h2 hu h3 h4] at h;simp at h
    ·by_cases h5:(s.length:Int) < u.2.1 + u.1
     ·rw [getR_5 hx h1 hy h2 hu h3 h4 h5] at h;simp at h
     ·rw [getR_6 hx h1 hy h2 hu h3 h4 h5]
      clear hx hy hu h
      obtain ⟨x0,x1,x2⟩:=x;obtain ⟨y0,y1,y2⟩:=y;obtain ⟨u0,u1,u2⟩:=u
      dsimp only at k1 k2 k3 i1 i2 i3 h4 h5 ⊢
      obtain ⟨x1,rfl⟩:=Int.eq_ofNat_of_zero_le (show 0≤x1 by omega)
      obtain ⟨y1,rfl⟩:=Int.eq_ofNat_of_zero_le (show 0≤y1 by omega)
      obtain ⟨u1,rfl⟩:=Int.eq_ofNat_of_zero_le (show 0≤u1 by omega)
      obtain ⟨u0,rfl⟩:=Int.eq_ofNat_of_zero_le (show 0≤u0 by omega)
      simp only [Int.toNat_natCast] at i1 i2 i3 ⊢
      rw [show ((x1:Int) - (a:Int)).toNat = x1 - a from by omega] at i1
      rw [show ((y1:Int) - (x1:Int)).toNat = y1 - x1 from by omega] at i2
      rw [show ((u1:Int) - (y1:Int)).toNat = u1 - y1 from by omega] at i3
      have hlen:((s.drop u1).take u0).length = u0:=by rw [List.length_take,List.length_drop];omega
      show vbytes x0.toNat ++ (vbytes y0.toNat ++ (vbytes ((s.drop u1).take u0).length ++ (s.drop u1).take u0)) = _
      rw [hlen,i1,i2,i3,show ((u1:Int) + (u0:Int)).toNat = u1 + u0 from by omega]
      have e3:(s.drop y1).take (u1 - y1) ++ (s.drop u1).take u0 = (s.drop y1).take (u1 + u0 - y1):=by
       have:=take_cut s y1 u1 (u1 + u0) (by omega) (by omega)
       rwa [show u1 + u0 - u1 = u0 from by omega] at this
      rw [e3,take_cut s x1 y1 (u1 + u0) (by omega) (by omega),take_cut s a x1 (u1 + u0) (by omega) (by omega)]
   ·rw [getR_3 hx h1 hy h2 hu h3] at h;exact absurd h h3
  ·rw [getR_2 hx h1 hy h2] at h;exact absurd h h2
 ·rw [getR_1 hx h1] at h;exact absurd h h1
theorem flatR_cons (x:Rc) (l:List Rc):flatR (x :: l) = putR x ++ flatR l:=rfl
theorem joinV_cases (l:List Rc):(joinV l = (flatR l,0)∧rowN l = 0∧(flatR l).length≤20000) ∨ ((joinV l).2 ≠ 0∧(joinV l).1 = []):=by
 by_cases h:rowN l = 0
 ·by_cases h2:20000 < (flatR l).length
  ·rw [joinV_big h h2];exact .inr ⟨by simp,rfl⟩
  ·rw [joinV_yes h h2];exact .inl ⟨rfl,h,by omega⟩
 ·rw [joinV_bad h];exact .inr ⟨h,rfl⟩
theorem splitF_inv (s:List UInt8) (f:Nat):∀ (a:Nat),a≤s.length → s.length < a + f → (splitF s f a).2 = 0 → flatR (splitF s f a).1 = s.drop a:=by
 induction f with
 | zero=>intro a h1 h2;omega
 | succ f ih =>
  intro a h1 h2 h
  by_cases hlt:(a:Int) < (s.length:Int)
  ·by_cases h0:(getR s a).2.2 = 0
   ·rw [splitF_yes hlt h0] at h ⊢
    have hok:=getR_ok h0
    have hinv:=getR_inv h0
    obtain ⟨tz,hto⟩:=Int.eq_ofNat_of_zero_le (show 0≤(getR s a).2.1 by omega)
    rw [hto] at hok hinv h ⊢
    dsimp only at h ⊢
    rw [Int.toNat_natCast] at hinv
    rw [flatR_cons,hinv,ih tz (by omega) (by omega) h]
    have:=List.take_append_drop (tz - a) (s.drop a)
    rwa [List.drop_drop,show a + (tz - a) = tz from by omega] at this
   ·rw [splitF_no hlt h0] at h
    exact absurd h h0
  ·rw [splitF_end hlt,List.drop_of_length_le (by omega)]
   rfl
theorem join_split {s:List UInt8} (h:(splitV s).2 = 0):joinV (splitV s).1 = (s,0):=by
 unfold splitV at h ⊢
 by_cases h1:20000 < s.length
 ·rw [if_pos h1] at h;cases h
 ·rw [if_neg h1] at h ⊢
  have hi:=splitF_inv s (s.length + 1) 0 (by omega) (by omega)
  rw [show ((0:Nat):Int) = 0 from rfl] at hi
  generalize splitF s (s.length + 1) 0 = q at *
  unfold splitR at h ⊢
  by_cases h2:q.2 = 0
  ·rw [if_pos h2] at h ⊢
   by_cases h3:rowN q.1 = 0
   ·rw [if_pos h3] at h ⊢
    dsimp only
    have:=hi h2
    rw [List.drop_zero] at this
    rw [joinV_yes h3 (by rw [this];exact h1),this]
   ·rw [if_neg h3] at h
    exact absurd h h3
  ·rw [if_neg h2] at h
   exact absurd h h2
end Go.Proofs.YtnpncpoiiikafaaGreat
