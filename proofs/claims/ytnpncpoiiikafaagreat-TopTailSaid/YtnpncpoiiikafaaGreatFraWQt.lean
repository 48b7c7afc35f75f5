/- FraW -/
import Derived.Test.YtnpncpoiiikafaaGreatCrcMQt
import Derived.Test.YtnpncpoiiikafaaGreatVarFQt
import Derived.Test.YtnpncpoiiikafaaGreatSqPQt
import Derived.Test.YtnpncpoiiikafaaGreatCanXQt
import Derived.Test.YtnpncpoiiikafaaGreatLenBQt
import Derived.Test.YtnpncpoiiikafaaGreatMemQt
set_option linter.unusedVariables false
set_option linter.unusedSimpArgs false
set_option linter.unnecessarySimpa false
set_option maxRecDepth 100000
set_option maxHeartbeats 32000000
namespace Go.Proofs.YtnpncpoiiikafaaGreat
open Go.RowKit
theorem set4_blk {w:World} {g:Nat} {t:TypeId} {a b c d:Value} (a' b' c' d':Value) (h:Blk w g t #[a,b,c,d]) :
 Blk ((((w.setCell ⟨g,0,none⟩ a').setCell ⟨g,1,none⟩ b').setCell ⟨g,2,none⟩ c').setCell ⟨g,3,none⟩ d') g t #[a',b',c',d'] :=
 blk_eq ((((h.set 0 a').set 1 b').set 2 c').set 3 d') (by simp)
theorem set4_below {B g:Nat} {w0 w:World} (h:Below B w0 w) (hg:B≤g) (a' b' c' d':Value) :
 Below B w0 ((((w.setCell ⟨g,0,none⟩ a').setCell ⟨g,1,none⟩ b').setCell ⟨g,2,none⟩ c').setCell ⟨g,3,none⟩ d') :=
 (((h.setCell (p:=⟨g,0,none⟩) hg _).setCell (p:=⟨g,1,none⟩) hg _).setCell (p:=⟨g,2,none⟩) hg _).setCell (p:=⟨g,3,none⟩) hg _
theorem blk4 {w:World} {g:Nat} {t:TypeId} {a b c d:Value} (h:Blk w g t #[a,b,c,d]) :
 w.cell? ⟨g,0,none⟩ = some a∧w.cell? ⟨g,1,none⟩ = some b∧w.cell? ⟨g,2,none⟩ = some c∧w.cell? ⟨g,3,none⟩ = some d∧w.frozen? ⟨g,0,none⟩ = false∧w.frozen? ⟨g,1,none⟩ = false∧w.frozen? ⟨g,2,none⟩ = false∧w.frozen? ⟨g,3,none⟩ = false∧g < w.heap.size :=
 ⟨h.cell_ 0 rfl,h.cell_ 1 rfl,h.cell_ 2 rfl,h.cell_ 3 rfl,h.frozen 0,h.frozen 1,h.frozen 2,h.frozen 3,h.lt⟩
theorem exec_load_row {P:Program} {ρ:Operand → Value} {p:Operand} {ty ty':TypeId} {dst:Option Tmp} {pos:String} {after:Array Edge} {guard:Option (Nat × Bool)} {g:Nat} {t:TypeId} {cs:Array Value} {d:TypeDesc} {w:World}
 (hp:ρ p = .pointer (some ⟨g,0,none⟩)) (hg:Blk w g t cs) (hu:P.underlying ty = some d) (hd:(match d with | .struct _ | .array _ _=>true | _=>false) = true) (hi:(P.info? ty).map (·.size) = some cs.size) :
 (execOp ρ { dst,op:=.load ty p,type:=ty',pos,after,guard }).run P w = .ok (.value (.agg cs)) w:=by
 unfold execOp
 simp only [hp,Instr.loadAt,Instr.sureAddr,Sem.run_bind,Sem.run_pure,Result.andThen_ok,run_loadVar_row w g t ty cs (0,0) d hg hu hd hi]
namespace FraW
open SufW (w64s)
open VarW (tri unfix_any fix_any fixV_yes)
open LenW (results_row2)
theorem ext_s (l:List UInt8) (p q:Nat):(⟨l.toArray⟩:ByteArray).extract p q = ⟨((l.drop p).take (q - p)).toArray⟩:=by
 apply ByteArray.ext
 simp
theorem known_any (k:Int) (w:World) :
 Calls Tryz.prog 125 #[.int .i64 k] w fun e w'=>e = .returned (.bool (kindB k))∧w' = w:=by
 by_cases h1:1≤k
 ·by_cases h2:k≤4
  ·have e:kindB k = true:=by simp [kindB,h1,h2]
   rw [e]
   go_enter Tryz.func125,Tryz.ntmps125
   go_wp2_with fail
   go_ret
   exact ⟨rfl,rfl⟩
  ·have e:kindB k = false:=by simp [kindB,h2]
   rw [e]
   go_enter Tryz.func125,Tryz.ntmps125
   go_wp2_with fail
   go_ret
   exact ⟨rfl,rfl⟩
 ·have e:kindB k = false:=by simp [kindB,h1]
  rw [e]
  go_enter Tryz.func125,Tryz.ntmps125
  go_wp2_with fail
  go_ret
  exact ⟨rfl,rfl⟩
theorem app_s (l m:List UInt8):(⟨l.toArray⟩:ByteArray) ++ ⟨m.toArray⟩ = ⟨(l ++ m).toArray⟩:=by
 apply ByteArray.ext
 simp
theorem app_3 (a b c:List UInt8):(⟨a.toArray⟩:ByteArray) ++ ⟨b.toArray⟩ ++ ⟨c.toArray⟩ = ⟨(a ++ b ++ c).toArray⟩:=by rw [app_s,app_s]
theorem prefix_iff (s p:List UInt8):p <+: s ↔ p.length≤s.length∧(⟨s.toArray⟩:ByteArray).extract 0 p.length = ⟨p.toArray⟩:=by
 rw [ext_s,List.drop_zero,Nat.sub_zero,List.prefix_iff_eq_take]
 constructor
 ·intro h
  exact ⟨by have:=congrArg List.length h;rw [List.length_take] at this;omega,by rw [← h]⟩
 ·rintro ⟨_,h⟩
  have:=congrArg (fun b:ByteArray=>b.data.toList) h
  simpa using this.symm
theorem lprefix_any (s p:List UInt8) (w:World) (v:Bool) (hv:decide (p <+: s) = v) :
 Calls Tryz.prog 129 #[str s,str p] w fun e w'=>e = .returned (.bool v)∧w' = w:=by
 by_cases hl:p.length≤s.length
 ·have hlI:(p.length:Int)≤(s.length:Int):=by omega
  have hl0:(0:Int)≤(p.length:Int):=by omega
  by_cases h:(⟨s.toArray⟩:ByteArray).extract 0 p.length = ⟨p.toArray⟩
  ·rw [decide_eq_true ((prefix_iff s p).2 ⟨hl,h⟩)] at hv
   subst hv
   go_enter Tryz.func129,Tryz.ntmps129
   go_wp2_with fail
   go_ret
   exact ⟨by simp [h],rfl⟩
  ·have hne:¬ p <+: s:=fun hh=>h ((prefix_iff s p).1 hh).2
   have hbq:(((⟨s.toArray⟩:ByteArray).extract 0 p.length).toList == p) = false:=by
    have:((s.drop 0).take (p.length - 0)) ≠ p:=fun e=>hne (List.prefix_iff_eq_take.2 (by simpa using e.symm))
    rw [ext_s,beq_eq_false_iff_ne]
    simpa using this
   clear h
   rw [decide_eq_false hne] at hv
   subst hv
   go_enter Tryz.func129,Tryz.ntmps129
   go_wp2_with fail
   go_ret
   exact ⟨rfl,rfl⟩
 ·rw [decide_eq_false (fun hh=>hl ((prefix_iff s p).1 hh).1)] at hv
  subst hv
  have hlI:¬ (p.length:Int)≤(s.length:Int):=by omega
  go_enter Tryz.func129,Tryz.ntmps129
  go_wp2_with fail
  go_ret
  exact ⟨rfl,rfl⟩
theorem prefix_any (s p:List UInt8) (w:World) (v:Bool) (hv:decide (p <+: s) = v) :
 Calls Tryz.prog 76 #[str s,str p] w fun e w'=>e = .returned (.bool v)∧w' = w:=by
 have C:=lprefix_any s p w v hv
 clear hv
 go_enter Tryz.func76,Tryz.ntmps76
 go_wp2_with fail
 refine C.mono ?_
 rintro e w1 ⟨rfl,rfl⟩
 go_wp2_with fail
 go_ret
 exact ⟨rfl,rfl⟩
def frA (f:Fr):Array Value:=#[.int .i64 f.kind,str f.body,.int .i64 f.at_,.int .i64 f.tz]
theorem infoT:(Tryz.prog.info? 192).map (·.size) = some 256:=by kernel_rfl
theorem get_arg (g:Nat) (s:List UInt8) (a:Int) (w:World) (h:a < 0 ∨ (s.length:Int) < a) :
 Calls Tryz.prog 131 #[.pointer (some ⟨g,0,none⟩),str s,.int .i64 a] w fun e w'=>e = .returned (.tuple #[.agg (frA frZ),.int .i64 2])∧Below w.heap.size w w':=by
 have HB:Below w.heap.size w (w.alloc (.cells (frA frZ) 74)):=(Below.refl w.heap.size w).alloc (Nat.le_refl _) _
 have h':a < 0 ∨ (¬ a < 0∧(s.length:Int) < a):=by omega
 clear h
 rcases h' with h | ⟨h,h2⟩
 all_goals
  go_enter Tryz.func131,Tryz.ntmps131
  go_wp2_with fail
  refine bodyPost_ret (results_row2 rfl _ _ w.heap.size 74 (frA frZ) (0,0) _ rfl (Blk.new _ _ _) Tryz.underlying74 rfl (by kernel_rfl)) rfl ?_
  exact ⟨rfl,HB⟩
theorem get_in (g:Nat) (s:List UInt8) (p:Nat) (w:World) (B:Blk w g 192 (us tabV).toArray) (hs:s.length≤1000000) (hp:p≤s.length) (x:Fr × Int) (hx:getF sumV s p = x) :
 Calls Tryz.prog 131 #[.pointer (some ⟨g,0,none⟩),str s,.int .i64 p] w fun e w'=>e = .returned (.tuple #[.agg (frA x.1),.int .i64 x.2])∧Below w.heap.size w w':=by
 have hI1:¬ (p:Int) < 0:=by omega
 have hI2:¬ (s.length:Int) < (p:Int):=by omega
 unfold getF at hx
 rw [if_neg (by omega)] at hx
 have HB:Below w.heap.size w (w.alloc (.cells (frA frZ) 74)):=(Below.refl w.heap.size w).alloc (Nat.le_refl _) _
 have bR:=Blk.new w 74 (frA frZ)
 have B1:=B.alloc (.cells (frA frZ) 74)
 have hglt:=B.lt
 have hwl:IntKind.i64.wrap ((s.length:Int) - (p:Int)) = (s.length:Int) - (p:Int):=w64s (by omega) (by omega)
 by_cases h2:(s.length:Int) - (p:Int) < 5
 ·rw [if_pos h2] at hx
  subst hx
  go_enter Tryz.func131,Tryz.ntmps131
  go_wp2_with fail
  refine bodyPost_ret (results_row2 rfl _ _ w.heap.size 74 (frA frZ) (0,0) _ rfl (Blk.new _ _ _) Tryz.underlying74 rfl (by kernel_rfl)) rfl ?_
  exact ⟨rfl,HB⟩
 ·rw [if_neg h2] at hx
  have hpl:p < s.length:=by omega
  obtain ⟨hu,hz⟩:=unfix4 s (p + 1) (by omega)
  generalize fval ((s.drop (p + 1)).take 4) = z at hu hz
  obtain ⟨q,hq⟩:∃ q,q = p + 5:=⟨_,rfl⟩
  have hu2:unfixV s ((p:Int) + 1) 4 = ((z:Int),(q:Int),0):=by rw [hq];exact hu
  have C1:=fun w=>unfix_any s ((p:Int) + 1) 4 w (by omega) _ hu2
  have hp1:IntKind.i64.wrap ((p:Int) + 1) = (p:Int) + 1:=w64s (by omega) (by omega)
  have hk:kindAt s (p:Int) = (s[p].toNat:Int):=by unfold kindAt;rw [Int.toNat_natCast,List.getElem?_eq_getElem hpl];rfl
  rw [hu2,hk] at hx
  dsimp only at hx
  obtain ⟨b,hb⟩:∃ b,s[p] = b:=⟨_,rfl⟩
  rw [hb] at hx hk
  have hbyte:({ data:=s.toArray }:ByteArray)[p]'(by show p < s.toArray.size;simpa using hpl) = b:=hb
  have hbw:IntKind.i64.wrap (b.toNat:Int) = (b.toNat:Int):=w64s (by have:=UInt8.toNat_lt b;omega) (by have:=UInt8.toNat_lt b;omega)
  have CK:=fun w=>known_any (b.toNat:Int) w
  have hp0:(0:Int)≤(p:Int):=by omega
  have hpn:(p:Int) < (s.length:Int):=by omega
  have HC1:=Lib.hid C1
  have HX:=Lib.hid hx
  have HQ:=Lib.hid hq
  clear hu hu2 hb hk hx C1 hq
  by_cases h3:kindB (b.toNat:Int) = false
  ·have hx:=HX.out
   rw [if_pos h3] at hx
   subst hx
   rw [h3] at CK
   have HCK:=Lib.hid CK
   clear HX CK
   go_enter Tryz.func131,Tryz.ntmps131
   go_wp2_with fail
   refine (HC1.out _).mono ?_
   rintro e w1 ⟨rfl,rfl⟩
   go_wp2_with fail
   refine (HCK.out _).mono ?_
   rintro e w1 ⟨rfl,rfl⟩
   go_wp2_with fail
   refine bodyPost_ret (results_row2 rfl _ _ w.heap.size 74 (frA frZ) (0,0) _ rfl (Blk.new _ _ _) Tryz.underlying74 rfl (by kernel_rfl)) rfl ?_
   exact ⟨rfl,HB⟩
  ·have hx:=HX.out
   rw [if_neg h3] at hx
   have hk3:kindB (b.toNat:Int) = true:=by simpa using h3
   rw [hk3] at CK
   have HCK:=Lib.hid CK
   have HX2:=Lib.hid hx
   clear HX CK h3 hx hk3
   by_cases h4:(60000:Int) < (z:Int)
   ·have hx:=HX2.out
    rw [if_pos h4] at hx
    subst hx
    clear HX2
    go_enter Tryz.func131,Tryz.ntmps131
    go_wp2_with fail
    refine (HC1.out _).mono ?_
    rintro e w1 ⟨rfl,rfl⟩
    go_wp2_with fail
    refine (HCK.out _).mono ?_
    rintro e w1 ⟨rfl,rfl⟩
    go_wp2_with fail
    refine bodyPost_ret (results_row2 rfl _ _ w.heap.size 74 (frA frZ) (0,0) _ rfl (Blk.new _ _ _) Tryz.underlying74 rfl (by kernel_rfl)) rfl ?_
    exact ⟨rfl,HB⟩
   ·have hx:=HX2.out
    rw [if_neg h4] at hx
    have HX3:=Lib.hid hx
    have hw5:IntKind.i64.wrap ((s.length:Int) - (p:Int) - 5) = (s.length:Int) - (p:Int) - 5:=w64s (by omega) (by omega)
    have hw9:IntKind.i64.wrap ((s.length:Int) - (p:Int) - 5 - 4) = (s.length:Int) - (p:Int) - 5 - 4:=w64s (by omega) (by omega)
    clear HX2 hx
    by_cases h5:(s.length:Int) - (p:Int) - 5 - 4 < (z:Int)
    ·have hx:=HX3.out
     rw [if_pos (by omega)] at hx
     subst hx
     clear HX3
     go_enter Tryz.func131,Tryz.ntmps131
     go_wp2_with fail
     refine (HC1.out _).mono ?_
     rintro e w1 ⟨rfl,rfl⟩
     go_wp2_with fail
     refine (HCK.out _).mono ?_
     rintro e w1 ⟨rfl,rfl⟩
     go_wp2_with fail
     refine bodyPost_ret (results_row2 rfl _ _ w.heap.size 74 (frA frZ) (0,0) _ rfl (Blk.new _ _ _) Tryz.underlying74 rfl (by kernel_rfl)) rfl ?_
     exact ⟨rfl,HB⟩
    ·have hx:=HX3.out
     rw [if_neg (by omega)] at hx
     have HX4:=Lib.hid hx
     clear HX3 hx
     obtain ⟨en,hen⟩:∃ en,en = q + z:=⟨_,rfl⟩
     have hwe:IntKind.i64.wrap ((q:Int) + (z:Int)) = (en:Int):=by have:=HQ.out;rw [w64s (by omega) (by omega)];omega
     obtain ⟨hv,hy⟩:=unfix4 s en (by have:=HQ.out;omega)
     generalize fval ((s.drop en).take 4) = y at hv hy
     obtain ⟨tz,hto⟩:∃ tz,tz = en + 4:=⟨_,rfl⟩
     have hv2:unfixV s (en:Int) 4 = ((y:Int),(tz:Int),0):=by rw [hto];exact hv
     have C2:=fun w=>unfix_any s (en:Int) 4 w (by omega) _ hv2
     have hpe:(p:Int)≤(en:Int):=by have:=HQ.out;omega
     have hel:(en:Int)≤(s.length:Int):=by have:=HQ.out;omega
     have hq0:(0:Int)≤(q:Int):=by omega
     have hqe:(q:Int)≤(en:Int):=by omega
     have he0:(0:Int)≤(en:Int):=by omega
     have hx:=HX4.out
     have e1:(p:Int) + 5 + (z:Int) = (en:Int):=by have:=HQ.out;omega
     have e2:(p:Int) + 9 + (z:Int) = (tz:Int):=by have:=HQ.out;omega
     have e3:5 + (z:Int).toNat = en - p:=by have:=HQ.out;omega
     have e4:(p:Int).toNat = p:=Int.toNat_natCast _
     have e5:(z:Int).toNat = en - q:=by omega
     rw [e1,e2,hv2,e3,e4,e5,← HQ.out] at hx
     dsimp only at hx
     have CO:=fun w=>Of_any ((s.drop p).take (en - p)) w (by rw [List.length_take,List.length_drop];omega)
     obtain ⟨sm,hsm⟩:∃ sm,sumV ((s.drop p).take (en - p)) = sm:=⟨_,rfl⟩
     have hsi:inU sm:=by rw [← hsm];exact notU_in _
     rw [hsm] at hx CO
     rw [show str ((s.drop p).take (en - p)) = .string ((⟨s.toArray⟩:ByteArray).extract p en) by rw [ext_s]] at CO
     have hsw:IntKind.i64.wrap sm = sm:=w64s (by have:=hsi.1;omega) (by have:=hsi.2;omega)
     have hT:tabV.length = 256:=by rw [tabV,tabN_len]
     obtain ⟨ds,hds⟩:∃ ds,(us tabV).toArray = ds:=⟨_,rfl⟩
     have hdz:ds.size = 256:=by rw [← hds,List.size_toArray,us_len,hT]
     have HSZ:Hid ((Tryz.prog.info? 192).map (·.size) = some ds.size):=Lib.hid (by rw [infoT,hdz])
     rw [hds] at CO B1
     have HX5:=Lib.hid hx
     have HC2:=Lib.hid C2
     have HCO:=Lib.hid CO
     have HTO:=Lib.hid hto
     have HEN:=Lib.hid hen
     clear HX4 hx C2 CO hto hen hv hv2 e1 e2 e3 e4 e5 hds hdz hT hsm hsi B
     obtain ⟨w0,hw0⟩:∃ w0,w.alloc (.cells (frA frZ) 74) = w0:=⟨_,rfl⟩
     have hw0':w.alloc (.cells #[.int .i64 0,.string { data:=#[] },.int .i64 0,.int .i64 0] 74) = w0:=hw0
     rw [hw0] at HB bR B1
     have HW:=Lib.hid hw0'
     obtain ⟨gR,hgR⟩:∃ gR,w.heap.size = gR:=⟨_,rfl⟩
     have hgz:w.heap.size≤gR:=by omega
     have HGR:=Lib.hid hgR
     rw [hgR] at bR
     have hlt1:=bR.lt
     have hlt2:=B1.lt
     clear hw0 hw0' hgR
     by_cases h6:sm = (y:Int)
     ·have hx:=HX5.out
      rw [if_pos h6] at hx
      subst hx
      have h6b:(sm != (y:Int)) = false:=by simp [h6]
      clear HX5 h6
      go_enter Tryz.func131,Tryz.ntmps131
      go_wp2_with fail
      refine (HC1.out _).mono ?_
      rintro e w1 ⟨rfl,rfl⟩
      go_wp2_with fail
      refine (HCK.out _).mono ?_
      rintro e w1 ⟨rfl,rfl⟩
      go_wp2_with fail
      refine (HC2.out _).mono ?_
      rintro e w1 ⟨rfl,rfl⟩
      go_wp2_with fail
      rw [HW.out,HGR.out]
      refine wp_region_held_drew (S:=(fun w'=>Blk w' g 192 ds)) (by kernel_rfl) ?_ (fun hHeld=>?_)
      ·replace B1:=Blk.drew B1;replace bR:=Blk.drew bR;replace HB:=Below.drew HB;(try dsimp only);exact B1
      replace B1:=Blk.drew B1
      replace bR:=Blk.drew bR
      replace HB:=Below.drew HB
      have zHB:=HB.size
      refine zM 0 (.tmp 0) ?_
      refine zO 1 (.nilCheck (.tmp 69)) 0 ?_
      refine take_op (v:=.agg ds) 2 (Op.load 192 (Operand.tmp 70)) 192 rfl rfl rfl rfl rfl (by kernel_rfl) (by kernel_rfl) (by kernel_rfl) (fun _ _ _ h=>h) (fun w' hSw=>exec_load_row rfl hSw Tryz.underlying192 rfl HSZ.out) (by assumption) ?_
      simp only [zSa,zSb,zSc]
      refine zM 3 (.tmp 1) ?_
      refine zM 4 (.tmp 2) ?_
      refine zM 5 (.tmp 12) ?_
      refine zO 6 (.slice 9 (.tmp 72) (some (.tmp 73)) (some (.tmp 74)) none) 9 ?_
      refine zM 9 (.tmp 13) ?_
      refine zR 7 (fun K7 hK7=>?_)
      refine take_calls 7 127 [Operand.tmp 71,Operand.tmp 75] #[192,9] rfl rfl (by kernel_rfl) (fun args w=>run_enter Tryz.func127 (by kernel_rfl) rfl args w) ?_
      refine (HCO.out _).mono ?_
      rintro e w7 ⟨rfl,hb7⟩
      refine ⟨_,rfl,?_⟩
      have z7:=hb7.size
      try simp only [World.size_drew] at z7
      replace B1:=Blk.below B1 hb7 (by first | exact Nat.le_refl _ | (simp only [World.size_alloc,World.size_setCell,World.size_drew] at *;omega) | omega)
      replace bR:=Blk.below bR hb7 (by first | exact Nat.le_refl _ | (simp only [World.size_alloc,World.size_setCell,World.size_drew] at *;omega) | omega)
      replace HB:=HB.trans (hb7.mono (by first | exact HB.size | omega))
      have zHB7:=HB.size
      refine hK7.out _ _ ?su1x7 (fun hHeld=>?ru1x7)
      case su1x7=>((try dsimp only);exact B1)
      try simp only [zSa,zSb,zSc]
      refine zO 8 (.convert 190 3 (.tmp 76)) 3 ?_
      refine zO 10 (.binOp .neq 3 (.tmp 77) (.tmp 78) 3) 4 ?_
      refine wpAnyH_done (by kernel_rfl) ?_ _
      go_wp2_with fail
      refine wp_region_held_drew (S:=(fun _=>True)) (by kernel_rfl) ?_ (fun hHeld=>?_)
      ·replace bR:=Blk.drew bR;replace HB:=Below.drew HB;(try dsimp only);try trivial
      replace bR:=Blk.drew bR
      replace HB:=Below.drew HB
      have zHB:=HB.size
      refine zM 0 (.tmp 1) ?_
      refine zM 1 (.tmp 2) ?_
      refine zO 2 (.index 9 (.tmp 81) (.tmp 82)) 5 ?_
      refine zO 3 (.convert 5 3 (.tmp 83)) 3 ?_
      refine zM 4 (.tmp 1) ?_
      refine zM 5 (.tmp 10) ?_
      refine zM 6 (.tmp 12) ?_
      refine zO 7 (.slice 9 (.tmp 85) (some (.tmp 86)) (some (.tmp 87)) none) 9 ?_
      refine zM 8 (.tmp 2) ?_
      refine zM 9 (.tmp 14) ?_
      refine zO 10 (.build 74 #[(0,.tmp 84),(1,.tmp 88),(2,.tmp 89),(3,.tmp 90)]) 74 ?_
      refine zR 11 (fun K11 hK11=>?_)
      refine take_store 11 (Op.store 74 (Operand.tmp 6) (Operand.tmp 91)) 0 rfl rfl rfl (by kernel_rfl) (w':=(((w7.drew.setCell ⟨gR,0,none⟩ (.int .i64 (b.toNat:Int))).setCell ⟨gR,1,none⟩ (.string ((⟨s.toArray⟩:ByteArray).extract q en))).setCell ⟨gR,2,none⟩ (.int .i64 (p:Int))).setCell ⟨gR,3,none⟩ (.int .i64 (tz:Int))) (by have bR7:Blk w7 gR 74 (frA frZ):=bR;obtain ⟨k0,k1,k2,k3,f0,f1,f2,f3,l0⟩:=blk4 bR7;go_simp;try (with_reducible rfl)) ?_
      refine hK11.out _ _ (trivial) (fun hHeld=>?_)
      refine zO 12 (.assign (.const (Value.int IntKind.i64 0))) 26 ?_
      refine wpAnyH_done (by kernel_rfl) ?_ _
      go_wp2_with fail
      refine bodyPost_ret (results_row2 rfl _ _ gR 74 #[.int .i64 (b.toNat:Int),.string ((⟨s.toArray⟩:ByteArray).extract q en),.int .i64 (p:Int),.int .i64 (tz:Int)] (0,0) _ rfl (set4_blk _ _ _ _ bR) Tryz.underlying74 rfl (by kernel_rfl)) rfl ?_
      exact ⟨by rw [ext_s];rfl,set4_below HB hgz _ _ _ _⟩
     ·have hx:=HX5.out
      rw [if_neg h6] at hx
      subst hx
      have h6b:(sm != (y:Int)) = true:=by simp [h6]
      clear HX5 h6
      go_enter Tryz.func131,Tryz.ntmps131
      go_wp2_with fail
      refine (HC1.out _).mono ?_
      rintro e w1 ⟨rfl,rfl⟩
      go_wp2_with fail
      refine (HCK.out _).mono ?_
      rintro e w1 ⟨rfl,rfl⟩
      go_wp2_with fail
      refine (HC2.out _).mono ?_
      rintro e w1 ⟨rfl,rfl⟩
      go_wp2_with fail
      rw [HW.out,HGR.out]
      refine wp_region_held_drew (S:=(fun w'=>Blk w' g 192 ds)) (by kernel_rfl) ?_ (fun hHeld=>?_)
      ·replace B1:=Blk.drew B1;replace bR:=Blk.drew bR;replace HB:=Below.drew HB;(try dsimp only);exact B1
      replace B1:=Blk.drew B1
      replace bR:=Blk.drew bR
      replace HB:=Below.drew HB
      have zHB:=HB.size
      refine zM 0 (.tmp 0) ?_
      refine zO 1 (.nilCheck (.tmp 69)) 0 ?_
      refine take_op (v:=.agg ds) 2 (Op.load 192 (Operand.tmp 70)) 192 rfl rfl rfl rfl rfl (by kernel_rfl) (by kernel_rfl) (by kernel_rfl) (fun _ _ _ h=>h) (fun w' hSw=>exec_load_row rfl hSw Tryz.underlying192 rfl HSZ.out) (by assumption) ?_
      simp only [zSa,zSb,zSc]
      refine zM 3 (.tmp 1) ?_
      refine zM 4 (.tmp 2) ?_
      refine zM 5 (.tmp 12) ?_
      refine zO 6 (.slice 9 (.tmp 72) (some (.tmp 73)) (some (.tmp 74)) none) 9 ?_
      refine zM 9 (.tmp 13) ?_
      refine zR 7 (fun K7 hK7=>?_)
      refine take_calls 7 127 [Operand.tmp 71,Operand.tmp 75] #[192,9] rfl rfl (by kernel_rfl) (fun args w=>run_enter Tryz.func127 (by kernel_rfl) rfl args w) ?_
      refine (HCO.out _).mono ?_
      rintro e w7 ⟨rfl,hb7⟩
      refine ⟨_,rfl,?_⟩
      have z7:=hb7.size
      try simp only [World.size_drew] at z7
      replace B1:=Blk.below B1 hb7 (by first | exact Nat.le_refl _ | (simp only [World.size_alloc,World.size_setCell,World.size_drew] at *;omega) | omega)
      replace bR:=Blk.below bR hb7 (by first | exact Nat.le_refl _ | (simp only [World.size_alloc,World.size_setCell,World.size_drew] at *;omega) | omega)
      replace HB:=HB.trans (hb7.mono (by first | exact HB.size | omega))
      have zHB7:=HB.size
      refine hK7.out _ _ ?su3x7 (fun hHeld=>?ru3x7)
      case su3x7=>((try dsimp only);exact B1)
      try simp only [zSa,zSb,zSc]
      refine zO 8 (.convert 190 3 (.tmp 76)) 3 ?_
      refine zO 10 (.binOp .neq 3 (.tmp 77) (.tmp 78) 3) 4 ?_
      refine wpAnyH_done (by kernel_rfl) ?_ _
      obtain ⟨k0,k1,k2,k3,f0,f1,f2,f3,l0⟩:=blk4 bR
      go_wp2_with fail
      refine bodyPost_ret (results_row2 rfl _ _ gR 74 (frA frZ) (0,0) _ rfl (set4_blk _ _ _ _ bR) Tryz.underlying74 rfl (by kernel_rfl)) rfl ?_
      exact ⟨rfl,set4_below HB hgz _ _ _ _⟩
theorem get_any (g:Nat) (s:List UInt8) (a:Int) (w:World) (B:Blk w g 192 (us tabV).toArray) (hs:s.length≤1000000) (x:Fr × Int) (hx:getF sumV s a = x) :
 Calls Tryz.prog 131 #[.pointer (some ⟨g,0,none⟩),str s,.int .i64 a] w fun e w'=>e = .returned (.tuple #[.agg (frA x.1),.int .i64 x.2])∧Below w.heap.size w w':=by
 by_cases h:a < 0 ∨ (s.length:Int) < a
 ·have e:getF sumV s a = (frZ,2):=by unfold getF;rw [if_pos h]
  rw [e] at hx
  subst hx
  exact get_arg g s a w h
 ·obtain ⟨p,rfl⟩:=Int.eq_ofNat_of_zero_le (show 0≤a by omega)
  exact get_in g s p w B hs (by omega) x hx
theorem store_tab (w:World):(storeCells ⟨w.heap.size,0,none⟩ (us tabV).toArray.toList).run Tryz.prog (w.alloc (.cells Tryz.zeroCells192 192)) = .ok () (w.alloc (.cells (us tabV).toArray 192)):=by
 have hz:Tryz.zeroCells192.size = 256:=by kernel_rfl
 have:=run_storeCells_from (P:=Tryz.prog) w.heap.size 192 (us tabV) 0 _ (w.alloc (.cells Tryz.zeroCells192 192)) (heap_alloc_new w _) (by rw [us_len,tabV,tabN_len,hz]) (fun v hv=>by
  obtain ⟨y,_,rfl⟩:=List.mem_map.1 hv
  rfl)
 rw [World.setRow_alloc_new] at this
 simpa using this
theorem Get_any (s:List UInt8) (a:Int) (w:World) (hs:s.length≤1000000) (x:Fr × Int) (hx:getF sumV s a = x) :
 Calls Tryz.prog 81 #[str s,.int .i64 a] w fun e w'=>e = .returned (.tuple #[.agg (frA x.1),.int .i64 x.2])∧Below w.heap.size w w':=by
 have CG:=fun g w B=>get_any g s a w B hs x hx
 have CT:=Table_any
 have hst:=store_tab
 obtain ⟨ds,hds⟩:∃ ds,(us tabV).toArray = ds:=⟨_,rfl⟩
 rw [hds] at CG CT hst
 have hdz:ds.size = 256:=by rw [← hds,List.size_toArray,us_len,tabV,tabN_len]
 have HCG:=Lib.hid CG
 have HCT:=Lib.hid CT
 have HST:=Lib.hid hst
 obtain ⟨⟨k,b,a0,t0⟩,er⟩:=x
 clear CG CT hst hds hx
 obtain ⟨w0,hw0⟩:∃ w0,w.alloc (.cells (frA frZ) 74) = w0:=⟨_,rfl⟩
 have HB:Below w.heap.size w w0:=by rw [← hw0];exact (Below.refl w.heap.size w).alloc (Nat.le_refl _) _
 have bR:Blk w0 w.heap.size 74 (frA frZ):=by rw [← hw0];exact Blk.new w _ _
 have hw0':w.alloc (.cells #[.int .i64 0,.string { data:=#[] },.int .i64 0,.int .i64 0] 74) = w0:=hw0
 have HW:=Lib.hid hw0'
 clear hw0 hw0'
 go_enter Tryz.func81,Tryz.ntmps81
 go_wp2_with fail
 rw [HW.out]
 refine (HCT.out _).mono ?_
 rintro e w1 ⟨rfl,hb1⟩
 replace bR:=bR.below hb1 bR.lt
 replace HB:=HB.trans (hb1.mono HB.size)
 have hst:=HST.out w1
 clear hb1
 have B2:=Blk.new w1 192 ds
 have bR2:=bR.alloc (.cells ds 192)
 have HB2:=HB.alloc HB.size (.cells ds 192)
 have hsz:(w1.alloc (.cells ds 192)).heap.size = w1.heap.size + 1:=World.size_alloc _ _
 have C:=HCG.out w1.heap.size _ B2
 clear B2
 go_wp2_with fail
 generalize w1.alloc (.cells ds 192) = w2 at *
 refine C.mono ?_
 clear C
 rintro e w3 ⟨rfl,hb3⟩
 have bR3:Blk w3 w.heap.size 74 (frA frZ):=bR2.below hb3 bR2.lt
 have HB3:=HB2.trans (hb3.mono HB2.size)
 obtain ⟨k0,k1,k2,k3,f0,f1,f2,f3,l0⟩:=blk4 bR3
 clear hb3 bR2 HB2 bR HB hst
 dsimp only [frA]
 go_wp2_with fail
 refine bodyPost_ret (results_row2 rfl _ _ w.heap.size 74 #[.int .i64 k,str b,.int .i64 a0,.int .i64 t0] (0,0) _ rfl (set4_blk _ _ _ _ bR3) Tryz.underlying74 rfl (by kernel_rfl)) rfl ?_
 exact ⟨rfl,set4_below HB3 (Nat.le_refl _) _ _ _ _⟩
theorem run_u8 {P:Program} {t e dst:TypeId} (hu:P.underlying t = some (.slice e)) (he:P.underlying e = some (.int .u8)) (hd:P.underlying dst = some .string) (w:World) (x:UInt8) :
 (convert t dst (.slice (some ⟨w.heap.size,0,none⟩) 1 1)).run P (w.alloc (.cells #[.int .u8 (x.toNat:Int)] e)) = .ok (str [x]) (w.alloc (.cells #[.int .u8 (x.toNat:Int)] e)):=by
 have R:=rd_new (W0:=w) (t:=e) (g:=w.heap.size) (m:=1) (size:=1) (cs:=byts [x]) rfl rfl
 exact run_bytes_str (P:=P) _ (c:=1) hu he hd R
theorem Put_any (body:List UInt8) (w:World) (hs:body.length≤1000) :
 Calls Tryz.prog 75 #[.int .i64 1,str body] w fun e w'=>e = .returned (.tuple #[str (putF sumV 1 body).1,.int .i64 (putF sumV 1 body).2])∧Below w.heap.size w w':=by
 have e0:putF sumV 1 body = (UInt8.ofNat 1 :: (fixV body.length 4).1 ++ body ++ (fixV (sumV (UInt8.ofNat 1 :: (fixV body.length 4).1 ++ body)) 4).1,(fixV (sumV (UInt8.ofNat 1 :: (fixV body.length 4).1 ++ body)) 4).2):=by
  unfold putF
  rw [if_neg (by decide),if_neg (by omega)]
  rfl
 rw [e0]
 clear e0
 have CK:=known_any 1
 rw [show kindB 1 = true by decide] at CK
 have CF:=fun w=>fix_any (body.length:Int) 4 w ⟨by omega,by omega⟩
 have hf:fixV (body.length:Int) 4 = (fbytes 4 body.length,0):=fixV_yes (k:=4) (by omega) (by omega) (by omega)
 have hfl:(fbytes 4 body.length).length = 4:=by simp [fbytes]
 rw [hf] at CF ⊢
 generalize fbytes 4 body.length = sz at *
 dsimp only at CF ⊢
 have CO:=fun w=>Of_any (UInt8.ofNat 1 :: sz ++ body) w (by simp only [List.length_append,List.length_cons];omega)
 have hsi:inU (sumV (UInt8.ofNat 1 :: sz ++ body)):=notU_in _
 generalize sumV (UInt8.ofNat 1 :: sz ++ body) = sm at *
 have CF2:=fun w=>fix_any sm 4 w ⟨by have:=hsi.1;omega,by have:=hsi.2;omega⟩
 have hsw:IntKind.i64.wrap sm = sm:=w64s (by have:=hsi.1;omega) (by have:=hsi.2;omega)
 have hf2:fixV sm 4 = (fbytes 4 sm.toNat,0):=by
  have:=fixV_yes (n:=sm.toNat) (k:=4) (by omega) (by omega) (by have:=hsi.2;have:=hsi.1;omega)
  rw [Int.toNat_of_nonneg hsi.1] at this
  exact this
 have hfl2:(fbytes 4 sm.toNat).length = 4:=by simp [fbytes]
 rw [hf2] at CF2 ⊢
 generalize fbytes 4 sm.toNat = sz2 at *
 dsimp only at CF2 ⊢
 have CT:=Table_any
 obtain ⟨ds,hds⟩:∃ ds,(us tabV).toArray = ds:=⟨_,rfl⟩
 have e3:str (UInt8.ofNat 1 :: sz ++ body) = .string (({ data:=#[1] }:ByteArray) ++ ⟨sz.toArray⟩ ++ ⟨body.toArray⟩):=congrArg Value.string (app_3 [1] sz body).symm
 have e4:str (UInt8.ofNat 1 :: sz ++ body ++ sz2) = .string (({ data:=#[1] }:ByteArray) ++ ⟨sz.toArray⟩ ++ ⟨body.toArray⟩ ++ ⟨sz2.toArray⟩):=congrArg Value.string (by rw [← app_s];exact congrArg (· ++ (⟨sz2.toArray⟩:ByteArray)) (app_3 [1] sz body).symm)
 rw [hds] at CT CO
 rw [e3] at CO
 rw [e4]
 have hcv:∀ w:World,(convert 99 9 (.slice (some ⟨w.heap.size,0,none⟩) 1 1)).run Tryz.prog (w.alloc (.cells #[.int .u8 1] 5)) = .ok (str [UInt8.ofNat 1]) (w.alloc (.cells #[.int .u8 1] 5)):=fun w=>run_u8 (P:=Tryz.prog) Tryz.underlying99 Tryz.underlying5 Tryz.underlying9 w (UInt8.ofNat 1)
 have HCK:=Lib.hid CK
 have HCF:=Lib.hid CF
 have HCF2:=Lib.hid CF2
 have HCT:=Lib.hid CT
 have HCO:=Lib.hid CO
 have HCV:=Lib.hid hcv
 have hbb:¬ (60000:Int) < (body.length:Int):=by omega
 clear CK CF CF2 CT CO hds hsi hf hf2 hcv
 go_enter Tryz.func75,Tryz.ntmps75
 go_wp2_with fail
 refine (HCK.out _).mono ?_
 rintro e w1 ⟨rfl,rfl⟩
 go_wp2_with fail
 refine (HCF.out _).mono ?_
 rintro e w1 ⟨rfl,hb1⟩
 have hcv:=HCV.out w1
 go_wp2_with fail
 have HB:=hb1.alloc hb1.size (.cells #[.int .u8 1] 5)
 obtain ⟨w2,hw2⟩:∃ w2,w1.alloc (.cells #[.int .u8 1] 5) = w2:=⟨_,rfl⟩
 rw [hw2] at HB ⊢
 refine (HCT.out _).mono ?_
 rintro e w3 ⟨rfl,hb3⟩
 replace HB:=HB.trans (hb3.mono HB.size)
 clear hb3 hw2 hcv
 go_wp2_with fail
 refine (HCO.out _).mono ?_
 rintro e w4 ⟨rfl,hb4⟩
 replace HB:=HB.trans (hb4.mono HB.size)
 clear hb4
 go_wp2_with fail
 refine (HCF2.out _).mono ?_
 rintro e w5 ⟨rfl,hb5⟩
 replace HB:=HB.trans (hb5.mono HB.size)
 clear hb5
 go_wp2_with fail
 go_ret2
 exact ⟨rfl,HB⟩
end FraW
end Go.Proofs.YtnpncpoiiikafaaGreat
