/- TabG -/
import Derived.Test.YtnpncpoiiikafaaGreatHufPQt
import Derived.Test.YtnpncpoiiikafaaGreatBitNQt
import Derived.Test.YtnpncpoiiikafaaGreatBitUQt
import Derived.Laws.EntriesVeiled
import Derived.BigQuiet
import Derived.Deep.DeepCutAuto
import Derived.Test.YtnpncpoiiikafaaGreatLenKQt
import Derived.Test.YtnpncpoiiikafaaGreatMemQt
import Derived.ProofKit
import Derived.OpenShut
import Derived.Deep.Slices
import Derived.Lib.SmallJoins
import Derived.Test.YtnpncpoiiikafaaGreatLfAQt
import Derived.Test.YtnpncpoiiikafaaGreatCanGQt
set_option linter.unusedVariables false
set_option linter.unusedSimpArgs false
set_option linter.unnecessarySimpa false
set_option maxRecDepth 100000
set_option maxHeartbeats 32000000
namespace Go.Proofs.YtnpncpoiiikafaaGreat
open Go.RowKit
namespace TabW
open LenW (okL okL_at chkL chk0 check_any)
open BitW (rdr RLeft ungB El_int2)
theorem grown_below {w w':World} {gl:Nat} (h:w.grownBy w' (some gl)) (hl:gl < w.heap.size):Below gl w w':=⟨h.os,h.tape,h.output,h.size,fun k hk=>h.block k (by omega) (by simp;omega)⟩
def lenOf:Value → Nat
 | .slice _ n _=>n
 | _=>0
theorem getT_round {s:List UInt8} {n f p:Nat} {acc:List Int} {last:Int} {x:List Int × Nat × Int} (h:getT s n (f + 1) p acc last = x) (hn:acc.length < n) :
 ((getB (bitsB s) p 4).2 ≠ 0 → x = ([],0,(getB (bitsB s) p 4).2))∧((getB (bitsB s) p 4).2 = 0 → (ungB s (p + 4)).2.1 ≠ 0 → x = ([],0,(ungB s (p + 4)).2.1)) ∧
 ((getB (bitsB s) p 4).2 = 0 → (ungB s (p + 4)).2.1 = 0 → (getB (bitsB s) p 4).1 = last → x = ([],0,5)) ∧
 ((getB (bitsB s) p 4).2 = 0 → (ungB s (p + 4)).2.1 = 0 → ¬ (getB (bitsB s) p 4).1 = last → (n:Int) - (acc.length:Nat) < ((ungB s (p + 4)).1:Nat) → x = ([],0,40)) ∧
 ((getB (bitsB s) p 4).2 = 0 → (ungB s (p + 4)).2.1 = 0 → ¬ (getB (bitsB s) p 4).1 = last → ¬ (n:Int) - (acc.length:Nat) < ((ungB s (p + 4)).1:Nat) → getT s n f (p + 4 + (ungB s (p + 4)).2.2) (acc ++ List.replicate (ungB s (p + 4)).1 (getB (bitsB s) p 4).1) (getB (bitsB s) p 4).1 = x):=by
 rw [getT,if_neg (by omega)] at h
 refine ⟨fun q=>?_,fun q r=>?_,fun q r t=>?_,fun q r t u=>?_,fun q r t u=>?_⟩
 ·rw [if_pos q] at h;exact h.symm
 ·rw [if_neg (by simp [q]),if_pos r] at h;exact h.symm
 ·rw [if_neg (by simp [q]),if_neg (by simp [r]),if_pos t] at h;exact h.symm
 ·rw [if_neg (by simp [q]),if_neg (by simp [r]),if_neg t,if_pos u] at h;exact h.symm
 ·rw [if_neg (by simp [q]),if_neg (by simp [r]),if_neg t,if_neg u] at h;exact h
theorem held_zero (n er:Int) (gf:Nat) (w:World) (h:Blk w gf 26 #[.int .i64 0]) :
 Calls Tryz.prog 132 #[.int .i64 n,.int .i64 er,.pointer (some ⟨gf,0,none⟩)] w fun e w'=>e = .returned (.int .i64 n)∧w' = w.setCell ⟨gf,0,none⟩ (.int .i64 er):=by
 obtain ⟨c0,f0,z⟩:=blk1 h
 go_enter Tryz.func132,Tryz.ntmps132
 go_wp2_with fail
 go_ret
 exact ⟨rfl,rfl⟩
theorem run_make0 {P:Program} (t e:TypeId) (z:Value) (size bytes:Nat) (ht:P.underlying t = some (.slice e)) (hinfo:(P.info? e).map (fun i=>(i.zero,i.size,i.bytes)) = some (some z,size,bytes))
 (n:Nat) (hbytes:bytes * n≤281474976710656) (h63:n≤9223372036854775807) (w:World) :
 (Instr.makeSlice t (.int .i64 0) (.int .i64 (n:Int))).run P w = .ok (.slice (some ⟨w.heap.size,0,none⟩) 0 n) (w.alloc (.cells (madeCells z.cells (n * size)) e)):=by
 obtain ⟨i,hi,hzz⟩:=Option.map_eq_some_iff.1 hinfo
 simp only [Prod.mk.injEq] at hzz
 obtain ⟨hz,hs,hb⟩:=hzz
 have hb':(i.bytes:Int) * (n:Int)≤281474976710656:=by
  have h:((i.bytes * n:Nat):Int)≤281474976710656:=by rw [hb];omega
  rwa [Int.natCast_mul] at h
 have hr:=run_make (P:=P) w t e i z ht hi hz .i64 .i64 0 n (by omega) (by omega) hb' (by omega)
 simp only [Int.toNat_natCast,hs] at hr
 exact hr
theorem tget_any (gr:Nat) (s:List UInt8) (n:Nat) (w:World) (hr:Blk w gr 198 (rdr s 0)) (hn:n≤257) (hs:s.length≤100000) (x:List Int × Nat × Int) (hx:tabG s n = x) :
 Calls Tryz.prog 89 #[.pointer (some ⟨gr,0,none⟩),.int .i64 n] w fun e w'=>∃ A2 n2 c2,e = .returned (.tuple #[.slice A2 n2 c2,.int .i64 x.2.2])∧n2≤c2∧Rd w' w'.heap.size 1 A2 n2 (ints x.1)∧RLeft w w' gr s (if x.2.2 = 0 then x.2.1 else 0):=by
 have hmf:∀ (fn:Fn) (first cap:Array Value) (w:World),(Instr.makeFunc fn first cap).run Tryz.prog w = .ok (.func fn first cap) w:=fun _ _ _ _=>rfl
 have hmk:=fun w=>run_make0 (P:=Tryz.prog) 84 3 (.int .i64 0) 1 8 Tryz.underlying84 (by kernel_rfl) n (by omega) (by omega) w
 have hgr:=hr.lt
 have HX:=Lib.hid hx
 have hr0:=hr
 obtain ⟨r0,r1,_,_,_⟩:=blk2 hr0
 clear hx hr0
 go_enter Tryz.func89,Tryz.ntmps89
 go_wp2_with fail
 refine (BitW.new_any [] w).mono ?_
 rintro e w1 ⟨rfl,rfl⟩
 have HB1:Below w.heap.size w (w.alloc (.cells (rdr [] 0) 198)):=(Below.refl _ _).alloc (Nat.le_refl _) _
 have bL:=Blk.new w 198 (rdr [] 0)
 have hrr:=hr.below HB1 hgr
 have hrr':=hrr
 obtain ⟨r0,r1,_,_,_⟩:=blk2 hrr'
 have bL':=bL
 obtain ⟨l0,l1,lf0,lf1,_⟩:=blk2 bL'
 clear hrr' bL'
 go_wp2_with fail
 clear r0 r1 l0 l1 lf0 lf1 hmk hrr
 have b0:Blk (((w.alloc (.cells (rdr s 0) 198)).alloc (.cells #[.int .i64 0] 26)).alloc (.cells (madeCells #[.int .i64 0] n) 3)) w.heap.size 198 (rdr s 0):=((Blk.new _ _ _).alloc _).alloc _
 have b1:Blk (((w.alloc (.cells (rdr s 0) 198)).alloc (.cells #[.int .i64 0] 26)).alloc (.cells (madeCells #[.int .i64 0] n) 3)) (w.heap.size + 1) 26 #[.int .i64 0]:=by
  have:=Blk.new (w.alloc (.cells (rdr s 0) 198)) 26 #[.int .i64 0];rw [World.size_alloc] at this;exact this.alloc _
 have o0:Own (((w.alloc (.cells (rdr s 0) 198)).alloc (.cells #[.int .i64 0] 26)).alloc (.cells (madeCells #[.int .i64 0] n) 3)) (w.heap.size + 1 + 1) 3 1 (some ⟨w.heap.size + 1 + 1,0,none⟩) 0 n (ints []):=by
  have:=own_made (W0:=(w.alloc (.cells (rdr s 0) 198)).alloc (.cells #[.int .i64 0] 26)) (base:=w.heap.size + 1 + 1) (t:=3) (g:=w.heap.size + 1 + 1) (n:=0) (c:=n) (size:=1) (cs:=madeCells #[.int .i64 0] n) (by simp) (by omega) (by simp [madeCells]) (by omega) (by unfold maxLen;omega)
  simpa [ints] using this
 have hb0:Below w.heap.size w (((w.alloc (.cells (rdr s 0) 198)).alloc (.cells #[.int .i64 0] 26)).alloc (.cells (madeCells #[.int .i64 0] n) 3)):=(((Below.refl _ w).alloc (Nat.le_refl _) _).alloc (by simp) _).alloc (by simp;omega) _
 clear bL HB1
 go_loopw [9,10] (fun out last wr=>∃ (j q c2 f:Nat) (A2:Option Addr) (acc:List Int) (la:Int),out = .slice A2 j c2∧last = .int .i64 la∧acc.length = j∧j≤n∧q≤8 * s.length∧getT s n f q acc la = x∧n - j < f∧Blk wr w.heap.size 198 (rdr s q)∧Blk wr (w.heap.size + 1) 26 #[.int .i64 0]∧Own wr (w.heap.size + 1 + 1) 3 1 A2 j c2 (ints acc)∧Below w.heap.size w wr) (fun out _ _=>n - lenOf out)
 case atStart=>exact ⟨0,0,n,n + 1,_,[],-1,rfl,rfl,rfl,by omega,by omega,HX.out,by omega,b0,b1,o0,hb0⟩
 case round =>
  clear b0 b1 o0 hb0
  obtain ⟨j,q,c2,f,A2,acc,la,rfl,rfl,hj,hjn,hq,hg,hf,bL,bF,o2,hbw⟩:=hrel
  have hsz:=hbw.size
  have hLl:=bL.lt
  have hFl:=bF.lt
  by_cases hlt:j < n
  ·obtain ⟨f,rfl⟩:∃ g,f = g + 1:=⟨f - 1,by omega⟩
   have HG:=Lib.hid (getT_round hg (by omega))
   have hcv:=@getB_conv s q
   obtain ⟨v,hv⟩:∃ v,getB (bitsB s) (q:Nat) 4 = v:=⟨_,rfl⟩
   have C:=BitW.get_any w.heap.size s q 4 wr bL hq (by omega) v hv
   rw [hv] at HG hcv
   have HCV:=Lib.hid hcv
   clear hg hv hcv
   obtain ⟨v1,v2⟩:=v
   dsimp only at C
   have hjI:(j:Int) < (n:Int):=by omega
   go_wp2_with fail
   refine C.mono ?_
   clear C
   rintro e w1 ⟨rfl,bL1,hg1⟩
   have bF1:=bF.grown hg1 (by simp)
   have o1:=o2.grown hg1 (.inr fun e=>by have:=(o2.blk _ e).1;omega)
   have hb1:=hbw.trans (grown_below hg1 hLl)
   have hz1:=hg1.size
   clear bL bF o2 hg1
   have C:=held_zero v1 v2 (w.heap.size + 1) w1 bF1
   go_wp2_with fail
   refine C.mono ?_
   clear C
   rintro e w2 ⟨rfl,hw2⟩
   have bF2:Blk w2 (w.heap.size + 1) 26 #[.int .i64 v2]:=by rw [hw2];exact bF1.set 0 _
   have bL2:Blk w2 w.heap.size 198 (rdr s (if v2 = 0 then q + (4:Int).toNat else q)):=by rw [hw2];exact bL1.far (p:=⟨w.heap.size + 1,0,none⟩) (by dsimp only;omega) _
   have o2:Own w2 (w.heap.size + 1 + 1) 3 1 A2 j c2 (ints acc):=by rw [hw2];exact o1.far (p:=⟨w.heap.size + 1,0,none⟩) (fun e=>by have:=(o1.blk _ e).1;dsimp only at this;omega) _
   have hb2:Below w.heap.size w w2:=by rw [hw2];exact hb1.setCell (p:=⟨w.heap.size + 1,0,none⟩) (by dsimp only;omega) _
   have hz2:w2.heap.size≤w1.heap.size:=by rw [hw2];simp
   have hz2':w1.heap.size≤w2.heap.size:=by rw [hw2];simp
   clear bF1 bL1 o1 hb1 hw2
   have bX:=Blk.new w2 202 #[.int .i64 v1,.int .i64 0]
   have bF3:=bF2.alloc (.cells #[.int .i64 v1,.int .i64 0] 202)
   have bL3:=bL2.alloc (.cells #[.int .i64 v1,.int .i64 0] 202)
   have o3:=o2.alloc (.cells #[.int .i64 v1,.int .i64 0] 202)
   have hb3:=hb2.alloc hb2.size (.cells #[.int .i64 v1,.int .i64 0] 202)
   have hz3:(w2.alloc (.cells #[.int .i64 v1,.int .i64 0] 202)).heap.size = w2.heap.size + 1:=by simp
   have bF3':=bF3
   obtain ⟨f0,ff0,_⟩:=blk1 bF3'
   clear bF3'
   by_cases hv2:v2 = 0
   ·subst hv2
    rw [if_pos rfl] at bL3
    have hcv2:=HCV.out rfl
    obtain ⟨hq4,y,hy,_⟩:=hcv2
    have hy1:v1 = (y:Int):=hy
    subst hy1
    have hun:=fun n' k'=>@ung_conv s (q + 4) n' k'
    obtain ⟨u,hu⟩:∃ u,ungB s (q + 4) = u:=⟨_,rfl⟩
    rw [hu] at HG hun
    have C:=BitW.gamma_any w.heap.size s (q + 4) (w2.alloc (.cells #[.int .i64 (y:Int),.int .i64 0] 202)) bL3 hq4 (by omega) u hu
    have HUN:=Lib.hid hun
    clear hun hu hy
    obtain ⟨k,er,sz⟩:=u
    dsimp only at C
    go_wp2_with fail
    refine C.mono ?_
    clear C
    rintro e w4 ⟨rfl,bL4,hg4⟩
    have bF4:=bF3.grown hg4 (by simp)
    have bX4:=bX.grown hg4 (by simp;omega)
    have o4:=o3.grown hg4 (.inr fun e=>by have:=(o3.blk _ e).1;omega)
    have hb4:=hb3.trans (grown_below hg4 (by omega))
    have hz4:=hg4.size
    clear bL3 bF3 bX o3 hg4 hb3 f0 ff0
    have C:=held_zero (k:Int) er (w.heap.size + 1) w4 bF4
    go_wp2_with fail
    refine C.mono ?_
    clear C
    rintro e w5 ⟨rfl,hw5⟩
    have bF5:Blk w5 (w.heap.size + 1) 26 #[.int .i64 er]:=by rw [hw5];exact bF4.set 0 _
    have bX5:Blk w5 w2.heap.size 202 #[.int .i64 (y:Int),.int .i64 0]:=by rw [hw5];exact bX4.far (p:=⟨w.heap.size + 1,0,none⟩) (by dsimp only;omega) _
    have bL5:Blk w5 w.heap.size 198 (rdr s (q + 4 + sz)):=by rw [hw5];exact bL4.far (p:=⟨w.heap.size + 1,0,none⟩) (by dsimp only;omega) _
    have o5:Own w5 (w.heap.size + 1 + 1) 3 1 A2 j c2 (ints acc):=by rw [hw5];exact o4.far (p:=⟨w.heap.size + 1,0,none⟩) (fun e=>by have:=(o4.blk _ e).1;dsimp only at this;omega) _
    have hb5:Below w.heap.size w w5:=by rw [hw5];exact hb4.setCell (p:=⟨w.heap.size + 1,0,none⟩) (by dsimp only;omega) _
    have hz5:w5.heap.size≤w4.heap.size:=by rw [hw5];simp
    have hz5':w4.heap.size≤w5.heap.size:=by rw [hw5];simp
    clear bF4 bX4 bL4 o4 hb4 hw5
    have bX5':=bX5
    obtain ⟨x0,x1,xf0,xf1,_⟩:=blk2 bX5'
    have bX6:Blk (w5.setCell ⟨w2.heap.size,1,none⟩ (.int .i64 (k:Int))) w2.heap.size 202 #[.int .i64 (y:Int),.int .i64 (k:Int)]:=blk_eq (bX5.set 1 _) (by simp)
    have bF6:=bF5.far (p:=⟨w2.heap.size,1,none⟩) (by dsimp only;omega) (.int .i64 (k:Int))
    have bL6:=bL5.far (p:=⟨w2.heap.size,1,none⟩) (by dsimp only;omega) (.int .i64 (k:Int))
    have o6:=o5.far (p:=⟨w2.heap.size,1,none⟩) (fun e=>by have:=(o2.blk _ e).2;dsimp only at this;omega) (.int .i64 (k:Int))
    have hb6:=hb5.setCell (p:=⟨w2.heap.size,1,none⟩) (by dsimp only;omega) (.int .i64 (k:Int))
    have hz6:(w5.setCell ⟨w2.heap.size,1,none⟩ (.int .i64 (k:Int))).heap.size≤w5.heap.size∧w5.heap.size≤(w5.setCell ⟨w2.heap.size,1,none⟩ (.int .i64 (k:Int))).heap.size:=by simp
    have hne6:∀ b,blkOf A2 = some b → b ≠ w2.heap.size:=fun b e=>by have:=(o2.blk _ e).2;omega
    obtain ⟨y0,y1,_,_,_⟩:=blk2 bX6
    have bF6':=bF6
    obtain ⟨f0,_,_⟩:=blk1 bF6'
    have hgrw:=hr.below hb6 hgr
    clear bF5 bX5 bL5 o5 hb5 bX5' bF6' o2
    go_upto_region 14 with fail
    generalize w5.setCell ⟨w2.heap.size,1,none⟩ (.int .i64 (k:Int)) = w6 at *
    by_cases her:er = 0
    ·subst her
     obtain ⟨hqs,hk0,hk32,_⟩:=HUN.out _ _ hq4 rfl
     by_cases hla:(y:Int) = la
     ·have hx:=HG.out.2.2.1 (by trivial) (by trivial) hla
      subst hx
      subst hla
      clear bX6 bF6 bL6 o6
      go_wp2_with fail
      go_ret2
      exact ⟨none,0,0,rfl,by omega,Rd.nil _ _ _ _,hgrw,hb6.os,hb6.tape,hb6.output,hb6.size,fun b hb _=>hb6.block b hb⟩
     ·have hlaI:((y:Int) == la) = false:=by simpa using hla
      have hlaD:decide ((y:Int) = la) = false:=by simpa using hla
      by_cases hkn:(n:Int) - (j:Int) < (k:Int)
      ·have hx:=HG.out.2.2.2.1 (by trivial) (by trivial) hla (by first | exact hkn | (rw [hj];exact hkn) | (rw [hj];omega) | omega)
       subst hx
       have hknI:(k:Int) > (n:Int) - (j:Int):=by omega
       clear bX6 bF6 bL6 o6 hla
       go_wp2_with fail
       go_ret2
       exact ⟨none,0,0,rfl,by omega,Rd.nil _ _ _ _,hgrw,hb6.os,hb6.tape,hb6.output,hb6.size,fun b hb _=>hb6.block b hb⟩
      ·have hgo:=HG.out.2.2.2.2 (by trivial) (by trivial) hla (by first | exact hkn | (rw [hj];exact hkn) | (rw [hj];omega) | omega)
       have HGO:=Lib.hid hgo
       have hknI:¬ (k:Int) > (n:Int) - (j:Int):=by omega
       clear hgo hla
       have bF6'':=bF6
       go_wp2_with fail
       go_loopw [9,69] (fun out i wr=>∃ (t c3:Nat) (A3:Option Addr),i = .int .i64 t∧out = .slice A3 (j + t) c3∧t≤k∧Own wr (w.heap.size + 1 + 1) 3 1 A3 (j + t) c3 (ints (acc ++ List.replicate t (y:Int)))∧Blk wr w.heap.size 198 (rdr s (q + 4 + sz))∧Blk wr (w.heap.size + 1) 26 #[.int .i64 0]∧Blk wr w2.heap.size 202 #[.int .i64 (y:Int),.int .i64 (k:Int)]∧(∀ b,blkOf A3 = some b → b ≠ w2.heap.size)∧Below w.heap.size w wr) (fun _ i _=>k - (intOf i).toNat)
       case atStart=>exact ⟨0,c2,A2,rfl,by simp,by omega,by simpa using o6,bL6,bF6'',bX6,hne6,hb6⟩
       case round =>
        clear o6 bL6 bF6 bX6 hb6 hne6 f0 y0 y1 bF6'' hgrw
        obtain ⟨t,c3,A3,rfl,rfl,ht,o7,bL7,bF7,bX7,hne7,hb7⟩:=hrel
        have hsz7:=hb7.size
        have hXl:=bX7.lt
        have hFl7:=bF7.lt
        have bX7':=bX7
        obtain ⟨y0,y1,_,_,_⟩:=blk2 bX7'
        clear bX7'
        by_cases hlk:t < k
        ·have hrn:Rd (wr.alloc (.cells #[.int .i64 (y:Int)] 3)) (wr.heap.size + 1) 1 (some ⟨wr.heap.size,0,none⟩) 1 (ints [(y:Int)]):=rd_new (W0:=wr) (t:=3) (cs:=ints [(y:Int)]) (size:=1) (m:=1) rfl rfl
         have hneb:∀ b,b < w.heap.size + 1 + 1 → some b ≠ blkOf A3:=fun b hb e=>by have:=(o7.blk b e.symm).1;omega
         go_wp2_with (at_builtin;with_reducible refine wp_append El_int2 rfl (s:=.tmp 71) (x:=.tmp 74) rfl rfl (o7.alloc _) rfl hrn (ints_one _) (by unfold maxLen;omega) (by omega) (by simp;omega) ?_;intro A4 c4 w7 o8 hg8 hat8;have hb8:=below_grown (hb7.alloc hsz7 (.cells #[.int .i64 (y:Int)] 3)) hg8 (o7.alloc _) (by omega);have bL8:=(bL7.alloc (.cells #[.int .i64 (y:Int)] 3)).grown hg8 (hneb _ (by omega));have bF8:=(bF7.alloc (.cells #[.int .i64 (y:Int)] 3)).grown hg8 (hneb _ (by omega));have bX8:=(bX7.alloc (.cells #[.int .i64 (y:Int)] 3)).grown hg8 (fun e=>absurd rfl (hne7 _ e.symm)))
         have e1:ints (acc ++ List.replicate t (y:Int)) ++ ints [(y:Int)] = ints (acc ++ List.replicate (t + 1) (y:Int)):=by rw [List.replicate_succ'];simp [ints]
         rw [e1] at o8
         have hne8:∀ b,blkOf A4 = some b → b ≠ w2.heap.size:=by
          intro b hb
          rcases hat8 with h8 | h8
          ·exact hne7 b (by rw [← h8];exact hb)
          ·rw [h8,World.size_alloc] at hb
           simp only [Option.some.injEq] at hb
           omega
         go_roundw
         case rel=>exact ⟨t + 1,c4,A4,by go_num,by rw [Nat.add_assoc],by omega,o8,bL8,bF8,bX8,hne8,hb8⟩
         case measure=>simp [intOf];omega
        ·obtain rfl:t = k:=by omega
         go_wp2_with fail
         go_roundw
         case rel=>exact ⟨j + t,q + 4 + sz,c3,f,A3,acc ++ List.replicate t (y:Int),(y:Int),rfl,rfl,by simp;omega,by omega,hqs,HGO.out,by omega,bL7,bF7,o7,hb7⟩
         case measure=>simp [lenOf];omega
    ·have hx:=HG.out.2.1 (by trivial) her
     try dsimp only at hx
     subst hx
     have herI:(er == 0) = false:=by simpa using her
     have herI2:(er != 0) = true:=by simp [her]
     have herD:decide (er = 0) = false:=by simpa using her
     clear bX6 bF6 bL6 o6
     have hif:∀ (a b:Nat),(if er = 0 then a else b) = b:=fun a b=>if_neg her
     have HIF:=Lib.hid hif
     clear hif
     go_wp2_with fail
     go_quiet (fail)
     go_wp2
     go_ret2
     exact ⟨none,0,0,rfl,by omega,Rd.nil _ _ _ _,by first | exact hgrw.drewN _ | (rw [HIF.out];exact hgrw.drewN _),hb6.os,hb6.tape,hb6.output,hb6.size,fun b hb _=>hb6.block b hb⟩
   ·have hx:=HG.out.1 hv2
    try dsimp only at hx
    subst hx
    have herI:(v2 == 0) = false:=by simpa using hv2
    have herI2:(v2 != 0) = true:=by simp [hv2]
    have herD:decide (v2 = 0) = false:=by simpa using hv2
    have hif:∀ (a b:Nat),(if v2 = 0 then a else b) = b:=fun a b=>if_neg hv2
    have HIF:=Lib.hid hif
    have hgrw:=hr.below hb3 hgr
    clear hif bX bF3 bL3 o3
    go_wp2_with fail
    go_quiet (fail)
    go_wp2
    go_ret2
    exact ⟨none,0,0,rfl,by omega,Rd.nil _ _ _ _,by first | exact hgrw.drewN _ | (rw [HIF.out];exact hgrw.drewN _),hb3.os,hb3.tape,hb3.output,hb3.size,fun b hb _=>hb3.block b hb⟩
  ·have hje:j = n:=by omega
   have hge:¬ (j:Int) < (n:Int):=by omega
   obtain ⟨f,rfl⟩:∃ g,f = g + 1:=⟨f - 1,by omega⟩
   rw [getT,if_pos (by omega)] at hg
   clear hje
   have C:=check_any A2 j c2 acc wr o2.rd (by omega) _ rfl
   have hrw:=hr.below hbw hgr
   by_cases hk:chkL acc = 0
   ·rw [if_pos hk] at hg
    subst hg
    rw [hk] at C
    have hrw':=hrw
    obtain ⟨r0,r1,rf0,rf1,_⟩:=blk2 hrw'
    have bL':=bL
    obtain ⟨l0,l1,_,_,_⟩:=blk2 bL'
    clear hk bL' hrw'
    go_wp2_with fail
    refine C.mono ?_
    clear C
    rintro e w1 ⟨rfl,rfl⟩
    go_wp2_with fail
    go_ret2
    refine ⟨A2,j,c2,rfl,o2.cap,?_,?_,hbw.os,hbw.tape,hbw.output,by simpa [World.setCell] using hbw.size,?_⟩
    ·have o3:=(o2.far (p:=⟨gr,0,none⟩) (fun e=>by have:=(o2.blk _ e).1;dsimp only at this;omega) (.string ⟨s.toArray⟩)).far (p:=⟨gr,1,none⟩) (fun e=>by have:=(o2.blk _ e).1;dsimp only at this;omega) (.int .i64 (q:Int))
     exact o3.rd
    ·try rw [if_pos rfl]
     exact blk_eq ((hrw.set 0 (.string ⟨s.toArray⟩)).set 1 (.int .i64 (q:Int))) (by simp [str])
    ·intro b hb hne
     have hkg:¬ b = gr:=fun e=>hne (by rw [e])
     rw [Below.heap_setCell _ _ _ b hkg,Below.heap_setCell _ _ _ b hkg]
     exact hbw.block b hb
   ·rw [if_neg hk] at hg
    obtain ⟨v,hve⟩:∃ v,chkL acc = v:=⟨_,rfl⟩
    rw [hve] at hg hk C
    subst hg
    clear hve
    have hvI:(v != 0) = true:=by simp [hk]
    have hif:∀ (a b:Nat),(if v = 0 then a else b) = b:=fun a b=>if_neg hk
    have HIF:=Lib.hid hif
    clear hif
    go_wp2_with fail
    refine C.mono ?_
    clear C
    rintro e w1 ⟨rfl,rfl⟩
    go_wp2_with fail
    go_ret2
    exact ⟨none,0,0,rfl,by omega,Rd.nil _ _ _ _,by first | exact hrw | (rw [HIF.out];exact hrw),hbw.os,hbw.tape,hbw.output,hbw.size,fun b hb _=>hbw.block b hb⟩
end TabW
end Go.Proofs.YtnpncpoiiikafaaGreat
namespace Go.Proofs.YtnpncpoiiikafaaGreat
open Go.RowKit
namespace TabW
open LenW (okL okL_at chkL chk0 check_any)
open BitW (rdr RLeft ungB El_int2 left_any gam gamB)
end TabW
end Go.Proofs.YtnpncpoiiikafaaGreat
namespace Go.Proofs.YtnpncpoiiikafaaGreat
open Go.RowKit
namespace HufW
open LenW (chkL usedL symsB symsOk unpG getC CodeAt cget_any getC_len)
open TabW (tabG tget_any)
open BitW (rdr RLeft El_int2 doneB done_any)
def CodeIn (w:World) (B T g:Nat) (l:List Int):Prop:=∃ gW gS,(B≤g∧B≤gW∧B≤gS)∧(g < T∧gW < T∧gS < T) ∧
 Blk w g 208 (LenW.codeC (.slice (some ⟨gW,0,none⟩) l.length l.length) (.slice (some ⟨gS,0,none⟩) (usedL l) (usedL l)) (LenW.tab (LenW.cntL l)) (LenW.tab (LenW.fstL l)) (LenW.tab (LenW.plcL l)) true) ∧
 Blk w gW 228 (fcells (LenW.wordsF l)).toArray∧Blk w gS 3 (ints (LenW.sortF l)).toArray
theorem CodeIn.of {w:World} {B g:Nat} {l:List Int} (h:CodeAt w B g l):CodeIn w B w.heap.size g l:=by
 obtain ⟨gW,gS,h1,h2,h3,b1,b2,b3⟩:=h
 exact ⟨gW,gS,⟨h1,h2,h3⟩,⟨b1.lt,b2.lt,b3.lt⟩,b1,b2,b3⟩
theorem CodeIn.to {w:World} {B T g:Nat} {l:List Int} (h:CodeIn w B T g l):CodeAt w B g l:=by
 obtain ⟨gW,gS,⟨h1,h2,h3⟩,_,b1,b2,b3⟩:=h
 exact ⟨gW,gS,h1,h2,h3,b1,b2,b3⟩
theorem CodeIn.grown {w w':World} {B T g:Nat} {l:List Int} {row:Option Nat} (h:CodeIn w B T g l) (hg:w.grownBy w' row) (hr:∀ k,row = some k → k < B ∨ T≤k):CodeIn w' B T g l:=by
 obtain ⟨gW,gS,⟨h1,h2,h3⟩,⟨t1,t2,t3⟩,b1,b2,b3⟩:=h
 refine ⟨gW,gS,⟨h1,h2,h3⟩,⟨t1,t2,t3⟩,b1.grown hg ?_,b2.grown hg ?_,b3.grown hg ?_⟩ <;> intro e <;> have:=hr _ e.symm <;> omega
theorem CodeIn.alloc {w:World} {B T g:Nat} {l:List Int} (h:CodeIn w B T g l) (o:Obj):CodeIn (w.alloc o) B T g l :=
 h.grown (grown_of_below ((Below.refl _ w).alloc (Nat.le_refl _) o)) (fun k e=>by cases e)
def decV (s:List UInt8) (N:Nat):List Int × Int :=
 if (tabG s 257).2.2 = 0 then
  if (unpG (fun p=>getC (tabG s 257).1 ((bitsB s).drop p)) N (tabG s 257).2.1).2.2 = 0 then
   if doneB s (unpG (fun p=>getC (tabG s 257).1 ((bitsB s).drop p)) N (tabG s 257).2.1).2.1 = true then
    ((unpG (fun p=>getC (tabG s 257).1 ((bitsB s).drop p)) N (tabG s 257).2.1).1,0)
   else ([],6)
  else ([],(unpG (fun p=>getC (tabG s 257).1 ((bitsB s).drop p)) N (tabG s 257).2.1).2.2)
 else ([],(tabG s 257).2.2)
def endV (s:List UInt8) (y:List Int × Nat × Int):List Int × Int:=if y.2.2 = 0 then if doneB s y.2.1 = true then (y.1,0) else ([],6) else ([],y.2.2)
theorem decV_end {s:List UInt8} {N:Nat} {x:List Int × Nat × Int} (hx:tabG s 257 = x) (h0:x.2.2 = 0):decV s N = endV s (unpG (fun p=>getC x.1 ((bitsB s).drop p)) N x.2.1):=by
 unfold decV endV
 rw [hx,if_pos h0]
theorem decode_cap (s:List UInt8) (N:Nat) (w:World) (hN:N≤100000) (hs:s.length≤100000) (v:List Int × Int) (hv:decV s N = v) :
 Calls Tryz.prog 39 #[str s,.int .i64 N] w fun e w'=>∃ A2 n2 c2,e = .returned (.tuple #[.slice A2 n2 c2,.int .i64 v.2])∧n2≤c2∧c2≤9223372036854775807∧Rd w' w'.heap.size 1 A2 n2 (ints v.1)∧Below w.heap.size w w':=by
 have hmf:∀ (fn:Fn) (first cap:Array Value) (w:World),(Instr.makeFunc fn first cap).run Tryz.prog w = .ok (.func fn first cap) w:=fun _ _ _ _=>rfl
 obtain ⟨x,hx⟩:∃ x,tabG s 257 = x:=⟨_,rfl⟩
 have HV:=Lib.hid hv
 have HXX:=Lib.hid hx
 have hnl:¬ (N:Int) < 0:=by omega
 have hnb:¬ (N:Int) > 100000:=by omega
 have CT:=fun w0 (b:Blk w0 w.heap.size 198 (rdr s 0))=>tget_any w.heap.size s 257 w0 b (by omega) hs x hx
 rw [show ((257:Nat):Int) = 257 from rfl] at CT
 have HT:=Lib.hid CT
 clear hv hx CT
 have HB0:Below w.heap.size w (w.alloc (.cells (rdr s 0) 198)):=(Below.refl _ _).alloc (Nat.le_refl _) _
 have hR:=Blk.new w 198 (rdr s 0)
 go_enter Tryz.func39,Tryz.ntmps39
 go_wp2_with fail
 refine (BitW.new_any s w).mono ?_
 rintro e w1 ⟨rfl,rfl⟩
 go_wp2_with fail
 refine (HT.out _ hR).mono ?_
 clear HT
 rintro e w2 ⟨A2,n2,c2,rfl,hc2,r2,bR,hg⟩
 have HB2:=HB0.trans (TabW.grown_below hg hR.lt)
 have hz2:=HB2.size
 have hzR:=bR.lt
 clear HB0 hR hg
 by_cases h0:x.2.2 = 0
 ·rw [if_pos h0] at bR
  have hf:=TabW.tab_forms s 257 x HXX.out h0
  have HE:=Lib.hid (decV_end (N:=N) HXX.out h0)
  obtain ⟨l,q0,e0⟩:=x
  obtain rfl:e0 = 0:=h0
  obtain ⟨hl,hk,hq0,_⟩:=hf
  dsimp only at r2 bR hl hk hq0 HE
  obtain rfl:n2 = 257:=by have:=rd_len r2;omega
  have C:=LenW.new_any A2 257 c2 l w2 r2 (by omega) hk
  have HK:=Lib.hid hk
  have HX:=Lib.hid (show v = endV s ([] ++ (unpG (fun p=>getC l ((bitsB s).drop p)) (N - 0) q0).1,(unpG (fun p=>getC l ((bitsB s).drop p)) (N - 0) q0).2) by rw [← HV.out,HE.out];rfl)
  clear hk r2 HXX HV HE
  go_wp2_with fail
  refine C.mono ?_
  clear C
  rintro e w3 ⟨g,rfl,hC,HB⟩
  have bR3:=bR.below HB hzR
  have hCI:=CodeIn.of hC
  have HB3:=HB2.trans (HB.mono hz2)
  have hz3:=HB.size
  clear hC bR HB HB2
  go_wp2_with fail
  go_loopw [11,41] (fun out i wr=>∃ (j q:Nat) (acc:List Int) (A2:Option Addr) (c2:Nat),i = .int .i64 j∧out = .slice A2 j c2∧j≤N∧q≤8 * s.length∧v = endV s (acc ++ (unpG (fun p=>getC l ((bitsB s).drop p)) (N - j) q).1,(unpG (fun p=>getC l ((bitsB s).drop p)) (N - j) q).2) ∧
   Own wr w3.heap.size 3 1 A2 j c2 (ints acc)∧Blk wr w.heap.size 198 (rdr s q)∧CodeIn wr w2.heap.size w3.heap.size g l∧Below w.heap.size w wr∧w3.heap.size≤wr.heap.size) (fun _ i _=>N - (intOf i).toNat)
  case atStart=>exact ⟨0,q0,[],none,0,rfl,rfl,by omega,by omega,HX.out,Own.nil _ _ _ _,bR3,hCI,HB3,Nat.le_refl _⟩
  case round =>
   clear bR3 hCI HB3 HX
   obtain ⟨j,q,acc,A2,c2,rfl,rfl,hj,hq,hr,o2,bR,hC,hbw,hz⟩:=hrel
   have HR:=Lib.hid hr
   clear hr
   have hsz:=hbw.size
   by_cases hlt:j < N
   ·obtain ⟨m,hm⟩:∃ m,N - j = m + 1:=⟨N - j - 1,by omega⟩
    obtain ⟨v0,hv⟩:∃ v0,getC l ((bitsB s).drop q) = v0:=⟨_,rfl⟩
    have C:=cget_any l HK.out w2.heap.size g w.heap.size s q wr hC.to bR hq (by omega) v0 hv
    have hRR:=HR.out
    rw [hm,unpG,hv] at hRR
    have HR2:=Lib.hid hRR
    have hgl:=getC_len l (bitsB s) q (by rw [bitsB_len];exact hq)
    rw [hv,bitsB_len] at hgl
    have HGL:=Lib.hid hgl
    clear hRR hgl hv
    obtain ⟨v1,v2,v3⟩:=v0
    go_wp2_with fail
    refine C.mono ?_
    clear C
    rintro e w4 ⟨rfl,bR4,hg4⟩
    have hb4:Below w.heap.size w w4:=hbw.trans (TabW.grown_below hg4 bR.lt)
    have hbl:=fun b e=>(o2.blk b e).1
    have o4:=o2.grown hg4 (.inr fun e=>by have:=hbl _ e;omega)
    have hz4:=hg4.size
    have hC4:=hC.grown hg4 (fun k e=>by cases e;omega)
    clear o2 bR hC hg4 hbw
    by_cases he:v3 = 0
    ·subst he
     have HX3:=Lib.hid (show v = endV s (acc ++ [v1] ++ (unpG (fun p=>getC l ((bitsB s).drop p)) m (q + v2)).1,(unpG (fun p=>getC l ((bitsB s).drop p)) m (q + v2)).2) by rw [HR2.out,if_pos rfl];simp)
     have hqv:=HGL.out rfl
     have hrn:Rd (w4.alloc (.cells #[.int .i64 v1] 3)) (w4.heap.size + 1) 1 (some ⟨w4.heap.size,0,none⟩) 1 (ints [v1]):=rd_new (W0:=w4) (t:=3) (cs:=ints [v1]) (size:=1) (m:=1) rfl rfl
     go_wp2_with (at_builtin;with_reducible refine wp_append El_int2 rfl (s:=.tmp 52) (x:=.tmp 54) rfl rfl (o4.alloc _) rfl hrn (ints_one _) (by unfold maxLen;omega) (by omega) (by simp;omega) ?_;intro A5 c5 w5 o5 hg5 hat5;clear hrn;have hbX:=below_grown (hb4.alloc hb4.size (.cells #[.int .i64 v1] 3)) hg5 (o4.alloc _) (by omega);have bR5:=(bR4.alloc (.cells #[.int .i64 v1] 3)).grown hg5 (fun e=>by have:=hbl _ e.symm;omega);have hC5:=(hC4.alloc (.cells #[.int .i64 v1] 3)).grown hg5 (fun k e=>.inr (hbl k e));have hs5:=hg5.size)
     rw [World.size_alloc] at hs5
     have e1:ints acc ++ ints [v1] = ints (acc ++ [v1]):=by simp [ints]
     rw [e1] at o5
     go_roundw
     case rel=>exact ⟨j + 1,q + v2,acc ++ [v1],A5,c5,by go_num,rfl,by omega,hqv,by rw [show N - (j + 1) = m by omega];exact HX3.out,o5,bR5,hC5,hbX,by omega⟩
     case measure=>simp [intOf];omega
    ·have heI:(v3 != 0) = true:=by simp [he]
     have hx:v = ([],v3):=by rw [HR2.out,if_neg he,endV,if_neg he]
     subst hx
     clear HR2 HR HGL
     go_wp2_with fail
     go_ret2
     exact ⟨none,0,0,rfl,Nat.le_refl _,by omega,Rd.nil _ _ _ _,hb4⟩
   ·have hx:v = endV s (acc,q,0):=by rw [HR.out,show N - j = 0 by omega,unpG,List.append_nil]
    have C:=done_any w.heap.size s q wr bR hq (by omega)
    by_cases hd:doneB s q = true
    ·rw [hd] at C
     have hx2:v = (acc,0):=by rw [hx,endV,if_pos rfl,if_pos hd]
     subst hx2
     clear hx HR hd
     go_wp2_with fail
     refine C.mono ?_
     clear C
     rintro e w4 ⟨rfl,nq,rfl⟩
     go_wp2_with fail
     go_ret2
     exact ⟨A2,j,c2,rfl,o2.cap,o2.capm,(o2.below ((Below.refl _ wr).drewN_ nq)).rd,hbw.drewN_ nq⟩
    ·have hd2:doneB s q = false:=by simpa using hd
     rw [hd2] at C
     have hx2:v = ([],6):=by rw [hx,endV,if_pos rfl,if_neg hd]
     subst hx2
     clear hx HR hd hd2
     go_wp2_with fail
     refine C.mono ?_
     clear C
     rintro e w4 ⟨rfl,nq,rfl⟩
     go_wp2_with fail
     go_ret2
     exact ⟨none,0,0,rfl,Nat.le_refl _,by omega,Rd.nil _ _ _ _,hbw.drewN_ nq⟩
 ·have hx:v = ([],x.2.2):=by rw [← HV.out,decV,HXX.out,if_neg h0]
  have h0I:(x.2.2 != 0) = true:=by simp [h0]
  subst hx
  obtain ⟨l,q0,e0⟩:=x
  dsimp only at h0I h0 ⊢
  clear HXX HV r2 bR
  go_wp2_with fail
  go_ret2
  exact ⟨none,0,0,rfl,Nat.le_refl _,by omega,Rd.nil _ _ _ _,HB2⟩
end HufW
end Go.Proofs.YtnpncpoiiikafaaGreat
namespace Go.Proofs.YtnpncpoiiikafaaGreat
open Go.RowKit
namespace HufW
open LenW (chkL symsB symsOk unpG getC back_at)
open TabW (tabG tabB getT_back tab_forms rle rle_len)
open BitW (doneB)
theorem dec_tab {s:List UInt8} {l:List Int} {rest:List Nat} (hk:chkL l = 0) (h257:l.length = 257) (hs:bitsB s = tabB l ++ rest):tabG s 257 = (l,(tabB l).length,0):=by
 have:=rle_len l
 have:=getT_back s l hk rest hs (rle l) [] (l.length + 1) (-1) rfl (by omega) (.inl ⟨rfl,rfl⟩)
 rw [h257] at this
 exact this
theorem dec_at {s:List UInt8} {l r:List Int} {rest:List Nat} (hk:chkL l = 0) (ho:symsOk l r = true) (hs:bitsB s = tabB l ++ (symsB l r ++ rest)):unpG (fun p=>getC l ((bitsB s).drop p)) r.length (tabB l).length = (r,(tabB l).length + (symsB l r).length,0) :=
 back_at hk (bitsB s) (bitsB_lt _) r _ rest ho (by rw [hs,List.drop_left])
theorem dec_all {s:List UInt8} {r:List Int} {rest:List Nat} (h5:r.length≤100000) (hb:r.any badS = false) (hs:bitsB s = hufB r ++ rest) :
 decV s r.length = if doneB s (hufB r).length = true then (r,0) else ([],6):=by
 have hk:=bL_chk r h5
 have ho:=bL_ok r h5 hb
 have hs2:bitsB s = tabB (bL r) ++ (symsB (bL r) r ++ rest):=by rw [hs,hufB,List.append_assoc]
 rw [decV_end (dec_tab hk (bL_len r h5) hs2) rfl]
 dsimp only
 rw [dec_at hk ho hs2,endV,if_pos rfl]
 unfold hufB
 rw [List.length_append]
theorem dec_back (r:List Int) (h5:r.length≤100000) (hb:r.any badS = false):decV (textB (hufB r)) r.length = (r,0):=by
 obtain ⟨k,hk,hs⟩:=bits_text (hufB r) (hufB_lt r)
 rw [dec_all h5 hb hs,if_pos (BitW.done_at hk hs)]
end HufW
end Go.Proofs.YtnpncpoiiikafaaGreat
