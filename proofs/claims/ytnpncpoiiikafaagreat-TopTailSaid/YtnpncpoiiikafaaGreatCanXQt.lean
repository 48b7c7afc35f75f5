/- CanX -/
import Derived.Test.YtnpncpoiiikafaaGreatCanWQt
import Derived.Shelf.Strings.Builder1
import Derived.Shelf.Small.Bits
import Derived.Shelf.Small.Wraps
import Derived.Shelf.Strings.BuilderF
import Derived.Shelf.Strings.BuilderK
import Derived.Shelf.Strconv.Itoa0
import Derived.Shelf.Strings.Prefix
import Derived.Shelf.Strings.BuilderCap
import Derived.Ground.Names2Prog
import Derived.Shelf.Slices.SearchI
import Derived.Test.YtnpncpoiiikafaaGreatProg
set_option linter.unusedVariables false
set_option linter.unusedSimpArgs false
set_option linter.unnecessarySimpa false
set_option maxRecDepth 100000
set_option maxHeartbeats 32000000
namespace Go.Proofs.YtnpncpoiiikafaaGreat
open Go.RowKit
namespace LenW
theorem results_row2 {P:Program} {fn:Func} {p q:Tmp} {ty:TypeId} (h:fn.results = #[.cell p ty,.tmp q]) (tmps:Array Value) (w:World) (g:Nat) (t:TypeId) (cs:Array Value) (fr:Nat × Nat) (d:TypeDesc)
 (hp:tmps.getD p undef = .pointer (some ⟨g,0,none⟩)) (hg:w.heap[g]? = some (.cells cs t fr))
 (hu:P.underlying ty = some d) (hd:(match d with | .struct _ | .array _ _=>true | _=>false) = true) (hi:(P.info? ty).map (·.size) = some cs.size) :
 (results fn tmps).run P w = .ok (.tuple #[.agg cs,tmps.getD q undef]) w:=by
 have hp':tmps[p]?.getD undef = .pointer (some ⟨g,0,none⟩):=by simpa using hp
 simp [results,h,hp',asAddr,run_loadVar_row w g t ty cs fr d hg hu hd hi]
def wordV (l:List Int) (s:Int):(Int × Int) × Int:=if 0≤s∧s < l.length∧¬ (wordF l s.toNat).2 = 0 then (wordF l s.toNat,0) else ((0,0),70)
theorem fcells_at (l:List (Int × Int)) (k:Nat) (h:k < l.length):(fcells l).toArray[k * 2]? = some (.int .i64 l[k].1)∧(fcells l).toArray[k * 2 + 1]? = some (.int .i64 l[k].2):=by
 induction l generalizing k with
 | nil=>simp at h
 | cons p l ih =>
  cases k with
  | zero=>exact ⟨rfl,rfl⟩
  | succ k =>
   have:=ih k (by simpa using h)
   simp only [List.getElem?_toArray,show fcells (p :: l) = .int .i64 p.1 :: .int .i64 p.2 :: fcells l from rfl,show (k + 1) * 2 = k * 2 + 1 + 1 from by omega,show k * 2 + 1 + 1 + 1 = (k * 2 + 1) + 1 + 1 from rfl,List.getElem?_cons_succ,List.getElem_cons_succ] at this ⊢
   exact this
theorem word_any (l:List Int) (B g:Nat) (s:Int) (w:World) (hC:CodeAt w B g l) (hs:I64 s) (v:(Int × Int) × Int) (hv:wordV l s = v) :
 Calls Tryz.prog 158 #[.pointer (some ⟨g,0,none⟩),.int .i64 s] w fun e w'=>e = .returned (.tuple #[.agg #[.int .i64 v.1.1,.int .i64 v.1.2],.int .i64 v.2])∧Below w.heap.size w w':=by
 obtain ⟨gW,gS,h1,h2,h3,b1,b2,b3⟩:=hC
 have hgC:=b1.lt
 have hgW:=b2.lt
 have bR:=Blk.new w 228 #[.int .i64 0,.int .i64 0]
 have HB:Below w.heap.size w (w.alloc (.cells #[.int .i64 0,.int .i64 0] 228)):=(Below.refl _ w).alloc (Nat.le_refl _) _
 replace b1:=b1.alloc (.cells #[.int .i64 0,.int .i64 0] 228)
 replace b2:=b2.alloc (.cells #[.int .i64 0,.int .i64 0] 228)
 have k0:=b1.cell_ 0 (v:=.slice (some ⟨gW,0,none⟩) l.length l.length) rfl
 have k50:=b1.cell_ 50 (code_m (tab_len _) (tab_len _) (tab_len _))
 have hwl:(wordsF l).length = l.length:=by simp [wordsF]
 clear b1 b3
 by_cases h0:s < 0
 ·have:v = ((0,0),70):=by rw [← hv];unfold wordV;rw [if_neg (by omega)]
  subst this
  go_enter Tryz.func158,Tryz.ntmps158
  go_wp2_with fail
  refine bodyPost_ret (results_row2 rfl _ _ w.heap.size 228 #[.int .i64 0,.int .i64 0] (0,0) _ rfl bR Tryz.underlying228 rfl (by kernel_rfl)) rfl ?_
  exact ⟨rfl,HB⟩
 ·obtain ⟨k,rfl⟩:=Int.eq_ofNat_of_zero_le (show 0≤s by omega)
  by_cases hk:k < l.length
  ·obtain ⟨c0,c1⟩:=fcells_at (wordsF l) k (by omega)
   have d0:=b2.cell_ _ c0
   have d1:=b2.cell_ _ c1
   have hwk:(wordsF l)[k]'(by omega) = wordF l k:=by simp [wordsF]
   rw [hwk] at d0 d1
   have hkI:(k:Int) < (l.length:Int):=by omega
   have hk0:(0:Int)≤(k:Int):=by omega
   obtain ⟨⟨x,y⟩,hxy⟩:∃ z,wordF l k = z:=⟨_,rfl⟩
   rw [hxy] at d0 d1
   dsimp only at d0 d1
   by_cases hy:y = 0
   ·have:v = ((0,0),70):=by rw [← hv];unfold wordV;rw [Int.toNat_natCast,hxy,if_neg (by simp [hy])]
    subst this
    subst hy
    clear hv hxy hwk b2
    go_enter Tryz.func158,Tryz.ntmps158
    go_wp2_with fail
    refine bodyPost_ret (results_row2 rfl _ _ w.heap.size 228 #[.int .i64 0,.int .i64 0] (0,0) _ rfl bR Tryz.underlying228 rfl (by kernel_rfl)) rfl ?_
    exact ⟨rfl,HB⟩
   ·have:v = ((x,y),0):=by rw [← hv];unfold wordV;rw [Int.toNat_natCast,hxy,if_pos ⟨by omega,by omega,hy⟩]
    subst this
    have hyI:(y == 0) = false:=by simp [hy]
    have hyd:decide (y = 0) = false:=by simp [hy]
    have bR':=bR
    obtain ⟨r0,r1,f0,f1,_⟩:=blk2 bR'
    clear hv hxy hwk b2 bR'
    go_enter Tryz.func158,Tryz.ntmps158
    go_wp2_with fail
    refine bodyPost_ret (results_row2 rfl _ _ w.heap.size 228 #[.int .i64 x,.int .i64 y] (0,0) _ rfl (Blk.new _ _ _) Tryz.underlying228 rfl (by kernel_rfl)) rfl ?_
    exact ⟨rfl,(Below.refl _ w).alloc (Nat.le_refl _) _⟩
  ·have:v = ((0,0),70):=by rw [← hv];unfold wordV;rw [if_neg (by omega)]
   subst this
   have hkI:¬ (k:Int) < (l.length:Int):=by omega
   go_enter Tryz.func158,Tryz.ntmps158
   go_wp2_with fail
   refine bodyPost_ret (results_row2 rfl _ _ w.heap.size 228 #[.int .i64 0,.int .i64 0] (0,0) _ rfl bR Tryz.underlying228 rfl (by kernel_rfl)) rfl ?_
   exact ⟨rfl,HB⟩
end LenW
end Go.Proofs.YtnpncpoiiikafaaGreat
namespace Go.Proofs
open Go.Shelf
def Tryz.lays125_ren:Go.Shelf.Ren:=⟨fun | 125=>189 | 128=>201 | 129=>202 | n=>n,fun | 46=>209 | 3=>3 | 51=>190 | 53=>169 | 4=>4 | 5=>5 | 9=>9 | n=>n,fun | n=>n⟩
theorem Tryz.lays125:Go.Proofs.Lays.n125 Tryz.prog Tryz.lays125_ren:={
 mixed:=by kernel_rfl
 f125:=Tryz.func189.trans (congrArg some (by kernel_rfl))
 f128:=Tryz.func201.trans (congrArg some (by kernel_rfl))
 f129:=Tryz.func202.trans (congrArg some (by kernel_rfl))
 t3:=Tryz.underlying3
 a3:=Tryz.isAgg3
 z3:=Tryz.sizeOf3
 v3:=Tryz.zeroValue3
 t4:=Tryz.underlying4
 a4:=Tryz.isAgg4
 z4:=Tryz.sizeOf4
 v4:=Tryz.zeroValue4
 t5:=Tryz.underlying5
 a5:=Tryz.isAgg5
 z5:=Tryz.sizeOf5
 v5:=Tryz.zeroValue5
 t9:=Tryz.underlying9
 a9:=Tryz.isAgg9
 z9:=Tryz.sizeOf9
 v9:=Tryz.zeroValue9
 t46:=Tryz.underlying209
 a46:=Tryz.isAgg209
 z46:=Tryz.sizeOf209
 v46:=Tryz.zeroValue209
 t51:=Tryz.underlying190
 a51:=Tryz.isAgg190
 z51:=Tryz.sizeOf190
 v51:=Tryz.zeroValue190
 t53:=Tryz.underlying169
 a53:=Tryz.isAgg169
 z53:=Tryz.sizeOf169
 v53:=Tryz.zeroValue169 }
theorem Tryz.bits_Len (x:Int) (w:World) (h0:0≤x) (h1:x≤18446744073709551615) :
 Calls Tryz.prog 189 #[.int .u64 x] w fun e w'=>e = .returned (.int .i64 (Lib.bitLen x.toNat))∧w' = w:=Any.bits_Len Tryz.lays125 x w h0 h1
end Go.Proofs
