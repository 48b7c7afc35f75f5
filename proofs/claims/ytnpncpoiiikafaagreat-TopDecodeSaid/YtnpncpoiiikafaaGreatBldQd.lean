/- Bld -/
import Derived.Test.YtnpncpoiiikafaaGreatMemQd
import Derived.Lib.Builder
import Derived.Lib.AppendStr
import Derived.Lib.UnsafeStr
import Derived.Lib.MakeNoZero
import Derived.Lib.Strings
import Derived.Lib.Slices
import Derived.Lib.Walk
import Derived.Laws.Externs
import Derived.Laws.IdiomCopy
import Derived.Laws.BitsLemmas
import Derived.RegionTactic
import Derived.Test.YtnpncpoiiikafaaGreatZrXQd
import Derived.Test.YtnpncpoiiikafaaGreatAppQd
import Derived.WalkMore
import Derived.ScopeJumps
import Derived.Deep.LoopGhost
set_option linter.unusedVariables false
set_option linter.unusedSimpArgs false
set_option linter.unnecessarySimpa false
set_option maxRecDepth 100000
set_option maxHeartbeats 32000000
namespace Go.Proofs.YtnpncpoiiikafaaGreat
open Go.RowKit
namespace Bld
theorem sizeBuilder:∃ j,Tryz.prog.info? 112 = some j∧j.size = 2:=by
 have h:(Tryz.prog.info? 112).map (·.size) = some 2:=by kernel_rfl
 exact Option.map_eq_some_iff.1 h
theorem liesBuilder:liesAt Tryz.prog Tryz.prog.depth 112 (2 / Tryz.prog.cellsOf 112) 0 112 1 = true:=by kernel_rfl
theorem infoByte:(Tryz.prog.info? 5).map (fun i=>(i.zero,i.size,i.bytes)) = some (some (.int .u8 0),1,1):=by kernel_rfl
theorem copyCheck_used (b:Nat) (w:World) (h0:w.cell? ⟨b,0,none⟩ = some (.pointer (some ⟨b,0,none⟩))) :
 Calls Tryz.prog 116 #[.pointer (some ⟨b,0,none⟩)] w fun e w'=>e = .returned (.tuple #[])∧w' = w:=by
 obtain ⟨j,hj,_⟩:=sizeBuilder
 go_enter Tryz.func116,Tryz.ntmps116
 go_wp2_with fail
 rw [Lib.run_neq_ptr_same w _ Tryz.underlying110 hj]
 go_wp2_with fail
 go_end0
 exact ⟨rfl,rfl⟩
theorem copyCheck_fresh (b:Nat) (w:World) (h0:w.cell? ⟨b,0,none⟩ = some (.pointer none)) (hsh:w.shape? b = some (112,2)) (hfz:w.frozen? ⟨b,0,none⟩ = false) :
 Calls Tryz.prog 116 #[.pointer (some ⟨b,0,none⟩)] w fun e w'=>e = .returned (.tuple #[])∧w' = w.setCell ⟨b,0,none⟩ (.pointer (some ⟨b,0,none⟩)):=by
 obtain ⟨j,hj,hjs⟩:=sizeBuilder
 go_enter Tryz.func116,Tryz.ntmps116
 go_wp2_with fail
 rw [Lib.run_to_unsafe w ⟨b,0,none⟩ Tryz.underlying110 Tryz.underlying235 hj (by rw [hjs];decide) hsh (Nat.zero_lt_succ 1)]
 simp only [Result.andThen]
 rw [Oper.upon_value]
 go_wp2_with fail
 rw [run_callFunc_extern Tryz.func162 (by kernel_rfl) (by kernel_rfl) (by kernel_rfl) (e:=Extern.AbiNoEscape.same) (by kernel_rfl)]
 rw [Lib.run_noEscape]
 simp only [Result.andThen]
 rw [Oper.upon_value]
 go_wp2_with fail
 rw [Lib.run_from_unsafe w ⟨b,0,none⟩ Tryz.underlying235 Tryz.underlying110 hj hsh liesBuilder]
 simp only [Result.andThen]
 rw [Oper.upon_value]
 go_wp2_with fail
 go_end0
 exact ⟨rfl,rfl⟩
theorem copyCheck_any (B b:Nat) (bs:List Value) (w:World) (h:Lib.IsBuilder 112 5 B b bs w) :
 Calls Tryz.prog 116 #[.pointer (some ⟨b,0,none⟩)] w fun e w'=>e = .returned (.tuple #[])∧(Lib.BuilderAt 112 5 B b (.pointer (some ⟨b,0,none⟩)) bs w'∧Below B w w'):=by
 rcases h with h | h
 ·refine (copyCheck_fresh b w h.cell0 h.shape h.frozen0).mono ?_
  rintro e w' ⟨rfl,rfl⟩
  exact ⟨rfl,h.used _,(Below.refl B w).setCell (p:=⟨b,0,none⟩) h.1 _⟩
 ·refine (copyCheck_used b w h.cell0).mono ?_
  rintro e w' ⟨rfl,rfl⟩
  exact ⟨rfl,h,Below.refl B _⟩
def Bl (B b:Nat) (l:List UInt8) (w:World):Prop:=Lib.IsBuilder 112 5 B b (byts l) w
theorem Bl.fresh (w:World):Bl w.heap.size w.heap.size [] (w.alloc (.cells #[.pointer none,.slice none 0 0] 112)) :=
 .inl ⟨Nat.le_refl _,_,heap_alloc_new w _,World.ownsRow_nil _ _ _ _,by simp [Value.ownBlock]⟩
theorem Bl.lt {B b:Nat} {l:List UInt8} {w:World} (h:Bl B b l w):b < w.heap.size:=by rcases h with h | h <;> exact h.lt
theorem Bl.below {B b:Nat} {l:List UInt8} {w w':World} (h:Bl B b l w) (hb:Below w.heap.size w w'):Bl B b l w':=by
 have key:∀ p,Lib.BuilderAt 112 5 B b p (byts l) w → Lib.BuilderAt 112 5 B b p (byts l) w':=by
  intro p hp
  have hlt:=hp.lt
  obtain ⟨hB,v,hbk,hown,hne⟩:=hp
  exact ⟨hB,v,(hb.block b hlt).trans hbk,World.ownsRow.kept hown (grown_of_below hb) (by cases v.ownBlock <;> simp),hne⟩
 exact h.elim (fun x=>.inl (key _ x)) (fun x=>.inr (key _ x))
theorem len_any (B b:Nat) (l:List UInt8) (w:World) (h:Bl B b l w) :
 Calls Tryz.prog 110 #[.pointer (some ⟨b,0,none⟩)] w fun e w'=>e = .returned (.int .i64 l.length)∧w = w':=by
 obtain ⟨p,hB,v,hbk,hown,hne⟩:∃ p,Lib.BuilderAt 112 5 B b p (byts l) w:=by
  rcases h with h | h
  ·exact ⟨_,h⟩
  ·exact ⟨_,h⟩
 have hl:(byts l).length = l.length:=by simp [byts]
 rw [hl] at hown
 obtain ⟨ao,cap,rfl⟩:∃ ao cap,v = .slice ao l.length cap:=by
  rcases hown.2 with ⟨hv,h0⟩ | ⟨g,cap,cur,hv,_⟩
  ·exact ⟨none,0,by rw [hv,h0]⟩
  ·exact ⟨_,_,hv⟩
 have c1:w.cell? ⟨b,1,none⟩ = some (.slice ao l.length cap):=by rw [Lib.cell_of_heap hbk];rfl
 clear hl
 go_enter Tryz.func110,Tryz.ntmps110
 go_wp2_with fail
 go_ret
 exact ⟨rfl,rfl⟩
theorem write_any (B b:Nat) (l s:List UInt8) (w:World) (h:Bl B b l w) (hlen:l.length + s.length≤140737488355328) (hBw:B≤w.heap.size) :
 Calls Tryz.prog 57 #[.pointer (some ⟨b,0,none⟩),str s] w fun e w'=>e = .returned (.tuple #[.int .i64 s.length,.nilIface])∧Bl B b (l ++ s) w'∧Below B w w':=by
 obtain ⟨i0,hi,hz0,hz1,hz2⟩:=info_parts infoByte
 go_enter Tryz.func57,Tryz.ntmps57
 go_wp2_with fail
 refine (copyCheck_any B b (byts l) _ h).mono ?_
 rintro e w1 ⟨rfl,h1,hb1⟩
 obtain ⟨hB,v,hbk,hown,hne⟩:=h1
 have hl:(byts l).length = l.length:=by simp [byts]
 rw [hl] at hown
 have c0:w1.cell? ⟨b,0,none⟩ = some (.pointer (some ⟨b,0,none⟩)):=by rw [Lib.cell_of_heap hbk];rfl
 have c1:w1.cell? ⟨b,1,none⟩ = some v:=by rw [Lib.cell_of_heap hbk];rfl
 clear hl
 go_wp2_with (at_builtin;refine Lib.wpList_append_own_string _ rfl _ _ 99 9 rfl B 5 i0 Tryz.underlying99 Tryz.underlying9 hi hz0 hz1 hz2 _ _ _ rfl hown ⟨s.toArray⟩ rfl ?c3 ?c4 ?c5 ?_)
 case c3=>show l.length + s.toArray.size≤maxLen;unfold maxLen;simp;omega
 case c4=>show l.length + s.toArray.size≤_;simp;omega
 case c5=>have:=hb1.size;omega
 intro v' w2 hown' hgrow _
 have hlt:b < w1.heap.size:=by
  rcases Nat.lt_or_ge b w1.heap.size with h' | h'
  ·exact h'
  ·simp [Array.getElem?_eq_none h'] at hbk
 have hb2:w2.heap[b]? = some (.cells #[.pointer (some ⟨b,0,none⟩),v] 112 (0,0)):=by
  rw [hgrow.block b hlt (fun e=>hne e.symm)]
  exact hbk
 have d0:w2.cell? ⟨b,0,none⟩ = some (.pointer (some ⟨b,0,none⟩)):=by rw [Lib.cell_of_heap hb2];rfl
 have d1:w2.cell? ⟨b,1,none⟩ = some v:=by rw [Lib.cell_of_heap hb2];rfl
 have f1:w2.frozen? ⟨b,1,none⟩ = false:=Lib.frozen_of_heap hb2 1
 obtain ⟨ao,n',cap,rfl⟩:∃ ao n' cap,v' = .slice ao n' cap:=by
  rcases hown'.2 with ⟨hv,_⟩ | ⟨g,cap,cur,hv,_⟩
  ·exact ⟨_,_,_,hv⟩
  ·exact ⟨_,_,_,hv⟩
 have hss:byts l ++ Lib.strCells ⟨s.toArray⟩ = byts (l ++ s):=by simp [Lib.strCells,byts,byt]
 have hll:l.length + s.length = (byts (l ++ s)).length:=by simp [byts]
 rw [hss,hll] at hown'
 clear hss hll
 go_wp2_with fail
 go_ret2
 refine ⟨rfl,.inr ?_,?_⟩
 ·exact Lib.BuilderAt.put hB hb2 hown' (by decide)
 ·have hb3:Below B w w2:=Below.grown hb1 hgrow (by have:=hb1.size;omega) (fun k hk=>by
   rcases hown.2 with ⟨rfl,_⟩ | ⟨g,cap,cur,rfl,hg,_⟩
   ·cases hk
   ·simp [Value.ownBlock] at hk;omega)
  exact hb3.setCell (p:=⟨b,1,none⟩) hB _
theorem text_any (B b:Nat) (l:List UInt8) (w:World) (h:Bl B b l w) (h0:l ≠ []) :
 Calls Tryz.prog 58 #[.pointer (some ⟨b,0,none⟩)] w fun e w'=>e = .returned (str l)∧Below B w w':=by
 obtain ⟨p,hB,v,hbk,hown,hne⟩:∃ p,Lib.BuilderAt 112 5 B b p (Lib.byteCells l) w:=by
  rcases h with h | h
  ·exact ⟨_,h⟩
  ·exact ⟨_,h⟩
 have hl0:l.length ≠ 0:=by simpa using h0
 rw [Lib.byteCells_length] at hown
 obtain ⟨g,cap,cur,rfl,hbg,hg,hnc,hcm,hcs,htake⟩:∃ g cap cur,v = .slice (some ⟨g,0,none⟩) l.length cap∧B≤g∧w.heap[g]? = some (.cells cur 5 (0,0))∧l.length≤cap∧cap≤maxLen∧cur.size = cap * 1∧cur.toList.take (l.length * 1) = Lib.byteCells l:=by
  rcases hown.2 with ⟨_,hz⟩ | ⟨g,cap,cur,hv,r⟩
  ·exact absurd hz hl0
  ·exact ⟨g,cap,cur,hv,r⟩
 have c1:w.drew.cell? ⟨b,1,none⟩ = some (.slice (some ⟨g,0,none⟩) l.length cap):=by
  have:w.drew.heap[b]? = some (.cells #[p,.slice (some ⟨g,0,none⟩) l.length cap] 112 (0,0)):=hbk
  rw [Lib.cell_of_heap this];rfl
 have hSD:(Builtin.unsafeSliceData_ #[99] 182 #[.slice (some ⟨g,0,none⟩) l.length cap]).run Tryz.prog w.drew = .ok (.pointer (some ⟨g,0,none⟩)) w.drew :=
  Lib.run_unsafeSliceData_row _ _ _ _ _ _ (by omega)
 have hUS:(Builtin.unsafeString_ #[182,3] 9 #[.pointer (some ⟨g,0,none⟩),.int .i64 l.length]).run Tryz.prog w.drew = .ok (.string ⟨l.toArray⟩) (w.drew.freeze ⟨g,0,none⟩ l.length):=by
  refine Lib.run_unsafeString_row w.drew 182 3 9 5 Tryz.underlying182 (by kernel_rfl) g cur.size (by have hg':w.drew.heap[g]? = some (.cells cur 5 (0,0)):=hg;simp [World.shape?,hg']) l h0 (by omega) (by unfold maxLen at hcm;omega) ?_
  intro j x hx
  have:=hown.cells (g:=g) rfl j (.int .u8 x.toNat) (by simp [Lib.byteCells,hx])
  exact this
 clear hl0 htake hcs hnc hcm hown hbk h
 go_enter Tryz.func58,Tryz.ntmps58
 go_wp2_with fail
 go_region
 all_goals (go_wp2_with fail;go_ret;exact ⟨rfl,Lib.below_freeze (Below.drew (Below.refl B w)) (p:=⟨g,0,none⟩) hbg _⟩)
theorem text_nil (b:Nat) (B:Nat) (w:World) (hbk:w.heap[b]? = some (.cells #[.pointer none,.slice none 0 0] 112 (0,0))) :
 Calls Tryz.prog 58 #[.pointer (some ⟨b,0,none⟩)] w fun e w'=>e = .returned (str [])∧Below B w w':=by
 have hUS:∀ (q:Option Addr) (w:World),(Builtin.unsafeString_ #[182,3] 9 #[.pointer q,.int .i64 0]).run Tryz.prog w = .ok (.string ⟨#[]⟩) w:=fun q w=>by cases q <;> rfl
 have c1:w.drew.cell? ⟨b,1,none⟩ = some (.slice none 0 0):=by
  have:w.drew.heap[b]? = some (.cells #[.pointer none,.slice none 0 0] 112 (0,0)):=hbk
  rw [Lib.cell_of_heap this];rfl
 have hSD:(Builtin.unsafeSliceData_ #[99] 182 #[.slice none 0 0]).run Tryz.prog w.drew = .ok (.pointer none) w.drew:=rfl
 go_enter Tryz.func58,Tryz.ntmps58
 go_wp2_with fail
 go_region
 all_goals (go_wp2_with fail;go_ret;exact ⟨rfl,Below.drew (Below.refl B w)⟩)
end Bld
end Go.Proofs.YtnpncpoiiikafaaGreat
namespace Go.Proofs.YtnpncpoiiikafaaGreat
open Go.RowKit
namespace RecW
theorem results_row2 {P:Program} {fn:Func} {p u v:Tmp} {ty:TypeId} (h:fn.results = #[.cell p ty,.tmp u,.tmp v]) (tmps:Array Value) (w:World) (g:Nat) (t:TypeId) (cs:Array Value) (fr:Nat × Nat) (d:TypeDesc)
 (hp:tmps.getD p undef = .pointer (some ⟨g,0,none⟩)) (hg:w.heap[g]? = some (.cells cs t fr))
 (hu:P.underlying ty = some d) (hd:(match d with | .struct _ | .array _ _=>true | _=>false) = true) (hi:(P.info? ty).map (·.size) = some cs.size) :
 (results fn tmps).run P w = .ok (.tuple #[.agg cs,tmps.getD u undef,tmps.getD v undef]) w:=by
 have hp':tmps[p]?.getD undef = .pointer (some ⟨g,0,none⟩):=by simpa using hp
 simp [results,h,hp',asAddr,run_loadVar_row w g t ty cs fr d hg hu hd hi]
abbrev rtup (y:Rc × Int × Int):Value:=.tuple #[recv y.1,.int .i64 y.2.1,.int .i64 y.2.2]
theorem ext_cut (l:List UInt8) (p q:Nat):(⟨l.toArray⟩:ByteArray).extract p q = ⟨((l.drop p).take (q - p)).toArray⟩:=by
 apply ByteArray.ext
 simp
end RecW
end Go.Proofs.YtnpncpoiiikafaaGreat
namespace Go.Proofs.YtnpncpoiiikafaaGreat
open Go.RowKit
namespace RecW
def pre3 (a b c:Nat):Nat → List UInt8
 | 0=>[]
 | 1=>vbytes a
 | 2=>vbytes a ++ vbytes b
 | _=>vbytes a ++ vbytes b ++ vbytes c
def num3 (a b c:Nat):Nat → Nat
 | 0=>a
 | 1=>b
 | _=>c
theorem pre3_step (a b c k:Nat) (h:k < 3):pre3 a b c (k + 1) = pre3 a b c k ++ vbytes (num3 a b c k):=by
 have:k = 0 ∨ k = 1 ∨ k = 2:=by omega
 rcases this with rfl | rfl | rfl <;> simp [pre3,num3]
theorem pre3_len (a b c k:Nat):(pre3 a b c k).length≤27:=by
 have h1:=vlen_le a
 have h2:=vlen_le b
 have h3:=vlen_le c
 unfold pre3
 split <;> simp [vbytes_len] <;> omega
theorem putR_any (r:Rc) (w:World) :
 Calls Tryz.prog 109 #[recv r] w fun e w'=>e = .returned (.tuple #[str (putRN r),.int .i64 (chkR r)])∧Below w.heap.size w w':=by
 by_cases hok:okR r = true
 ·have hch:=chkR_yes hok
  have HP:Hid (putRN r = vbytes r.1.toNat ++ (vbytes r.2.1.toNat ++ (vbytes r.2.2.length ++ r.2.2))):=by unfold putRN;rw [if_pos hok];rfl
  obtain ⟨h1,h2,h3,h4,h5⟩:=(okR_iff r).1 hok
  obtain ⟨a,b,d⟩:=r
  dsimp only at h1 h2 h3 h4 h5
  obtain ⟨a,rfl⟩:=Int.eq_ofNat_of_zero_le (show 0≤a by omega)
  obtain ⟨b,rfl⟩:=Int.eq_ofNat_of_zero_le h3
  have HC:=Lib.hid hch
  clear hch hok
  rw [HC.out]
  have i0:∀ w,(Instr.index 231 (.agg #[.int .i64 a,.int .i64 b,.int .i64 d.length]) (.int .i64 0)).run Tryz.prog w = .ok (.int .i64 a) w:=fun _=>by kernel_rfl
  have i1:∀ w,(Instr.index 231 (.agg #[.int .i64 a,.int .i64 b,.int .i64 d.length]) (.int .i64 1)).run Tryz.prog w = .ok (.int .i64 b) w:=fun _=>by kernel_rfl
  have i2:∀ w,(Instr.index 231 (.agg #[.int .i64 a,.int .i64 b,.int .i64 d.length]) (.int .i64 2)).run Tryz.prog w = .ok (.int .i64 d.length) w:=fun _=>by kernel_rfl
  go_enter Tryz.func109,Tryz.ntmps109
  go_wp2_with fail
  refine (check_any ((a:Int),(b:Int),d) 0 HC.out _).mono ?_
  rintro e w1 ⟨rfl,hb1⟩
  have HB:Below w.heap.size w w1:=(Below.trans (by first | exact Below.refl _ _ | (repeat (first | exact Below.refl _ _ | assumption | refine Below.drew ?_ | refine Below.drewN_ ?_ _ | refine Below.alloc ?_ (by first | exact Nat.le_refl _ | (simp;done) | (simp;omega) | omega) _ | refine Below.setCell ?_ (by first | exact Nat.le_refl _ | (simp;done) | (simp;omega) | omega) _ | (refine Below.trans ?_ (Below.mono (by assumption) (by first | exact Nat.le_refl _ | (simp;done) | (simp;omega) | omega)))))) (Below.mono hb1 (by first | exact Nat.le_refl _ | (simp only [World.size_alloc,World.size_setCell,World.size_drew];omega) | (simp;done) | (simp;omega) | omega)))
  have g1:Blk w1 w.heap.size 98 #[.int .i64 a,.int .i64 b,str d]:=Blk.below (by repeat (first | with_reducible assumption | exact Blk.new _ _ _ | (simpa using Blk.new _ _ _) | with_reducible apply Blk.drewN | with_reducible apply Blk.drew | with_reducible apply Blk.alloc)) hb1 (by first | exact Nat.le_refl _ | (simp only [World.size_alloc,World.size_setCell,World.size_drew];omega) | (simp;done) | (simp;omega) | omega)
  have g1':=g1
  obtain ⟨c0,c1,c2,f0,f1,f2,z0⟩:=blk3 g1'
  clear hb1 g1'
  go_wp2_with fail
  have hBl:=Bld.Bl.fresh w1
  have g2:=g1.alloc (.cells #[.pointer none,.slice none 0 0] 112)
  have HB2:=HB.alloc HB.size (.cells #[.pointer none,.slice none 0 0] 112)
  have zb:w.heap.size≤w1.heap.size:=HB.size
  obtain ⟨bb,hbb⟩:∃ bb,w1.heap.size = bb:=⟨_,rfl⟩
  rw [hbb] at hBl zb
  rw [hbb]
  have hz2:w1.heap.size + 1≤(w1.alloc (.cells #[.pointer none,.slice none 0 0] 112)).heap.size:=by simp
  generalize w1.alloc (.cells #[.pointer none,.slice none 0 0] 112) = w2 at *
  rw [hbb] at hz2
  have z0':w.heap.size < bb:=by omega
  clear c0 c1 c2 f0 f1 f2 g1 HB hbb
  go_loopw [23] (fun i wr=>∃ k:Nat,i = .int .i64 k∧k≤3∧Bld.Bl bb bb (pre3 a b d.length k) wr∧Blk wr w.heap.size 98 #[.int .i64 a,.int .i64 b,str d]∧Below w.heap.size w wr∧bb < wr.heap.size) (fun i _=>3 - (intOf i).toNat)
  case atStart=>exact ⟨0,rfl,by omega,hBl,g2,HB2,by omega⟩
  case round =>
   obtain ⟨k,rfl,hk,hBk,g3,hbw,hlt⟩:=hrel
   have hsz:=hbw.size
   have hpl:=pre3_len a b d.length k
   by_cases hk3:k < 3
   ·have hstep:=pre3_step a b d.length k hk3
    obtain ⟨x,hx⟩:∃ x,num3 a b d.length k = x:=⟨_,rfl⟩
    rw [hx] at hstep
    have hi:(Instr.index 231 (.agg #[.int .i64 a,.int .i64 b,.int .i64 d.length]) (.int .i64 k)).run Tryz.prog wr = .ok (.int .i64 x) wr:=by
     have:k = 0 ∨ k = 1 ∨ k = 2:=by omega
     rcases this with rfl | rfl | rfl
     ·rw [← hx];exact i0 _
     ·rw [← hx];exact i1 _
     ·rw [← hx];exact i2 _
    have hx2:x≤1000000000:=by
     have:k = 0 ∨ k = 1 ∨ k = 2:=by omega
     rcases this with rfl | rfl | rfl <;> (rw [← hx];simp only [num3];omega)
    have HS:=Lib.hid hstep
    have hv:=vlen_le x
    generalize pre3 a b d.length k = pk at *
    clear hstep hx i0 i1 i2
    go_wp2_with fail
    clear hi
    refine (VarW.put_yes x _ (by omega)).mono ?_
    rintro e w3 ⟨rfl,hb3⟩
    have hb4:=hbw.trans (hb3.mono hbw.size)
    have hB3:=hBk.below hb3
    have g4:=g3.below hb3 g3.lt
    have z3:=hb3.size
    clear hb3 hBk g3 hbw
    go_wp2_with fail
    refine (Bld.write_any bb bb pk (vbytes x) w3 hB3 (by rw [vbytes_len];omega) (by omega)).mono ?_
    rintro e w5 ⟨rfl,hB5,hb5⟩
    go_wp2_with fail
    go_roundw
    case rel=>exact ⟨k + 1,by go_num,by omega,by rw [HS.out];exact hB5,g4.below hb5 (by omega),hb4.trans (hb5.mono zb),hB5.lt⟩
    case measure=>simp [intOf];omega
   ·obtain rfl:k = 3:=by omega
    clear i0 i1 i2
    obtain ⟨c0,c1,c2,f0,f1,f2,z0⟩:=blk3 g3
    go_wp2_with fail
    refine (Bld.write_any bb bb (pre3 a b d.length 3) d wr hBk (by omega) (by omega)).mono ?_
    rintro e w5 ⟨rfl,hB5,hb5⟩
    have hne:pre3 a b d.length 3 ++ d ≠ []:=by
     have:=vlen_pos a
     rw [← vbytes_len] at this
     have h2:1≤(pre3 a b d.length 3 ++ d).length:=by simp only [pre3,List.length_append];omega
     intro e
     rw [e] at h2
     simp at h2
    go_wp2_with fail
    refine (Bld.text_any bb bb _ w5 hB5 hne).mono ?_
    rintro e w6 ⟨rfl,hb6⟩
    go_wp2_with fail
    go_ret2
    refine ⟨?_,(hbw.trans (hb5.mono zb)).trans (hb6.mono zb)⟩
    rw [HP.out]
    simp [pre3]
 ·have hn:okR r = false:=by simpa using hok
  have HC:=Lib.hid (chkR_no hn)
  have HP:=Lib.hid (show putRN r = [] by unfold putRN;rw [if_neg hok])
  clear hok hn
  rw [HC.out,HP.out]
  go_enter Tryz.func109,Tryz.ntmps109
  go_wp2_with fail
  refine (check_any r 150 HC.out _).mono ?_
  rintro e w1 ⟨rfl,hb1⟩
  go_wp2_with fail
  go_ret2
  exact ⟨rfl,(Below.trans (by first | exact Below.refl _ _ | (repeat (first | exact Below.refl _ _ | assumption | refine Below.drew ?_ | refine Below.drewN_ ?_ _ | refine Below.alloc ?_ (by first | exact Nat.le_refl _ | (simp;done) | (simp;omega) | omega) _ | refine Below.setCell ?_ (by first | exact Nat.le_refl _ | (simp;done) | (simp;omega) | omega) _ | (refine Below.trans ?_ (Below.mono (by assumption) (by first | exact Nat.le_refl _ | (simp;done) | (simp;omega) | omega)))))) (Below.mono hb1 (by first | exact Nat.le_refl _ | (simp only [World.size_alloc,World.size_setCell,World.size_drew];omega) | (simp;done) | (simp;omega) | omega)))⟩
end RecW
end Go.Proofs.YtnpncpoiiikafaaGreat
namespace Go.Proofs.YtnpncpoiiikafaaGreat
open Go.RowKit
namespace RecW
theorem getR_any (s:List UInt8) (a:Int) (w:World) (hs:s.length≤1000000) (v:Rc × Int × Int) (hv:getR s a = v) :
 Calls Tryz.prog 107 #[str s,.int .i64 a] w fun e w'=>e = .returned (rtup v)∧Below w.heap.size w w':=by
 obtain ⟨x,hx⟩:∃ x,getV s a = x:=⟨_,rfl⟩
 obtain ⟨y,hy⟩:∃ y,getV s x.2.1 = y:=⟨_,rfl⟩
 obtain ⟨u,hu⟩:∃ u,getV s y.2.1 = u:=⟨_,rfl⟩
 have C1:=fun w=>VarW.get_any s a w (by omega) x hx
 have C2:=fun w=>VarW.get_any s x.2.1 w (by omega) y hy
 have C3:=fun w=>VarW.get_any s y.2.1 w (by omega) u hu
 go_enter Tryz.func107,Tryz.ntmps107
 go_wp2_with fail
 have gR:Blk ((w.alloc (.cells #[.int .i64 0,.int .i64 0,.string ⟨#[]⟩] 98)).alloc (.cells #[.int .i64 0,.int .i64 0,.int .i64 0] 231)) w.heap.size 98 #[.int .i64 0,.int .i64 0,str []]:=(Blk.new _ _ _).alloc _
 have gA:Blk ((w.alloc (.cells #[.int .i64 0,.int .i64 0,.string ⟨#[]⟩] 98)).alloc (.cells #[.int .i64 0,.int .i64 0,.int .i64 0] 231)) (w.heap.size + 1) 231 #[.int .i64 0,.int .i64 0,.int .i64 0]:=by
  have:=Blk.new (w.alloc (.cells #[.int .i64 0,.int .i64 0,.string ⟨#[]⟩] 98)) 231 #[.int .i64 0,.int .i64 0,.int .i64 0]
  rwa [World.size_alloc] at this
 have HB:Below w.heap.size w ((w.alloc (.cells #[.int .i64 0,.int .i64 0,.string ⟨#[]⟩] 98)).alloc (.cells #[.int .i64 0,.int .i64 0,.int .i64 0] 231)):=(by first | exact Below.refl _ _ | (repeat (first | exact Below.refl _ _ | assumption | refine Below.drew ?_ | refine Below.drewN_ ?_ _ | refine Below.alloc ?_ (by first | exact Nat.le_refl _ | (simp;done) | (simp;omega) | omega) _ | refine Below.setCell ?_ (by first | exact Nat.le_refl _ | (simp;done) | (simp;omega) | omega) _ | (refine Below.trans ?_ (Below.mono (by assumption) (by first | exact Nat.le_refl _ | (simp;done) | (simp;omega) | omega))))))
 go_step3
 go_wp2_with fail
 go_step3
 go_wp2_with fail
 go_loopw [1,6,9] (fun at_ e i wr=>∃ k:Nat,((k = 0∧at_ = .int .i64 a∧Blk wr (w.heap.size + 1) 231 #[.int .i64 0,.int .i64 0,.int .i64 0]) ∨ (k = 1∧x.2.2 = 0∧at_ = .int .i64 x.2.1∧Blk wr (w.heap.size + 1) 231 #[.int .i64 x.1,.int .i64 0,.int .i64 0]) ∨
  (k = 2∧x.2.2 = 0∧y.2.2 = 0∧at_ = .int .i64 y.2.1∧Blk wr (w.heap.size + 1) 231 #[.int .i64 x.1,.int .i64 y.1,.int .i64 0]) ∨ (k = 3∧x.2.2 = 0∧y.2.2 = 0∧u.2.2 = 0∧at_ = .int .i64 u.2.1∧Blk wr (w.heap.size + 1) 231 #[.int .i64 x.1,.int .i64 y.1,.int .i64 u.1])) ∧
  i = .int .i64 k∧Blk wr w.heap.size 98 #[.int .i64 0,.int .i64 0,str []]∧Below w.heap.size w wr) (fun _ _ i _=>3 - (intOf i).toNat)
 case atStart=>exact ⟨0,.inl ⟨rfl,rfl,gA⟩,rfl,gR,HB⟩
 case round =>
  clear gR gA HB
  obtain ⟨k,hk,rfl,gR,hbw⟩:=hrel
  have HX:=Lib.hid hx
  have HY:=Lib.hid hy
  have HU:=Lib.hid hu
  have HV:=Lib.hid hv
  clear hx hy hu hv
  rcases hk with ⟨rfl,rfl,gA⟩ | ⟨rfl,h1,rfl,gA⟩ | ⟨rfl,h1,h2,rfl,gA⟩ | ⟨rfl,h1,h2,h3,rfl,gA⟩
  ·have C:=C1 wr
   by_cases h1:x.2.2 = 0
   ·have hS:=Lib.hid h1
    go_wp2_with fail
    refine C.mono ?_
    rintro e w1 ⟨rfl,rfl⟩
    obtain ⟨c0,c1,c2,f0,f1,f2,z0⟩:=blk3 gA
    go_wp2_with fail
    go_roundw
    case rel =>
     replace gA:=gA.set 0 (.int .i64 x.1)
     replace gR:=gR.far (p:=⟨w.heap.size + 1,0,none⟩) (by show w.heap.size ≠ w.heap.size + 1;omega) (.int .i64 x.1)
     replace hbw:=hbw.setCell (p:=⟨w.heap.size + 1,0,none⟩) (by show w.heap.size≤w.heap.size + 1;omega) (.int .i64 x.1)
     exact ⟨1,.inr (.inl ⟨rfl,hS.out,rfl,gA⟩),rfl,gR,hbw⟩
    case measure=>simp [intOf]
   ·have hI:(x.2.2 == 0) = false:=by simpa using h1
    have HVV:=Lib.hid (HV.out.symm.trans (getR_1 HX.out h1))
    clear h1
    go_wp2_with fail
    refine C.mono ?_
    rintro e w1 ⟨rfl,rfl⟩
    have gA':=gA
    obtain ⟨c0,c1,c2,f0,f1,f2,z0⟩:=blk3 gA'
    clear gA'
    obtain ⟨d0,d1,d2,e0,e1,e2,z1⟩:=blk3 gR
    go_wp2_with fail
    try rw [Exit.noGoto_ret]
    refine bodyPost_ret (results_row2 rfl _ _ w.heap.size 98 #[.int .i64 0,.int .i64 0,str []] (0,0) _ rfl ((((gR.far (p:=⟨w.heap.size + 1,0,none⟩) (by show w.heap.size ≠ w.heap.size + 1;omega) (.int .i64 x.1)).set 0 (.int .i64 0)).set 1 (.int .i64 0)).set 2 (str [])) Tryz.underlying98 rfl (by kernel_rfl)) rfl ?_
    refine ⟨by rw [HVV.out];rfl,?_⟩
    exact (((hbw.setCell (p:=⟨w.heap.size + 1,0,none⟩) (by show w.heap.size≤w.heap.size + 1;omega) _).setCell (p:=⟨w.heap.size,0,none⟩) (Nat.le_refl _) _).setCell (p:=⟨w.heap.size,1,none⟩) (Nat.le_refl _) _).setCell (p:=⟨w.heap.size,2,none⟩) (Nat.le_refl _) _
  ·have C:=C2 wr
   by_cases h2:y.2.2 = 0
   ·have hS:=Lib.hid h2
    go_wp2_with fail
    refine C.mono ?_
    rintro e w1 ⟨rfl,rfl⟩
    obtain ⟨c0,c1,c2,f0,f1,f2,z0⟩:=blk3 gA
    go_wp2_with fail
    go_roundw
    case rel =>
     replace gA:=gA.set 1 (.int .i64 y.1)
     replace gR:=gR.far (p:=⟨w.heap.size + 1,1,none⟩) (by show w.heap.size ≠ w.heap.size + 1;omega) (.int .i64 y.1)
     replace hbw:=hbw.setCell (p:=⟨w.heap.size + 1,1,none⟩) (by show w.heap.size≤w.heap.size + 1;omega) (.int .i64 y.1)
     exact ⟨2,.inr (.inr (.inl ⟨rfl,h1,hS.out,rfl,gA⟩)),rfl,gR,hbw⟩
    case measure=>simp [intOf]
   ·have hI:(y.2.2 == 0) = false:=by simpa using h2
    have HVV:=Lib.hid (HV.out.symm.trans (getR_2 HX.out h1 HY.out h2))
    clear h2
    go_wp2_with fail
    refine C.mono ?_
    rintro e w1 ⟨rfl,rfl⟩
    have gA':=gA
    obtain ⟨c0,c1,c2,f0,f1,f2,z0⟩:=blk3 gA'
    clear gA'
    obtain ⟨d0,d1,d2,e0,e1,e2,z1⟩:=blk3 gR
    go_wp2_with fail
    try rw [Exit.noGoto_ret]
    refine bodyPost_ret (results_row2 rfl _ _ w.heap.size 98 #[.int .i64 0,.int .i64 0,str []] (0,0) _ rfl ((((gR.far (p:=⟨w.heap.size + 1,1,none⟩) (by show w.heap.size ≠ w.heap.size + 1;omega) (.int .i64 y.1)).set 0 (.int .i64 0)).set 1 (.int .i64 0)).set 2 (str [])) Tryz.underlying98 rfl (by kernel_rfl)) rfl ?_
    refine ⟨by rw [HVV.out];rfl,?_⟩
    exact (((hbw.setCell (p:=⟨w.heap.size + 1,1,none⟩) (by show w.heap.size≤w.heap.size + 1;omega) _).setCell (p:=⟨w.heap.size,0,none⟩) (Nat.le_refl _) _).setCell (p:=⟨w.heap.size,1,none⟩) (Nat.le_refl _) _).setCell (p:=⟨w.heap.size,2,none⟩) (Nat.le_refl _) _
  ·have C:=C3 wr
   by_cases h3:u.2.2 = 0
   ·have hS:=Lib.hid h3
    go_wp2_with fail
    refine C.mono ?_
    rintro e w1 ⟨rfl,rfl⟩
    obtain ⟨c0,c1,c2,f0,f1,f2,z0⟩:=blk3 gA
    go_wp2_with fail
    go_roundw
    case rel =>
     replace gA:=gA.set 2 (.int .i64 u.1)
     replace gR:=gR.far (p:=⟨w.heap.size + 1,2,none⟩) (by show w.heap.size ≠ w.heap.size + 1;omega) (.int .i64 u.1)
     replace hbw:=hbw.setCell (p:=⟨w.heap.size + 1,2,none⟩) (by show w.heap.size≤w.heap.size + 1;omega) (.int .i64 u.1)
     exact ⟨3,.inr (.inr (.inr ⟨rfl,h1,h2,hS.out,rfl,gA⟩)),rfl,gR,hbw⟩
    case measure=>simp [intOf]
   ·have hI:(u.2.2 == 0) = false:=by simpa using h3
    have HVV:=Lib.hid (HV.out.symm.trans (getR_3 HX.out h1 HY.out h2 HU.out h3))
    clear h3
    go_wp2_with fail
    refine C.mono ?_
    rintro e w1 ⟨rfl,rfl⟩
    have gA':=gA
    obtain ⟨c0,c1,c2,f0,f1,f2,z0⟩:=blk3 gA'
    clear gA'
    obtain ⟨d0,d1,d2,e0,e1,e2,z1⟩:=blk3 gR
    go_wp2_with fail
    try rw [Exit.noGoto_ret]
    refine bodyPost_ret (results_row2 rfl _ _ w.heap.size 98 #[.int .i64 0,.int .i64 0,str []] (0,0) _ rfl ((((gR.far (p:=⟨w.heap.size + 1,2,none⟩) (by show w.heap.size ≠ w.heap.size + 1;omega) (.int .i64 u.1)).set 0 (.int .i64 0)).set 1 (.int .i64 0)).set 2 (str [])) Tryz.underlying98 rfl (by kernel_rfl)) rfl ?_
    refine ⟨by rw [HVV.out];rfl,?_⟩
    exact (((hbw.setCell (p:=⟨w.heap.size + 1,2,none⟩) (by show w.heap.size≤w.heap.size + 1;omega) _).setCell (p:=⟨w.heap.size,0,none⟩) (Nat.le_refl _) _).setCell (p:=⟨w.heap.size,1,none⟩) (Nat.le_refl _) _).setCell (p:=⟨w.heap.size,2,none⟩) (Nat.le_refl _) _
  ·have k3:=getV_ok (s:=s) (a:=y.2.1) (by rw [HU.out];exact h3)
   have k1:=getV_ok (s:=s) (a:=a) (by rw [HX.out];exact h1)
   have k2:=getV_ok (s:=s) (a:=x.2.1) (by rw [HY.out];exact h2)
   rw [HU.out] at k3
   rw [HX.out] at k1
   rw [HY.out] at k2
   have gA':=gA
   obtain ⟨c0,c1,c2,_,_,_,z0⟩:=blk3 gA'
   clear gA'
   obtain ⟨d0,d1,d2,e0,e1,e2,z1⟩:=blk3 gR
   by_cases h4:x.1 < 1 ∨ 1000000000 < x.1 ∨ 1000000000 < y.1 ∨ 2000 < u.1
   ·have HVV:=Lib.hid (HV.out.symm.trans (getR_4 HX.out h1 HY.out h2 HU.out h3 h4))
    have h4':x.1 < 1 ∨ (¬ x.1 < 1∧1000000000 < x.1) ∨ (¬ x.1 < 1∧¬ 1000000000 < x.1∧1000000000 < y.1) ∨ (¬ x.1 < 1∧¬ 1000000000 < x.1∧¬ 1000000000 < y.1∧2000 < u.1):=by omega
    clear h1 h2 h3 h4 k1 k2 k3 C1 C2 C3
    rcases h4' with h4 | ⟨h4,h5⟩ | ⟨h4,h5,h6⟩ | ⟨h4,h5,h6,h7⟩
    all_goals
     go_wp2_with fail
     try rw [Exit.noGoto_ret]
     refine bodyPost_ret (results_row2 rfl _ _ w.heap.size 98 #[.int .i64 0,.int .i64 0,str []] (0,0) _ rfl (((gR.set 0 (.int .i64 0)).set 1 (.int .i64 0)).set 2 (str [])) Tryz.underlying98 rfl (by kernel_rfl)) rfl ?_
     refine ⟨by rw [HVV.out];rfl,?_⟩
     exact ((hbw.setCell (p:=⟨w.heap.size,0,none⟩) (Nat.le_refl _) _).setCell (p:=⟨w.heap.size,1,none⟩) (Nat.le_refl _) _).setCell (p:=⟨w.heap.size,2,none⟩) (Nat.le_refl _) _
   ·have g1:¬ x.1 < 1:=by omega
    have g2:¬ 1000000000 < x.1:=by omega
    have g3:¬ 1000000000 < y.1:=by omega
    have g4:¬ 2000 < u.1:=by omega
    have hsub:IntKind.i64.wrap ((s.length:Int) - u.2.1) = (s.length:Int) - u.2.1:=IntWalk.i64_in _ (by omega)
    by_cases h5:(s.length:Int) < u.2.1 + u.1
    ·have HVV:=Lib.hid (HV.out.symm.trans (getR_5 HX.out h1 HY.out h2 HU.out h3 h4 h5))
     have h6:(s.length:Int) - u.2.1 < u.1:=by omega
     obtain ⟨k31,k32,k33,k34,k35⟩:=k3
     clear h1 h2 h3 h4 k1 k2 C1 C2 C3
     go_wp2_with fail
     try rw [Exit.noGoto_ret]
     refine bodyPost_ret (results_row2 rfl _ _ w.heap.size 98 #[.int .i64 0,.int .i64 0,str []] (0,0) _ rfl (((gR.set 0 (.int .i64 0)).set 1 (.int .i64 0)).set 2 (str [])) Tryz.underlying98 rfl (by kernel_rfl)) rfl ?_
     refine ⟨by rw [HVV.out];rfl,?_⟩
     exact ((hbw.setCell (p:=⟨w.heap.size,0,none⟩) (Nat.le_refl _) _).setCell (p:=⟨w.heap.size,1,none⟩) (Nat.le_refl _) _).setCell (p:=⟨w.heap.size,2,none⟩) (Nat.le_refl _) _
    ·have HVV:=Lib.hid (HV.out.symm.trans (getR_6 HX.out h1 HY.out h2 HU.out h3 h4 h5))
     have h6:¬ (s.length:Int) - u.2.1 < u.1:=by omega
     obtain ⟨k31,k32,k33,k34,k35⟩:=k3
     clear HX HY HU HV h1 h2 h3 h4 k1 k2 C1 C2 C3
     obtain ⟨x0,x1,x2⟩:=x;obtain ⟨y0,y1,y2⟩:=y;obtain ⟨u0,u1,u2⟩:=u
     dsimp only at *
     obtain ⟨u0,rfl⟩:=Int.eq_ofNat_of_zero_le k34
     obtain ⟨u1,rfl⟩:=Int.eq_ofNat_of_zero_le (show 0≤u1 by omega)
     have hw:IntKind.i64.wrap ((u1:Int) + (u0:Int)) = (u1:Int) + (u0:Int):=IntWalk.i64_in _ (by omega)
     have HXT:=Lib.hid (ext_cut s u1 (u1 + u0))
     have hp1:(u1:Int)≤(u1:Int) + (u0:Int):=by omega
     have hp2:(u1:Int) + (u0:Int)≤(s.length:Int):=by omega
     go_wp2_with fail
     go_region
     all_goals
      go_wp2_with fail
      try rw [Exit.noGoto_ret]
      refine bodyPost_ret (results_row2 rfl _ _ w.heap.size 98 #[.int .i64 x0,.int .i64 y0,.string ((⟨s.toArray⟩:ByteArray).extract u1 (u1 + u0))] (0,0) _ rfl ((((gR.set 0 (.int .i64 x0)).set 1 (.int .i64 y0)).set 2 (.string ((⟨s.toArray⟩:ByteArray).extract u1 (u1 + u0)))).drew) Tryz.underlying98 rfl (by kernel_rfl)) rfl ?_
      refine ⟨?_,?_⟩
      ·rw [HVV.out,HXT.out,show u1 + u0 - u1 = u0 from by omega]
       simp [rtup,recv]
      ·exact (((hbw.setCell (p:=⟨w.heap.size,0,none⟩) (Nat.le_refl _) _).setCell (p:=⟨w.heap.size,1,none⟩) (Nat.le_refl _) _).setCell (p:=⟨w.heap.size,2,none⟩) (Nat.le_refl _) _).drew
end RecW
end Go.Proofs.YtnpncpoiiikafaaGreat
