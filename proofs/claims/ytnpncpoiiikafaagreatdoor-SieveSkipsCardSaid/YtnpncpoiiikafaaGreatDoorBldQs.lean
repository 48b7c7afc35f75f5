/- Bld -/
import Derived.Test.YtnpncpoiiikafaaGreatDoorMemQs
import Derived.Lib.Builder
import Derived.Lib.AppendStr
import Derived.Lib.UnsafeStr
import Derived.Lib.MakeNoZero
import Derived.Lib.Strings
import Derived.Lib.Slices
import Derived.Lib.Walk
import Derived.Laws.Externs
import Derived.Laws.IdiomCopy
import Derived.Laws.BitsLemmas
import Derived.RegionTactic
import Derived.Shelf.Strings.Builder1
import Derived.Shelf.Strings.Builder2
import Derived.Shelf.Strings.OnBuilder
import Derived.Shelf.Small.Bits
import Derived.Shelf.Small.Wraps
import Derived.Shelf.Strings.BuilderF
import Derived.Shelf.Strings.BuilderK
import Derived.Shelf.Strings.Builder2Cap
import Derived.Shelf.Strconv.Itoa0
import Derived.Shelf.Strconv.Itoa1
import Derived.Shelf.LaysM
import Derived.Shelf.Strconv.Itoa2
import Derived.Shelf.Strconv.Itoa3
import Derived.Shelf.Strings.Search1
import Derived.Shelf.Strings.Search2
import Derived.Shelf.Strings.Cut
import Derived.Shelf.Strings.Shaped
import Derived.Shelf.Strings.BuilderCap
import Derived.Ground.Names2Prog
import Derived.Shelf.Slices.SearchI
import Derived.Test.YtnpncpoiiikafaaGreatDoorProg
set_option linter.unusedVariables false
set_option linter.unusedSimpArgs false
set_option linter.unnecessarySimpa false
namespace Go.Proofs.YtnpncpoiiikafaaGreatDoor
open Go.RowKit
namespace Bld
theorem sizeBuilder:∃ j,Tryz.prog.info? 78 = some j∧j.size = 2:=by
  have h:(Tryz.prog.info? 78).map (·.size) = some 2:=by kernel_rfl
  exact Option.map_eq_some_iff.1 h
theorem liesBuilder:liesAt Tryz.prog Tryz.prog.depth 78 (2 / Tryz.prog.cellsOf 78) 0 78 1 = true:=by kernel_rfl
theorem infoByte:(Tryz.prog.info? 5).map (fun i=>(i.zero,i.size,i.bytes)) = some (some (.int .u8 0),1,1):=by kernel_rfl
set_option maxHeartbeats 1000000 in
set_option maxRecDepth 100000 in
theorem copyCheck_used (b:Nat) (w:World) (h0:w.cell? ⟨b,0,none⟩ = some (.pointer (some ⟨b,0,none⟩))) :
    Calls Tryz.prog 54 #[.pointer (some ⟨b,0,none⟩)] w fun e w'=>e = .returned (.tuple #[])∧w' = w:=by
  obtain ⟨j,hj,_⟩:=sizeBuilder
  go_enter Tryz.func54,Tryz.ntmps54
  go_wp2_with fail
  rw [Lib.run_neq_ptr_same w _ Tryz.underlying76 hj]
  go_wp2_with fail
  go_end0
  exact ⟨rfl,rfl⟩
set_option maxHeartbeats 1000000 in
set_option maxRecDepth 100000 in
theorem copyCheck_fresh (b:Nat) (w:World) (h0:w.cell? ⟨b,0,none⟩ = some (.pointer none)) (hsh:w.shape? b = some (78,2)) (hfz:w.frozen? ⟨b,0,none⟩ = false) :
    Calls Tryz.prog 54 #[.pointer (some ⟨b,0,none⟩)] w fun e w'=>e = .returned (.tuple #[])∧w' = w.setCell ⟨b,0,none⟩ (.pointer (some ⟨b,0,none⟩)):=by
  obtain ⟨j,hj,hjs⟩:=sizeBuilder
  go_enter Tryz.func54,Tryz.ntmps54
  go_wp2_with fail
  rw [Lib.run_to_unsafe w ⟨b,0,none⟩ Tryz.underlying76 Tryz.underlying144 hj (by rw [hjs];decide) hsh (Nat.zero_lt_succ 1)]
  simp only [Result.andThen]
  rw [Oper.upon_value]
  go_wp2_with fail
  rw [run_callFunc_extern Tryz.func79 (by kernel_rfl) (by kernel_rfl) (by kernel_rfl) (e:=Extern.AbiNoEscape.same) (by kernel_rfl)]
  rw [Lib.run_noEscape]
  simp only [Result.andThen]
  rw [Oper.upon_value]
  go_wp2_with fail
  rw [Lib.run_from_unsafe w ⟨b,0,none⟩ Tryz.underlying144 Tryz.underlying76 hj hsh liesBuilder]
  simp only [Result.andThen]
  rw [Oper.upon_value]
  go_wp2_with fail
  go_end0
  exact ⟨rfl,rfl⟩
theorem copyCheck_any (B b:Nat) (bs:List Value) (w:World) (h:Lib.IsBuilder 78 5 B b bs w) :
    Calls Tryz.prog 54 #[.pointer (some ⟨b,0,none⟩)] w fun e w'=>e = .returned (.tuple #[])∧(Lib.BuilderAt 78 5 B b (.pointer (some ⟨b,0,none⟩)) bs w'∧Below B w w'):=by
  rcases h with h | h
  · refine (copyCheck_fresh b w h.cell0 h.shape h.frozen0).mono ?_
    rintro e w' ⟨rfl,rfl⟩
    exact ⟨rfl,h.used _,(Below.refl B w).setCell (p:=⟨b,0,none⟩) h.1 _⟩
  · refine (copyCheck_used b w h.cell0).mono ?_
    rintro e w' ⟨rfl,rfl⟩
    exact ⟨rfl,h,Below.refl B _⟩
def Bl (B b:Nat) (l:List UInt8) (w:World):Prop:=Lib.IsBuilder 78 5 B b (byts l) w
theorem Bl.fresh (w:World):Bl w.heap.size w.heap.size [] (w.alloc (.cells #[.pointer none,.slice none 0 0] 78)) :=
  .inl ⟨Nat.le_refl _,_,heap_alloc_new w _,World.ownsRow_nil _ _ _ _,by simp [Value.ownBlock]⟩
theorem Bl.lt {B b:Nat} {l:List UInt8} {w:World} (h:Bl B b l w):b < w.heap.size:=by rcases h with h | h <;> exact h.lt
theorem Bl.below {B b:Nat} {l:List UInt8} {w w':World} (h:Bl B b l w) (hb:Below w.heap.size w w'):Bl B b l w':=by
  have key:∀ p,Lib.BuilderAt 78 5 B b p (byts l) w → Lib.BuilderAt 78 5 B b p (byts l) w':=by
    intro p hp
    have hlt:=hp.lt
    obtain ⟨hB,v,hbk,hown,hne⟩:=hp
    exact ⟨hB,v,(hb.block b hlt).trans hbk,World.ownsRow.kept hown (grown_of_below hb) (by cases v.ownBlock <;> simp),hne⟩
  exact h.elim (fun x=>.inl (key _ x)) (fun x=>.inr (key _ x))
set_option maxHeartbeats 2000000 in
set_option maxRecDepth 100000 in
theorem len_any (B b:Nat) (l:List UInt8) (w:World) (h:Bl B b l w) :
    Calls Tryz.prog 31 #[.pointer (some ⟨b,0,none⟩)] w fun e w'=>e = .returned (.int .i64 l.length)∧w = w':=by
  obtain ⟨p,hB,v,hbk,hown,hne⟩:∃ p,Lib.BuilderAt 78 5 B b p (byts l) w:=by
    rcases h with h | h
    · exact ⟨_,h⟩
    · exact ⟨_,h⟩
  have hl:(byts l).length = l.length:=by simp [byts]
  rw [hl] at hown
  obtain ⟨ao,cap,rfl⟩:∃ ao cap,v = .slice ao l.length cap:=by
    rcases hown.2 with ⟨hv,h0⟩ | ⟨g,cap,cur,hv,_⟩
    · exact ⟨none,0,by rw [hv,h0]⟩
    · exact ⟨_,_,hv⟩
  have c1:w.cell? ⟨b,1,none⟩ = some (.slice ao l.length cap):=by rw [Lib.cell_of_heap hbk];rfl
  clear hl
  go_enter Tryz.func31,Tryz.ntmps31
  go_wp2_with fail
  go_ret
  exact ⟨rfl,rfl⟩
set_option maxHeartbeats 2000000 in
set_option maxRecDepth 100000 in
theorem write_any (B b:Nat) (l s:List UInt8) (w:World) (h:Bl B b l w) (hlen:l.length + s.length≤140737488355328) (hBw:B≤w.heap.size) :
    Calls Tryz.prog 32 #[.pointer (some ⟨b,0,none⟩),str s] w fun e w'=>e = .returned (.tuple #[.int .i64 s.length,.nilIface])∧Bl B b (l ++ s) w'∧Below B w w':=by
  obtain ⟨i0,hi,hz0,hz1,hz2⟩:=info_parts infoByte
  go_enter Tryz.func32,Tryz.ntmps32
  go_wp2_with fail
  refine (copyCheck_any B b (byts l) _ h).mono ?_
  rintro e w1 ⟨rfl,h1,hb1⟩
  obtain ⟨hB,v,hbk,hown,hne⟩:=h1
  have hl:(byts l).length = l.length:=by simp [byts]
  rw [hl] at hown
  have c0:w1.cell? ⟨b,0,none⟩ = some (.pointer (some ⟨b,0,none⟩)):=by rw [Lib.cell_of_heap hbk];rfl
  have c1:w1.cell? ⟨b,1,none⟩ = some v:=by rw [Lib.cell_of_heap hbk];rfl
  clear hl
  go_wp2_with (at_builtin;refine Lib.wpList_append_own_string _ rfl _ _ 62 9 rfl B 5 i0 Tryz.underlying62 Tryz.underlying9 hi hz0 hz1 hz2 _ _ _ rfl hown ⟨s.toArray⟩ rfl ?c3 ?c4 ?c5 ?_)
  case c3=>show l.length + s.toArray.size≤maxLen;unfold maxLen;simp;omega
  case c4=>show l.length + s.toArray.size≤_;simp;omega
  case c5=>have:=hb1.size;omega
  intro v' w2 hown' hgrow _
  have hlt:b < w1.heap.size:=by
    rcases Nat.lt_or_ge b w1.heap.size with h' | h'
    · exact h'
    · simp [Array.getElem?_eq_none h'] at hbk
  have hb2:w2.heap[b]? = some (.cells #[.pointer (some ⟨b,0,none⟩),v] 78 (0,0)):=by
    rw [hgrow.block b hlt (fun e=>hne e.symm)]
    exact hbk
  have d0:w2.cell? ⟨b,0,none⟩ = some (.pointer (some ⟨b,0,none⟩)):=by rw [Lib.cell_of_heap hb2];rfl
  have d1:w2.cell? ⟨b,1,none⟩ = some v:=by rw [Lib.cell_of_heap hb2];rfl
  have f1:w2.frozen? ⟨b,1,none⟩ = false:=Lib.frozen_of_heap hb2 1
  obtain ⟨ao,n',cap,rfl⟩:∃ ao n' cap,v' = .slice ao n' cap:=by
    rcases hown'.2 with ⟨hv,_⟩ | ⟨g,cap,cur,hv,_⟩
    · exact ⟨_,_,_,hv⟩
    · exact ⟨_,_,_,hv⟩
  have hss:byts l ++ Lib.strCells ⟨s.toArray⟩ = byts (l ++ s):=by simp [Lib.strCells,byts,byt]
  have hll:l.length + s.length = (byts (l ++ s)).length:=by simp [byts]
  rw [hss,hll] at hown'
  clear hss hll
  go_wp2_with fail
  go_ret2
  refine ⟨rfl,.inr ?_,?_⟩
  · exact Lib.BuilderAt.put hB hb2 hown' (by decide)
  · have hb3:Below B w w2:=Below.grown hb1 hgrow (by have:=hb1.size;omega) (fun k hk=>by
      rcases hown.2 with ⟨rfl,_⟩ | ⟨g,cap,cur,rfl,hg,_⟩
      · cases hk
      · simp [Value.ownBlock] at hk;omega)
    exact hb3.setCell (p:=⟨b,1,none⟩) hB _
set_option maxHeartbeats 2000000 in
set_option maxRecDepth 100000 in
theorem text_any (B b:Nat) (l:List UInt8) (w:World) (h:Bl B b l w) (h0:l ≠ []) :
    Calls Tryz.prog 33 #[.pointer (some ⟨b,0,none⟩)] w fun e w'=>e = .returned (str l)∧Below B w w':=by
  obtain ⟨p,hB,v,hbk,hown,hne⟩:∃ p,Lib.BuilderAt 78 5 B b p (Lib.byteCells l) w:=by
    rcases h with h | h
    · exact ⟨_,h⟩
    · exact ⟨_,h⟩
  have hl0:l.length ≠ 0:=by simpa using h0
  rw [Lib.byteCells_length] at hown
  obtain ⟨g,cap,cur,rfl,hbg,hg,hnc,hcm,hcs,htake⟩:∃ g cap cur,v = .slice (some ⟨g,0,none⟩) l.length cap∧B≤g∧w.heap[g]? = some (.cells cur 5 (0,0))∧l.length≤cap∧cap≤maxLen∧cur.size = cap * 1∧cur.toList.take (l.length * 1) = Lib.byteCells l:=by
    rcases hown.2 with ⟨_,hz⟩ | ⟨g,cap,cur,hv,r⟩
    · exact absurd hz hl0
    · exact ⟨g,cap,cur,hv,r⟩
  have c1:w.drew.cell? ⟨b,1,none⟩ = some (.slice (some ⟨g,0,none⟩) l.length cap):=by
    have:w.drew.heap[b]? = some (.cells #[p,.slice (some ⟨g,0,none⟩) l.length cap] 78 (0,0)):=hbk
    rw [Lib.cell_of_heap this];rfl
  have hSD:(Builtin.unsafeSliceData_ #[62] 112 #[.slice (some ⟨g,0,none⟩) l.length cap]).run Tryz.prog w.drew = .ok (.pointer (some ⟨g,0,none⟩)) w.drew :=
    Lib.run_unsafeSliceData_row _ _ _ _ _ _ (by omega)
  have hUS:(Builtin.unsafeString_ #[112,3] 9 #[.pointer (some ⟨g,0,none⟩),.int .i64 l.length]).run Tryz.prog w.drew = .ok (.string ⟨l.toArray⟩) (w.drew.freeze ⟨g,0,none⟩ l.length):=by
    refine Lib.run_unsafeString_row w.drew 112 3 9 5 Tryz.underlying112 (by kernel_rfl) g cur.size (by have hg':w.drew.heap[g]? = some (.cells cur 5 (0,0)):=hg;simp [World.shape?,hg']) l h0 (by omega) (by unfold maxLen at hcm;omega) ?_
    intro j x hx
    have:=hown.cells (g:=g) rfl j (.int .u8 x.toNat) (by simp [Lib.byteCells,hx])
    exact this
  clear hl0 htake hcs hnc hcm hown hbk h
  go_enter Tryz.func33,Tryz.ntmps33
  go_wp2_with fail
  go_region
  all_goals (go_wp2_with fail;go_ret;exact ⟨rfl,Lib.below_freeze (Below.drew (Below.refl B w)) (p:=⟨g,0,none⟩) hbg _⟩)
set_option maxHeartbeats 2000000 in
set_option maxRecDepth 100000 in
theorem text_nil (b:Nat) (B:Nat) (w:World) (hbk:w.heap[b]? = some (.cells #[.pointer none,.slice none 0 0] 78 (0,0))) :
    Calls Tryz.prog 33 #[.pointer (some ⟨b,0,none⟩)] w fun e w'=>e = .returned (str [])∧Below B w w':=by
  have hUS:∀ (q:Option Addr) (w:World),(Builtin.unsafeString_ #[112,3] 9 #[.pointer q,.int .i64 0]).run Tryz.prog w = .ok (.string ⟨#[]⟩) w:=fun q w=>by cases q <;> rfl
  have c1:w.drew.cell? ⟨b,1,none⟩ = some (.slice none 0 0):=by
    have:w.drew.heap[b]? = some (.cells #[.pointer none,.slice none 0 0] 78 (0,0)):=hbk
    rw [Lib.cell_of_heap this];rfl
  have hSD:(Builtin.unsafeSliceData_ #[62] 112 #[.slice none 0 0]).run Tryz.prog w.drew = .ok (.pointer none) w.drew:=rfl
  go_enter Tryz.func33,Tryz.ntmps33
  go_wp2_with fail
  go_region
  all_goals (go_wp2_with fail;go_ret;exact ⟨rfl,Below.drew (Below.refl B w)⟩)
end Bld
end Go.Proofs.YtnpncpoiiikafaaGreatDoor
namespace Go.Proofs
open Go.Shelf
def Tryz.lays169_ren:Go.Shelf.Ren:=⟨fun | 169=>33 | n=>n,fun | 70=>76 | 9=>9 | 0=>0 | 72=>78 | 37=>62 | 127=>112 | 3=>3 | 5=>5 | n=>n,fun | n=>n⟩
theorem Tryz.lays169:Go.Proofs.Lays.n169 Tryz.prog Tryz.lays169_ren:={
  mixed:=by kernel_rfl
  f169:=Tryz.func33.trans (congrArg some (by kernel_rfl))
  t0:=Tryz.underlying0
  a0:=Tryz.isAgg0
  z0:=Tryz.sizeOf0
  v0:=Tryz.zeroValue0
  t3:=Tryz.underlying3
  a3:=Tryz.isAgg3
  z3:=Tryz.sizeOf3
  v3:=Tryz.zeroValue3
  t9:=Tryz.underlying9
  a9:=Tryz.isAgg9
  z9:=Tryz.sizeOf9
  v9:=Tryz.zeroValue9
  t37:=Tryz.underlying62
  a37:=Tryz.isAgg62
  z37:=Tryz.sizeOf62
  v37:=Tryz.zeroValue62
  t70:=Tryz.underlying76
  a70:=Tryz.isAgg76
  z70:=Tryz.sizeOf76
  v70:=Tryz.zeroValue76
  t72:=Tryz.underlying78
  a72:=Tryz.isAgg78
  z72:=Tryz.sizeOf78
  v72:=Tryz.zeroValue78
  t127:=Tryz.underlying112
  a127:=Tryz.isAgg112
  z127:=Tryz.sizeOf112
  v127:=Tryz.zeroValue112 }
theorem Tryz.Builder_Extra_169:Builder.Extra Tryz.prog Tryz.lays169_ren:={
  sizeBuilder:=by kernel_rfl
  liesBuilder:=by kernel_rfl
  t5:=Tryz.underlying5
  a5:=Tryz.isAgg5
  z5:=Tryz.sizeOf5
  v5:=Tryz.zeroValue5
  infoByte:=by kernel_rfl
  cellsByte:=by kernel_rfl
  sizeByte:=by kernel_rfl
  neB5:=by decide }
open Go.RowKit in
theorem Tryz.Builder_String (B b:Nat) (l:List UInt8) (w:World) (h:Lib.IsBuilder 78 5 B b (Lib.byteCells l) w) (h0:l ≠ []) :
    Calls Tryz.prog 33 #[.pointer (some ⟨b,0,none⟩)] w fun e w'=>e = .returned (.string ⟨l.toArray⟩)∧Below B w w':=Any.Builder_String Tryz.lays169 Tryz.Builder_Extra_169 B b l w h h0
open Go.RowKit in
theorem Tryz.Builder_String_any (B b:Nat) (l:List UInt8) (w:World) (h:Lib.IsBuilder 78 5 B b (Lib.byteCells l) w) (hBw:B≤w.heap.size) :
    Calls Tryz.prog 33 #[.pointer (some ⟨b,0,none⟩)] w fun e w'=>e = .returned (.string ⟨l.toArray⟩)∧Below B w w':=Any.Builder_String_any Tryz.lays169 Tryz.Builder_Extra_169 B b l w h hBw
def Tryz.lays156_ren:Go.Shelf.Ren:=⟨fun | 156=>50 | 165=>74 | 166=>32 | 169=>33 | 240=>54 | 241=>96 | 276=>79 | 277=>120 | n=>n,fun | 31=>107 | 9=>9 | 3=>3 | 4=>4 | 0=>0 | 20=>20 | 72=>78 | 76=>82 | 70=>76 | 37=>62 | 75=>81 | 127=>112 | 164=>144 | 5=>5 | 80=>42 | n=>n,fun | n=>n⟩
theorem Tryz.lays156:Go.Proofs.Lays.n156 Tryz.prog Tryz.lays156_ren:={
  mixed:=by kernel_rfl
  f156:=Tryz.func50.trans (congrArg some (by kernel_rfl))
  f165:=Tryz.func74.trans (congrArg some (by kernel_rfl))
  f166:=Tryz.func32.trans (congrArg some (by kernel_rfl))
  f169:=Tryz.func33.trans (congrArg some (by kernel_rfl))
  f240:=Tryz.func54.trans (congrArg some (by kernel_rfl))
  f241:=Tryz.func96.trans (congrArg some (by kernel_rfl))
  f276:=Tryz.func79.trans (congrArg some (by kernel_rfl))
  f277:=Tryz.func120.trans (congrArg some (by kernel_rfl))
  t0:=Tryz.underlying0
  a0:=Tryz.isAgg0
  z0:=Tryz.sizeOf0
  v0:=Tryz.zeroValue0
  t3:=Tryz.underlying3
  a3:=Tryz.isAgg3
  z3:=Tryz.sizeOf3
  v3:=Tryz.zeroValue3
  t4:=Tryz.underlying4
  a4:=Tryz.isAgg4
  z4:=Tryz.sizeOf4
  v4:=Tryz.zeroValue4
  t9:=Tryz.underlying9
  a9:=Tryz.isAgg9
  z9:=Tryz.sizeOf9
  v9:=Tryz.zeroValue9
  t20:=Tryz.underlying20
  a20:=Tryz.isAgg20
  z20:=Tryz.sizeOf20
  v20:=Tryz.zeroValue20
  t31:=Tryz.underlying107
  a31:=Tryz.isAgg107
  z31:=Tryz.sizeOf107
  v31:=Tryz.zeroValue107
  t37:=Tryz.underlying62
  a37:=Tryz.isAgg62
  z37:=Tryz.sizeOf62
  v37:=Tryz.zeroValue62
  t70:=Tryz.underlying76
  a70:=Tryz.isAgg76
  z70:=Tryz.sizeOf76
  v70:=Tryz.zeroValue76
  t72:=Tryz.underlying78
  a72:=Tryz.isAgg78
  z72:=Tryz.sizeOf78
  v72:=Tryz.zeroValue78
  t75:=Tryz.underlying81
  a75:=Tryz.isAgg81
  z75:=Tryz.sizeOf81
  v75:=Tryz.zeroValue81
  t76:=Tryz.underlying82
  a76:=Tryz.isAgg82
  z76:=Tryz.sizeOf82
  v76:=Tryz.zeroValue82
  t127:=Tryz.underlying112
  a127:=Tryz.isAgg112
  z127:=Tryz.sizeOf112
  v127:=Tryz.zeroValue112
  t164:=Tryz.underlying144
  a164:=Tryz.isAgg144
  z164:=Tryz.sizeOf144
  v164:=Tryz.zeroValue144 }
theorem Tryz.Builder_Extra_156:Builder.Extra Tryz.prog Tryz.lays156_ren:={
  sizeBuilder:=by kernel_rfl
  liesBuilder:=by kernel_rfl
  t5:=Tryz.underlying5
  a5:=Tryz.isAgg5
  z5:=Tryz.sizeOf5
  v5:=Tryz.zeroValue5
  infoByte:=by kernel_rfl
  cellsByte:=by kernel_rfl
  sizeByte:=by kernel_rfl
  neB5:=by decide }
open Go.RowKit in
theorem Tryz.strings_Join (bk o c:Nat) (xs:List ByteArray) (sep:ByteArray) (w:World) (hcells:∀ (j:Nat) x,xs[j]? = some x → w.cell? ⟨bk,o + j,none⟩ = some (.string x)) (hbk:bk < w.heap.size) (hN:xs.length≤140737488355328) (hcap:xs.length≤c) (hlen:(Lib.join (xs.map (·.data.toList)) sep.data.toList).length≤140737488355328) :
    Calls Tryz.prog 50 #[.slice (some ⟨bk,o,none⟩) xs.length c,.string sep] w fun e w'=>e = .returned (.string ⟨(Lib.join (xs.map (·.data.toList)) sep.data.toList).toArray⟩)∧Below w.heap.size w w':=Any.strings_Join Tryz.lays156 Tryz.Builder_Extra_156 bk o c xs sep w hcells hbk hN hcap hlen
def Tryz.lays125_ren:Go.Shelf.Ren:=⟨fun | 125=>114 | 128=>129 | 129=>130 | n=>n,fun | 46=>129 | 3=>3 | 51=>215 | 53=>124 | 4=>4 | 5=>5 | 9=>9 | n=>n,fun | n=>n⟩
theorem Tryz.lays125:Go.Proofs.Lays.n125 Tryz.prog Tryz.lays125_ren:={
  mixed:=by kernel_rfl
  f125:=Tryz.func114.trans (congrArg some (by kernel_rfl))
  f128:=Tryz.func129.trans (congrArg some (by kernel_rfl))
  f129:=Tryz.func130.trans (congrArg some (by kernel_rfl))
  t3:=Tryz.underlying3
  a3:=Tryz.isAgg3
  z3:=Tryz.sizeOf3
  v3:=Tryz.zeroValue3
  t4:=Tryz.underlying4
  a4:=Tryz.isAgg4
  z4:=Tryz.sizeOf4
  v4:=Tryz.zeroValue4
  t5:=Tryz.underlying5
  a5:=Tryz.isAgg5
  z5:=Tryz.sizeOf5
  v5:=Tryz.zeroValue5
  t9:=Tryz.underlying9
  a9:=Tryz.isAgg9
  z9:=Tryz.sizeOf9
  v9:=Tryz.zeroValue9
  t46:=Tryz.underlying129
  a46:=Tryz.isAgg129
  z46:=Tryz.sizeOf129
  v46:=Tryz.zeroValue129
  t51:=Tryz.underlying215
  a51:=Tryz.isAgg215
  z51:=Tryz.sizeOf215
  v51:=Tryz.zeroValue215
  t53:=Tryz.underlying124
  a53:=Tryz.isAgg124
  z53:=Tryz.sizeOf124
  v53:=Tryz.zeroValue124 }
theorem Tryz.bits_Len (x:Int) (w:World) (h0:0≤x) (h1:x≤18446744073709551615) :
    Calls Tryz.prog 114 #[.int .u64 x] w fun e w'=>e = .returned (.int .i64 (Lib.bitLen x.toNat))∧w' = w:=Any.bits_Len Tryz.lays125 x w h0 h1
def Tryz.laysM171_ren:Go.Shelf.Ren:=⟨fun | 171=>48 | 243=>72 | 246=>95 | 283=>116 | 284=>117 | 285=>118 | 286=>119 | 129=>130 | 317=>131 | 318=>132 | 319=>133 | 320=>134 | 337=>139 | 338=>140 | n=>n,fun | 3=>3 | 9=>9 | 2=>2 | 4=>4 | 171=>202 | 0=>0 | 53=>124 | 37=>62 | 5=>5 | 173=>205 | 212=>217 | 51=>215 | 20=>20 | 213=>218 | 46=>129 | 232=>226 | 233=>227 | n=>n,fun | 17=>0 | 18=>2 | 19=>3 | n=>n⟩
theorem Tryz.laysM171:Go.Proofs.LaysM.n171 Tryz.prog Tryz.laysM171_ren:={
  mixed:=by kernel_rfl
  f129:=Tryz.func130.trans (congrArg some (by kernel_rfl))
  f171:=Tryz.func48.trans (congrArg some (by kernel_rfl))
  f243:=Tryz.func72.trans (congrArg some (by kernel_rfl))
  f246:=Tryz.func95.trans (congrArg some (by kernel_rfl))
  f283:=Tryz.func116.trans (congrArg some (by kernel_rfl))
  f284:=Tryz.func117.trans (congrArg some (by kernel_rfl))
  f285:=Tryz.func118.trans (congrArg some (by kernel_rfl))
  f286:=Tryz.func119.trans (congrArg some (by kernel_rfl))
  f317:=Tryz.func131.trans (congrArg some (by kernel_rfl))
  f318:=Tryz.func132.trans (congrArg some (by kernel_rfl))
  f319:=Tryz.func133.trans (congrArg some (by kernel_rfl))
  f320:=Tryz.func134.trans (congrArg some (by kernel_rfl))
  f337:=Tryz.func139.trans (congrArg some (by kernel_rfl))
  f338:=Tryz.func140.trans (congrArg some (by kernel_rfl))
  t0:=Tryz.underlying0
  a0:=Tryz.isAgg0
  z0:=Tryz.sizeOf0
  v0:=Tryz.zeroValue0
  t2:=Tryz.underlying2
  a2:=Tryz.isAgg2
  z2:=Tryz.sizeOf2
  v2:=Tryz.zeroValue2
  t3:=Tryz.underlying3
  a3:=Tryz.isAgg3
  z3:=Tryz.sizeOf3
  v3:=Tryz.zeroValue3
  t4:=Tryz.underlying4
  a4:=Tryz.isAgg4
  z4:=Tryz.sizeOf4
  v4:=Tryz.zeroValue4
  t5:=Tryz.underlying5
  a5:=Tryz.isAgg5
  z5:=Tryz.sizeOf5
  v5:=Tryz.zeroValue5
  t9:=Tryz.underlying9
  a9:=Tryz.isAgg9
  z9:=Tryz.sizeOf9
  v9:=Tryz.zeroValue9
  t20:=Tryz.underlying20
  a20:=Tryz.isAgg20
  z20:=Tryz.sizeOf20
  v20:=Tryz.zeroValue20
  t37:=Tryz.underlying62
  a37:=Tryz.isAgg62
  z37:=Tryz.sizeOf62
  v37:=Tryz.zeroValue62
  t46:=Tryz.underlying129
  a46:=Tryz.isAgg129
  z46:=Tryz.sizeOf129
  v46:=Tryz.zeroValue129
  t51:=Tryz.underlying215
  a51:=Tryz.isAgg215
  z51:=Tryz.sizeOf215
  v51:=Tryz.zeroValue215
  t53:=Tryz.underlying124
  a53:=Tryz.isAgg124
  z53:=Tryz.sizeOf124
  v53:=Tryz.zeroValue124
  t171:=Tryz.underlying202
  a171:=Tryz.isAgg202
  z171:=Tryz.sizeOf202
  v171:=Tryz.zeroValue202
  t173:=Tryz.underlying205
  a173:=Tryz.isAgg205
  z173:=Tryz.sizeOf205
  v173:=Tryz.zeroValue205
  t212:=Tryz.underlying217
  a212:=Tryz.isAgg217
  z212:=Tryz.sizeOf217
  v212:=Tryz.zeroValue217
  t213:=Tryz.underlying218
  a213:=Tryz.isAgg218
  z213:=Tryz.sizeOf218
  t232:=Tryz.underlying226
  a232:=Tryz.isAgg226
  z232:=Tryz.sizeOf226
  v232:=Tryz.zeroValue226
  t233:=Tryz.underlying227
  a233:=Tryz.isAgg227
  z233:=Tryz.sizeOf227
  v233:=Tryz.zeroValue227
  g17:=by kernel_rfl
  g18:=by kernel_rfl
  g19:=by kernel_rfl
  i0:=by kernel_rfl
  i2:=by kernel_rfl
  i3:=by kernel_rfl
  i4:=by kernel_rfl
  i5:=by kernel_rfl
  i9:=by kernel_rfl
  i20:=by kernel_rfl
  i37:=by kernel_rfl
  i46:=by kernel_rfl
  i51:=by kernel_rfl
  i53:=by kernel_rfl
  i171:=by kernel_rfl
  i173:=by kernel_rfl
  i212:=by kernel_rfl
  i232:=by kernel_rfl
  i233:=by kernel_rfl
  m17:=by kernel_rfl
  m18:=by kernel_rfl
  m19:=by kernel_rfl }
open Go.RowKit Go.Sort Go.Lib in
theorem Tryz.strconv_Itoa (n : Int) (h0 : -9223372036854775808 ≤ n) (h1 : n ≤ 9223372036854775807) (w : World) (htab : Lib.TabIs Tryz.prog w "internal/strconv.uint64pow10" .u64 Lib.pow10Tab) :
    Calls Tryz.prog 48 #[.int .i64 n] w fun e w'=>e = .returned (.string ⟨(Lib.itoa n).toArray⟩)∧∃ k os,w' = grow (w.drewN k) os:=Any.strconv_Itoa Tryz.laysM171 n h0 h1 w htab
def Tryz.lays145_ren:Go.Shelf.Ren:=⟨fun | 145=>97 | 220=>121 | 219=>135 | 217=>141 | 225=>142 | 224=>143 | 267=>144 | 266=>148 | 314=>149 | n=>n,fun | 9=>9 | 4=>4 | 59=>174 | 3=>3 | 5=>5 | 46=>129 | 146=>228 | 51=>215 | n=>n,fun | 1=>1 | n=>n⟩
theorem Tryz.lays145:Go.Proofs.Lays.n145 Tryz.prog Tryz.lays145_ren:={
  mixed:=by kernel_rfl
  f145:=Tryz.func97.trans (congrArg some (by kernel_rfl))
  f217:=Tryz.func141.trans (congrArg some (by kernel_rfl))
  f219:=Tryz.func135.trans (congrArg some (by kernel_rfl))
  f220:=Tryz.func121.trans (congrArg some (by kernel_rfl))
  f224:=Tryz.func143.trans (congrArg some (by kernel_rfl))
  f225:=Tryz.func142.trans (congrArg some (by kernel_rfl))
  f266:=Tryz.func148.trans (congrArg some (by kernel_rfl))
  f267:=Tryz.func144.trans (congrArg some (by kernel_rfl))
  f314:=Tryz.func149.trans (congrArg some (by kernel_rfl))
  t3:=Tryz.underlying3
  a3:=Tryz.isAgg3
  z3:=Tryz.sizeOf3
  v3:=Tryz.zeroValue3
  t4:=Tryz.underlying4
  a4:=Tryz.isAgg4
  z4:=Tryz.sizeOf4
  v4:=Tryz.zeroValue4
  t5:=Tryz.underlying5
  a5:=Tryz.isAgg5
  z5:=Tryz.sizeOf5
  v5:=Tryz.zeroValue5
  t9:=Tryz.underlying9
  a9:=Tryz.isAgg9
  z9:=Tryz.sizeOf9
  v9:=Tryz.zeroValue9
  t46:=Tryz.underlying129
  a46:=Tryz.isAgg129
  z46:=Tryz.sizeOf129
  v46:=Tryz.zeroValue129
  t51:=Tryz.underlying215
  a51:=Tryz.isAgg215
  z51:=Tryz.sizeOf215
  v51:=Tryz.zeroValue215
  t59:=Tryz.underlying174
  a59:=Tryz.isAgg174
  z59:=Tryz.sizeOf174
  v59:=Tryz.zeroValue174
  t146:=Tryz.underlying228
  a146:=Tryz.isAgg228
  z146:=Tryz.sizeOf228
  v146:=Tryz.zeroValue228
  g1:=by kernel_rfl }
open Go.RowKit Go.Lib in
theorem Tryz.strings_Cut (s sep:ByteArray) (m:Int) (w:World) (hs:s.size < 4294967281) (hm:w.cell? ⟨1,0,none⟩ = some (.int .i64 m)) :
    Calls Tryz.prog 97 #[.string s,.string sep] w fun e w'=>e = .returned (.tuple #[.string ⟨(Lib.cut s.data.toList sep.data.toList).1.toArray⟩,.string ⟨(Lib.cut s.data.toList sep.data.toList).2.1.toArray⟩,.bool (Lib.cut s.data.toList sep.data.toList).2.2])∧∃ n,w' = w.drewN n:=Any.strings_Cut Tryz.lays145 s sep m w hs hm
def Tryz.laysM145_ren:Go.Shelf.Ren:=⟨fun | 145=>97 | 220=>121 | 219=>135 | 217=>141 | 225=>142 | 224=>143 | 267=>144 | 266=>148 | 314=>149 | n=>n,fun | 9=>9 | 4=>4 | 59=>174 | 3=>3 | 5=>5 | 46=>129 | 146=>228 | 51=>215 | n=>n,fun | 1=>1 | n=>n⟩
theorem Tryz.laysM145:Go.Proofs.LaysM.n145 Tryz.prog Tryz.laysM145_ren:={
  mixed:=by kernel_rfl
  f145:=Tryz.func97.trans (congrArg some (by kernel_rfl))
  f217:=Tryz.func141.trans (congrArg some (by kernel_rfl))
  f219:=Tryz.func135.trans (congrArg some (by kernel_rfl))
  f220:=Tryz.func121.trans (congrArg some (by kernel_rfl))
  f224:=Tryz.func143.trans (congrArg some (by kernel_rfl))
  f225:=Tryz.func142.trans (congrArg some (by kernel_rfl))
  f266:=Tryz.func148.trans (congrArg some (by kernel_rfl))
  f267:=Tryz.func144.trans (congrArg some (by kernel_rfl))
  f314:=Tryz.func149.trans (congrArg some (by kernel_rfl))
  t3:=Tryz.underlying3
  a3:=Tryz.isAgg3
  z3:=Tryz.sizeOf3
  v3:=Tryz.zeroValue3
  t4:=Tryz.underlying4
  a4:=Tryz.isAgg4
  z4:=Tryz.sizeOf4
  v4:=Tryz.zeroValue4
  t5:=Tryz.underlying5
  a5:=Tryz.isAgg5
  z5:=Tryz.sizeOf5
  v5:=Tryz.zeroValue5
  t9:=Tryz.underlying9
  a9:=Tryz.isAgg9
  z9:=Tryz.sizeOf9
  v9:=Tryz.zeroValue9
  t46:=Tryz.underlying129
  a46:=Tryz.isAgg129
  z46:=Tryz.sizeOf129
  v46:=Tryz.zeroValue129
  t51:=Tryz.underlying215
  a51:=Tryz.isAgg215
  z51:=Tryz.sizeOf215
  v51:=Tryz.zeroValue215
  t59:=Tryz.underlying174
  a59:=Tryz.isAgg174
  z59:=Tryz.sizeOf174
  v59:=Tryz.zeroValue174
  t146:=Tryz.underlying228
  a146:=Tryz.isAgg228
  z146:=Tryz.sizeOf228
  v146:=Tryz.zeroValue228
  g1:=by kernel_rfl
  i3:=by kernel_rfl
  i4:=by kernel_rfl
  i5:=by kernel_rfl
  i9:=by kernel_rfl
  i46:=by kernel_rfl
  i51:=by kernel_rfl
  i59:=by kernel_rfl
  i146:=by kernel_rfl
  m1:=by kernel_rfl
  s1_3:=fun w h=>Go.Proofs.cell_of_shapedOpen_int (zero:=#[.int .i64 0]) (t:=3) h (of_decide_eq_true (by kernel_rfl)) (by kernel_rfl) rfl (by kernel_rfl) (by kernel_rfl) Tryz.underlying3 }
open Go.RowKit Go.Lib in
theorem Tryz.strings_Cut_shaped (s sep:ByteArray) (w:World) (h:w.ShapedOpen Tryz.prog) (hs:s.size < 4294967281) :
    Calls Tryz.prog 97 #[.string s,.string sep] w fun e w'=>e = .returned (.tuple #[.string ⟨(Lib.cut s.data.toList sep.data.toList).1.toArray⟩,.string ⟨(Lib.cut s.data.toList sep.data.toList).2.1.toArray⟩,.bool (Lib.cut s.data.toList sep.data.toList).2.2])∧∃ n,w' = w.drewN n:=Any.strings_Cut_shaped Tryz.laysM145 s sep w h hs
end Go.Proofs
