/- SieH -/
import Derived.Test.YtnpncpoiiikafaaGreatDoorSieGQs
import Derived.Test.YtnpncpoiiikafaaGreatDoorSieFQs
import Derived.Test.YtnpncpoiiikafaaGreatDoorSieEQs
import Derived.Test.YtnpncpoiiikafaaGreatDoorMemQs
set_option linter.unusedVariables false
set_option linter.unusedSimpArgs false
set_option linter.unnecessarySimpa false
namespace Go.Proofs.YtnpncpoiiikafaaGreatDoor
open Go.RowKit
namespace SieW
structure Sv (w:World) (g:Nat) (n:Nd) (sz:Nat):Prop where
  at_:∃ v,Blk w g 60 #[v,.int .i64 sz]∧NdV w (fun _=>True) n v
  wf:wfN n
  few:szN n≤200
  size:sz≤1000
theorem Sv.below {w w':World} {g:Nat} {n:Nd} {sz:Nat} (h:Sv w g n sz) (hb:Below w.heap.size w w'):Sv w' g n sz:=by
  obtain ⟨⟨v,b,hv⟩,h2,h3,h4⟩:=h
  exact ⟨⟨v,b.below hb b.lt,hv.keep (fun b _ hbl=>⟨hb.block b hbl,trivial⟩) _ _⟩,h2,h3,h4⟩
theorem neq_iface (T:TypeId) (x:Value) (w:World):(binOp .neq 53 (.iface T x) .nilIface).run Tryz.prog w = .ok (.bool true) w:=by kernel_rfl
theorem made_yes (w:World) (g:Nat) (n:Nd) (sz:Nat) (h:Sv w g n sz) :
    Calls Tryz.prog 23 #[.pointer (some ⟨g,0,none⟩)] w fun e w'=>e = .returned (.bool true)∧Below w.heap.size w w':=by
  obtain ⟨⟨v,b,hv⟩,_⟩:=h
  obtain ⟨T,x,rfl⟩:=hv.iface
  obtain ⟨c0,c1,_⟩:=blk2 b
  have hq:=neq_iface
  go_enter Tryz.func23,Tryz.ntmps23
  go_wp2_with fail
  go_ret
  exact ⟨rfl,Below.refl _ _⟩
theorem size_yes (w:World) (g:Nat) (n:Nd) (sz:Nat) (h:Sv w g n sz) :
    Calls Tryz.prog 13 #[.pointer (some ⟨g,0,none⟩)] w fun e w'=>e = .returned (.int .i64 sz)∧Below w.heap.size w w':=by
  have h0:=h
  obtain ⟨⟨v,b,hv⟩,_⟩:=h
  go_enter Tryz.func13,Tryz.ntmps13
  go_wp2_with fail
  refine (made_yes w g n sz h0).mono ?_
  rintro e w1 ⟨rfl,hb1⟩
  obtain ⟨c0,c1,_⟩:=blk2 (b.below hb1 b.lt)
  go_wp2_with fail
  go_ret
  exact ⟨rfl,hb1⟩
theorem show_yes (w:World) (g:Nat) (n:Nd) (sz:Nat) (h:Sv w g n sz) (hW:WanW.Wo w) (t:List UInt8) (ht:shN 0 n = t) :
    Calls Tryz.prog 12 #[.pointer (some ⟨g,0,none⟩)] w fun e w'=>e = .returned (str t)∧Below w.heap.size w w':=by
  have h0:=h
  obtain ⟨⟨v,b,hv⟩,h2,h3,h4⟩:=h
  have C:=shown_any w _ hW n v 0 h2 (by omega) hv
  rw [ht] at C
  have HC:=Lib.hid C
  clear C ht
  go_enter Tryz.func12,Tryz.ntmps12
  go_wp2_with fail
  refine (made_yes w g n sz h0).mono ?_
  rintro e w1 ⟨rfl,hb1⟩
  obtain ⟨c0,c1,_⟩:=blk2 (b.below hb1 b.lt)
  go_wp2_with fail
  refine (HC.out w1 hb1).mono ?_
  rintro e w2 ⟨rfl,hb2⟩
  go_wp2_with fail
  go_ret
  exact ⟨rfl,hb1.trans (hb2.mono hb1.size)⟩
set_option maxRecDepth 100000 in
set_option maxHeartbeats 2000000 in
theorem Meets_yes (w:World) (g:Nat) (n:Nd) (sz:Nat) (h:Sv w g n sz) (q t:Int) (d:List UInt8) (hd:d.length≤100000) (r:Bool) (hr:meetN q t d n = r) :
    Calls Tryz.prog 9 #[.pointer (some ⟨g,0,none⟩),rcv q t d] w fun e w'=>e = .returned (.bool r)∧Below w.heap.size w w':=by
  have h0:=h
  obtain ⟨⟨v,b,hv⟩,h2,h3,h4⟩:=h
  have M:=meets_any q t d hd w _ n v h2 hv
  rw [hr] at M
  obtain ⟨T,x,K,rfl,hm,hf,hM⟩:=M
  have HM:=Lib.hid hM
  clear hM hr
  have HB:=(Below.refl w.heap.size w).alloc (Nat.le_refl _) (.cells #[.int .i64 q,.int .i64 t,str d] 37)
  have b1:=b.alloc (.cells #[.int .i64 q,.int .i64 t,str d] 37)
  have b2:=Blk.new w 37 #[.int .i64 q,.int .i64 t,str d]
  have hS:=h0.below HB
  go_enter Tryz.func9,Tryz.ntmps9
  go_wp2_with fail
  have hl2:=b2.lt
  generalize w.alloc (.cells #[.int .i64 q,.int .i64 t,str d] 37) = w1 at *
  have hgl:=b.lt
  refine wp_region_held_drew (S:=(fun w'=>w'.cell? ⟨g,0,none⟩ = some (.iface T x)∧w'.cell? ⟨w.heap.size,0,none⟩ = some (.int .i64 q)∧w'.cell? ⟨w.heap.size,1,none⟩ = some (.int .i64 t)∧w'.cell? ⟨w.heap.size,2,none⟩ = some (str d))) (by kernel_rfl) ?_ (fun hHeld=>?_)
  · replace b1:=Blk.drew b1;replace b2:=Blk.drew b2;replace HB:=Below.drew HB;(try dsimp only);exact ⟨b1.cell_ 0 rfl,b2.cell_ 0 rfl,b2.cell_ 1 rfl,b2.cell_ 2 rfl⟩
  replace b1:=Blk.drew b1
  replace b2:=Blk.drew b2
  replace HB:=Below.drew HB
  have zHB:=HB.size
  refine take_movev (v:=?vu1x0) 0 (Operand.tmp 0) rfl rfl (by first | exact .inl rfl | exact .inr rfl) rfl (by kernel_rfl) (by kernel_rfl) (by kernel_rfl) (fun _ _ _ h=>h) (by assumption) ?yu1x0 ?ru1x0
  case yu1x0=>(go_simp;try (with_reducible rfl))
  simp only [zSa,zSb,zSc]
  refine wpAnyH_ready (rs:=[1]) (by kernel_rfl) (by simp) (AllReadyH.cons rfl (fun K1 hK1=>?ku1x1) AllReadyH.nil)
  refine take_calls 1 23 [Operand.tmp 5] #[25] rfl rfl (by kernel_rfl) (fun args w=>run_enter Tryz.func23 (by kernel_rfl) rfl args w) ?_
  refine (made_yes _ g n sz (hS.below (Below.refl _ _).drew)).mono ?_
  rintro e w1 ⟨rfl,hb1⟩
  refine ⟨_,rfl,?_⟩
  have z1:=hb1.size
  try simp only [World.size_drew] at z1
  replace b1:=Blk.below b1 hb1 (by first | exact Nat.le_refl _ | (simp only [World.size_alloc,World.size_setCell,World.size_drew] at *;omega) | omega)
  replace b2:=Blk.below b2 hb1 (by first | exact Nat.le_refl _ | (simp only [World.size_alloc,World.size_setCell,World.size_drew] at *;omega) | omega)
  replace HB:=HB.trans (hb1.mono (by first | exact HB.size | omega))
  have zHB1:=HB.size
  refine hK1.out _ _ ?su1x1 (fun hHeld=>?ru1x1)
  case su1x1=>((try dsimp only);exact ⟨b1.cell_ 0 rfl,b2.cell_ 0 rfl,b2.cell_ 1 rfl,b2.cell_ 2 rfl⟩)
  try simp only [zSa,zSb,zSc]
  refine take_movev (v:=?vu1x2) 2 (Operand.tmp 6) rfl rfl (by first | exact .inl rfl | exact .inr rfl) rfl (by kernel_rfl) (by kernel_rfl) (by kernel_rfl) (fun _ _ _ h=>h) (by assumption) ?yu1x2 ?ru1x2
  case yu1x2=>(go_simp;try (with_reducible rfl))
  simp only [zSa,zSb,zSc]
  refine take_movev (v:=?vu1x3) 3 (Operand.tmp 0) rfl rfl (by first | exact .inl rfl | exact .inr rfl) rfl (by kernel_rfl) (by kernel_rfl) (by kernel_rfl) (fun _ _ _ h=>h) (by assumption) ?yu1x3 ?ru1x3
  case yu1x3=>(go_simp;try (with_reducible rfl))
  simp only [zSa,zSb,zSc]
  refine take_op (v:=?vu1x4) 4 (Op.nilCheck (Operand.tmp 8)) 0 rfl rfl rfl rfl rfl (by kernel_rfl) (by kernel_rfl) (by kernel_rfl) (fun _ _ _ h=>h) ?yu1x4 (by assumption) ?ru1x4
  case yu1x4=>(intro w' hSw;(try dsimp only at hSw);go_simp;try (with_reducible rfl))
  simp only [zSa,zSb,zSc]
  refine take_op (v:=?vu1x5) 5 (Op.fieldAddr 60 (Operand.tmp 9) 0) 0 rfl rfl rfl rfl rfl (by kernel_rfl) (by kernel_rfl) (by kernel_rfl) (fun _ _ _ h=>h) ?yu1x5 (by assumption) ?ru1x5
  case yu1x5=>(intro w' hSw;(try dsimp only at hSw);go_simp;try (with_reducible rfl))
  simp only [zSa,zSb,zSc]
  refine take_op (v:=?vu1x6) 6 (Op.load 53 (Operand.tmp 10)) 53 rfl rfl rfl rfl rfl (by kernel_rfl) (by kernel_rfl) (by kernel_rfl) (fun _ _ _ h=>h) ?yu1x6 (by assumption) ?ru1x6
  case yu1x6=>(intro w' hSw;(try dsimp only at hSw);go_simp;try (with_reducible rfl))
  simp only [zSa,zSb,zSc]
  refine take_op (v:=?vu1x7) 7 (Op.load 37 (Operand.tmp 3)) 37 rfl rfl rfl rfl rfl (by kernel_rfl) (by kernel_rfl) (by kernel_rfl) (fun _ _ _ h=>h) ?yu1x7 (by assumption) ?ru1x7
  case yu1x7=>(intro w' hSw;(try dsimp only at hSw);go_simp;try (with_reducible rfl))
  simp only [zSa,zSb,zSc]
  refine wpAnyH_ready (rs:=[8]) (by kernel_rfl) (by simp) (AllReadyH.cons rfl (fun K8 hK8=>?ku1x8) AllReadyH.nil)
  refine take_calli 8 K #[x, rcv q t d] (Op.call { callee := Callee.invoke (Operand.tmp 11) "varve/sieve.meets", args := #[Operand.tmp 12], argTypes := #[37] }) 4 rfl rfl rfl (by kernel_rfl) (by go_simp; try (first | with_reducible rfl | exact ⟨rfl, rfl⟩)) ?_
  refine (HM.out _ HB).mono ?_
  rintro e w8 ⟨rfl,hb8⟩
  replace b1:=b1.below hb8 b1.lt
  replace b2:=b2.below hb8 b2.lt
  replace HB:=HB.trans (hb8.mono HB.size)
  refine ⟨_,rfl,?_⟩
  refine hK8.out _ _ ?su1x8 (fun hHeld=>?ru1x8)
  case su1x8=>((try dsimp only);exact ⟨b1.cell_ 0 rfl,b2.cell_ 0 rfl,b2.cell_ 1 rfl,b2.cell_ 2 rfl⟩)
  try simp only [zSa,zSb,zSc]
  refine take_op (v:=?vu1x9) 9 (Op.pick (Operand.tmp 7) (Operand.tmp 13) (Operand.const (Value.bool false))) 4 rfl rfl rfl rfl rfl (by kernel_rfl) (by kernel_rfl) (by kernel_rfl) (fun _ _ _ h=>h) ?yu1x9 (by assumption) ?ru1x9
  case yu1x9=>(intro w' hSw;(try dsimp only at hSw);go_simp;try (with_reducible rfl))
  simp only [zSa,zSb,zSc]
  refine take_op (v:=?vu1x10) 10 (Op.assign (Operand.tmp 14)) 4 rfl rfl rfl rfl rfl (by kernel_rfl) (by kernel_rfl) (by kernel_rfl) (fun _ _ _ h=>h) ?yu1x10 (by assumption) ?ru1x10
  case yu1x10=>(intro w' hSw;(try dsimp only at hSw);go_simp;try (with_reducible rfl))
  simp only [zSa,zSb,zSc]
  refine wpAnyH_done (by kernel_rfl) ?_ _
  go_wp2_with fail
  go_ret
  exact ⟨rfl,HB⟩
set_option maxRecDepth 100000 in
set_option maxHeartbeats 2000000 in
theorem Not_yes (w:World) (g:Nat) (n:Nd) (sz:Nat) (h:Sv w g n sz) (hs:sz < 100) (hz:szN n≤100) :
    Calls Tryz.prog 11 #[.pointer (some ⟨g,0,none⟩)] w fun e w'=>∃ g',e = .returned (.tuple #[.pointer (some ⟨g',0,none⟩),.int .i64 0])∧Sv w' g' (.not n) (sz + 1)∧Below w.heap.size w w':=by
  have h0:=h
  obtain ⟨⟨v,b,hv⟩,h2,h3,h4⟩:=h
  obtain ⟨T,x,rfl⟩:=hv.iface
  go_enter Tryz.func11,Tryz.ntmps11
  go_wp2_with fail
  refine (made_yes w g n sz h0).mono ?_
  rintro e w1 ⟨rfl,hb1⟩
  have b1:=b.below hb1 b.lt
  have hS:=h0.below hb1
  obtain ⟨c0,c1,_⟩:=blk2 b1
  go_wp2_with fail
  refine wp_region_held_drew (S:=(fun w'=>w'.cell? ⟨g,0,none⟩ = some (.iface T x)∧w'.cell? ⟨g,1,none⟩ = some (.int .i64 (sz:Nat)))) (by kernel_rfl) ?_ (fun hHeld=>?_)
  · replace b1:=Blk.drew b1;(try dsimp only);first | exact ⟨b1.cell_ 0 rfl,b1.cell_ 1 rfl⟩ | exact ⟨(b1.alloc _).cell_ 0 rfl,(b1.alloc _).cell_ 1 rfl⟩
  replace b1:=Blk.drew b1
  refine take_movev (v:=?vu3x0) 0 (Operand.tmp 0) rfl rfl (by first | exact .inl rfl | exact .inr rfl) rfl (by kernel_rfl) (by kernel_rfl) (by kernel_rfl) (fun _ _ _ h=>h) (by assumption) ?yu3x0 ?ru3x0
  case yu3x0=>(go_simp;try (with_reducible rfl))
  simp only [zSa,zSb,zSc]
  refine take_op (v:=?vu3x1) 1 (Op.nilCheck (Operand.tmp 14)) 0 rfl rfl rfl rfl rfl (by kernel_rfl) (by kernel_rfl) (by kernel_rfl) (fun _ _ _ h=>h) ?yu3x1 (by assumption) ?ru3x1
  case yu3x1=>(intro w' hSw;(try dsimp only at hSw);go_simp;try (with_reducible rfl))
  simp only [zSa,zSb,zSc]
  refine take_op (v:=?vu3x2) 2 (Op.fieldAddr 60 (Operand.tmp 15) 0) 0 rfl rfl rfl rfl rfl (by kernel_rfl) (by kernel_rfl) (by kernel_rfl) (fun _ _ _ h=>h) ?yu3x2 (by assumption) ?ru3x2
  case yu3x2=>(intro w' hSw;(try dsimp only at hSw);go_simp;try (with_reducible rfl))
  simp only [zSa,zSb,zSc]
  refine take_op (v:=?vu3x3) 3 (Op.load 53 (Operand.tmp 16)) 53 rfl rfl rfl rfl rfl (by kernel_rfl) (by kernel_rfl) (by kernel_rfl) (fun _ _ _ h=>h) ?yu3x3 (by assumption) ?ru3x3
  case yu3x3=>(intro w' hSw;(try dsimp only at hSw);go_simp;try (with_reducible rfl))
  simp only [zSa,zSb,zSc]
  refine take_op (v:=?vu3x4) 4 (Op.build 71 #[(0,Operand.tmp 17)]) 71 rfl rfl rfl rfl rfl (by kernel_rfl) (by kernel_rfl) (by kernel_rfl) (fun _ _ _ h=>h) ?yu3x4 (by assumption) ?ru3x4
  case yu3x4=>(intro w' hSw;(try dsimp only at hSw);go_simp;try (with_reducible rfl))
  simp only [zSa,zSb,zSc]
  refine take_op (v:=?vu3x5) 5 (Op.makeInterface 71 (Operand.tmp 18)) 53 rfl rfl rfl rfl rfl (by kernel_rfl) (by kernel_rfl) (by kernel_rfl) (fun _ _ _ h=>h) ?yu3x5 (by assumption) ?ru3x5
  case yu3x5=>(intro w' hSw;(try dsimp only at hSw);go_simp;try (with_reducible rfl))
  simp only [zSa,zSb,zSc]
  refine take_movev (v:=?vu3x6) 6 (Operand.tmp 0) rfl rfl (by first | exact .inl rfl | exact .inr rfl) rfl (by kernel_rfl) (by kernel_rfl) (by kernel_rfl) (fun _ _ _ h=>h) (by assumption) ?yu3x6 ?ru3x6
  case yu3x6=>(go_simp;try (with_reducible rfl))
  simp only [zSa,zSb,zSc]
  refine take_op (v:=?vu3x7) 7 (Op.nilCheck (Operand.tmp 20)) 0 rfl rfl rfl rfl rfl (by kernel_rfl) (by kernel_rfl) (by kernel_rfl) (fun _ _ _ h=>h) ?yu3x7 (by assumption) ?ru3x7
  case yu3x7=>(intro w' hSw;(try dsimp only at hSw);go_simp;try (with_reducible rfl))
  simp only [zSa,zSb,zSc]
  refine take_op (v:=?vu3x8) 8 (Op.fieldAddr 60 (Operand.tmp 21) 1) 0 rfl rfl rfl rfl rfl (by kernel_rfl) (by kernel_rfl) (by kernel_rfl) (fun _ _ _ h=>h) ?yu3x8 (by assumption) ?ru3x8
  case yu3x8=>(intro w' hSw;(try dsimp only at hSw);go_simp;try (with_reducible rfl))
  simp only [zSa,zSb,zSc]
  refine take_op (v:=?vu3x9) 9 (Op.load 3 (Operand.tmp 22)) 3 rfl rfl rfl rfl rfl (by kernel_rfl) (by kernel_rfl) (by kernel_rfl) (fun _ _ _ h=>h) ?yu3x9 (by assumption) ?ru3x9
  case yu3x9=>(intro w' hSw;(try dsimp only at hSw);go_simp;try (with_reducible rfl))
  simp only [zSa,zSb,zSc]
  refine take_op (v:=?vu3x10) 10 (Op.binOp BinOp.add 3 (Operand.tmp 23) (Operand.const (Value.int IntKind.i64 1)) 3) 3 rfl rfl rfl rfl rfl (by kernel_rfl) (by kernel_rfl) (by kernel_rfl) (fun _ _ _ h=>h) ?yu3x10 (by assumption) ?ru3x10
  case yu3x10=>(intro w' hSw;(try dsimp only at hSw);go_simp;try (with_reducible rfl))
  simp only [zSa,zSb,zSc]
  refine take_op (v:=?vu3x11) 11 (Op.build 60 #[(0,Operand.tmp 19),(1,Operand.tmp 24)]) 60 rfl rfl rfl rfl rfl (by kernel_rfl) (by kernel_rfl) (by kernel_rfl) (fun _ _ _ h=>h) ?yu3x11 (by assumption) ?ru3x11
  case yu3x11=>(intro w' hSw;(try dsimp only at hSw);go_simp;try (with_reducible rfl))
  simp only [zSa,zSb,zSc]
  refine' take_run 12 (Op.box 60 (Operand.tmp 25)) 25 (by kernel_rfl) rfl rfl rfl rfl rfl ?eu3x12 ?su3x12 (fun hHeld=>?ru3x12)
  case eu3x12=>(go_simp;try (first | with_reducible rfl | exact ⟨rfl,rfl⟩))
  case su3x12=>((try dsimp only);first | exact ⟨b1.cell_ 0 rfl,b1.cell_ 1 rfl⟩ | exact ⟨(b1.alloc _).cell_ 0 rfl,(b1.alloc _).cell_ 1 rfl⟩)
  simp only [zSa,zSb,zSc]
  refine take_op (v:=?vu3x13) 13 (Op.assign (Operand.tmp 26)) 25 rfl rfl rfl rfl rfl (by kernel_rfl) (by kernel_rfl) (by kernel_rfl) (fun _ _ _ h=>h) ?yu3x13 (by assumption) ?ru3x13
  case yu3x13=>(intro w' hSw;(try dsimp only at hSw);go_simp;try (with_reducible rfl))
  simp only [zSa,zSb,zSc]
  refine take_op (v:=?vu3x14) 14 (Op.assign (Operand.const (Value.int IntKind.i64 0))) 26 rfl rfl rfl rfl rfl (by kernel_rfl) (by kernel_rfl) (by kernel_rfl) (fun _ _ _ h=>h) ?yu3x14 (by assumption) ?ru3x14
  case yu3x14=>(intro w' hSw;(try dsimp only at hSw);go_simp;try (with_reducible rfl))
  simp only [zSa,zSb,zSc]
  refine wpAnyH_done (by kernel_rfl) ?_ _
  have hwz:IntKind.i64.wrap ((sz:Int) + 1) = ((sz + 1:Nat):Int):=by rw [IntWalk.i64_in _ (by omega)];rfl
  rw [hwz]
  have bN:=(Blk.new w1 60 #[.iface 71 (.agg #[.iface T x]),.int .i64 ((sz + 1:Nat):Int)]).drew
  have HBN:=(hb1.alloc hb1.size (.cells #[.iface 71 (.agg #[.iface T x]),.int .i64 ((sz + 1:Nat):Int)] 60)).drew
  have hvN:NdV (w1.alloc (.cells #[.iface 71 (.agg #[.iface T x]),.int .i64 ((sz + 1:Nat):Int)] 60)).drew (fun _=>True) n (.iface T x):=hv.keep (w':=(w1.alloc (.cells #[.iface 71 (.agg #[.iface T x]),.int .i64 ((sz + 1:Nat):Int)] 60)).drew) (fun b _ hbl=>⟨(Below.heap_alloc _ _ b (Nat.lt_of_lt_of_le hbl hb1.size)).trans (hb1.block b hbl),trivial⟩) _ _
  generalize (w1.alloc (.cells #[.iface 71 (.agg #[.iface T x]),.int .i64 ((sz + 1:Nat):Int)] 60)).drew = w2 at *
  clear hwz hHeld
  go_wp2_with fail
  go_ret2
  exact ⟨w1.heap.size,rfl,⟨⟨_,bN,⟨_,rfl,hvN⟩⟩,h2,by simp only [szN];omega,by omega⟩,HBN⟩
end SieW
end Go.Proofs.YtnpncpoiiikafaaGreatDoor
namespace Go.Proofs.YtnpncpoiiikafaaGreatDoor
open Go.RowKit
namespace SpanW
def norm (p:R):R:=if p.2 < p.1 then (1,0) else p
def foldR (g:R → R → R):List R → R
  | []=>(1,0)
  | p :: l=>norm (l.foldl g p)
theorem rd_at {w:World} {B:Nat} {A:Option Addr} {n:Nat} {l:List R} (h:Rd w B 2 A n (cells l)) (hn:0 < n) :
    ∃ b o,A = some ⟨b,o,none⟩∧b < B∧∀ k (hk:k < l.length),w.cell? ⟨b,o + k * 2,none⟩ = some (.int .i64 l[k].1)∧w.cell? ⟨b,o + k * 2 + 1,none⟩ = some (.int .i64 l[k].2):=by
  obtain ⟨b,o,rfl,hb,hc⟩:=h.at_ hn
  refine ⟨b,o,rfl,hb,fun k hk=>?_⟩
  have hlen:=cells_len l
  obtain ⟨h1,h2⟩:=cells_get l k hk
  have g1:=hc (k * 2) (by omega)
  have g2:=hc (k * 2 + 1) (by omega)
  rw [List.getElem?_eq_getElem (by omega)] at h1 h2
  simp only [Nat.mul_comm 2 k] at h1 h2
  rw [h1] at g1
  rw [h2] at g2
  exact ⟨g1,g2⟩
theorem foldl_snoc (g:R → R → R) (p:R) (l:List R) (k:Nat) (hk:k < l.length):(l.take (k + 1)).foldl g p = g ((l.take k).foldl g p) l[k]:=by
  rw [List.take_succ_eq_append_getElem hk,List.foldl_append];rfl
set_option maxHeartbeats 1000000 in
theorem fold_narrow (A:Option Addr) (n c:Nat) (l:List R) (w:World) (h:Rd w w.heap.size 2 A n (cells l)) (hnc:n≤c) (hcm:c≤9223372036854775807) :
    Calls Tryz.prog 93 #[.slice A n c,.func (.func 94) #[] #[]] w fun e w'=>e = .returned (rv (foldR narrow l))∧Below w.heap.size w w':=by
  have hl:l.length = n:=by have:=h.len;rw [cells_len] at this;omega
  by_cases hn:n = 0
  · subst hn
    obtain rfl:l = []:=List.eq_nil_of_length_eq_zero hl
    go_enter Tryz.func93,Tryz.ntmps93
    go_wp2_with fail
    refine (none_any _).mono ?_
    rintro e w1 ⟨rfl,hb⟩
    have hB0:Blk w1 w.heap.size 93 #[.int .i64 0,.int .i64 0]:=(Blk.new w _ _).below hb (by simp)
    have d0:w1.cell? ⟨w.heap.size,0,none⟩ = some (.int .i64 0):=hB0.cell_ 0 rfl
    have d1:w1.cell? ⟨w.heap.size,1,none⟩ = some (.int .i64 0):=hB0.cell_ 1 rfl
    have f0:=hB0.frozen 0
    have f1:=hB0.frozen 1
    have HB:=Lib.hid hB0
    clear hB0
    go_wp2
    refine bodyPost_ret (v:=rng 1 0) ?_ rfl ⟨rfl,(by first | exact Below.refl _ _ | (repeat (first | exact Below.refl _ _ | assumption | refine Below.drew ?_ | refine Below.drewN_ ?_ _ | refine Below.alloc ?_ (by first | exact Nat.le_refl _ | (simp;done) | (simp;omega) | omega) _ | refine Below.setCell ?_ (by first | exact Nat.le_refl _ | (simp;done) | (simp;omega) | omega) _ | (refine Below.trans ?_ (Below.mono (by assumption) (by first | exact Nat.le_refl _ | (simp;done) | (simp;omega) | omega))))))⟩
    simp [results,Tryz.results93,go_sem,d0,d1]
  · obtain ⟨b,o,rfl,hb,hcell⟩:=rd_at h (by omega)
    obtain ⟨p,l,rfl⟩:∃ p l',l = p :: l':=by cases l with | nil=>simp at hl;omega | cons p l=>exact ⟨p,l,rfl⟩
    have c0:w.cell? ⟨b,o,none⟩ = some (.int .i64 p.1):=by have h0:=(hcell 0 (by simp)).1;simp only [Nat.zero_mul,Nat.add_zero,List.getElem_cons_zero] at h0;exact h0
    have c1:w.cell? ⟨b,o + 1,none⟩ = some (.int .i64 p.2):=by have h0:=(hcell 0 (by simp)).2;simp only [Nat.zero_mul,Nat.add_zero,List.getElem_cons_zero] at h0;exact h0
    have hn0:((n:Int) == 0) = false:=by simp;omega
    have hn1:(1:Int)≤(n:Int):=by omega
    have hn2:(n:Int)≤9223372036854775807:=by omega
    have hl1:l.length≤n - 1:=by simp at hl;omega
    have hl2:n - 1≤l.length:=by simp at hl;omega
    have HC:=Lib.hid hcell
    clear hl hcell h
    by_cases hc1:c = 1
    all_goals
      go_enter Tryz.func93,Tryz.ntmps93
      go_wp2_with (fail)
      go_loopw [18] (fun i wr=>∃ (k:Nat) (q:R),k≤n - 1∧i = .int .i64 k∧q = (l.take k).foldl narrow p∧Blk wr w.heap.size 93 #[.int .i64 0,.int .i64 0]∧Blk wr (w.heap.size + 1) 172 #[.int .i64 q.1,.int .i64 q.2]∧Below w.heap.size w wr)
        (fun i _=>n - 1 - (intOf i).toNat)
      case atStart=>exact ⟨0,p,by omega,rfl,rfl,(Blk.new _ _ _).alloc _,by simpa using Blk.new (w.alloc _) _ _,(by first | exact Below.refl _ _ | (repeat (first | exact Below.refl _ _ | assumption | refine Below.drew ?_ | refine Below.drewN_ ?_ _ | refine Below.alloc ?_ (by first | exact Nat.le_refl _ | (simp;done) | (simp;omega) | omega) _ | refine Below.setCell ?_ (by first | exact Nat.le_refl _ | (simp;done) | (simp;omega) | omega) _ | (refine Below.trans ?_ (Below.mono (by assumption) (by first | exact Nat.le_refl _ | (simp;done) | (simp;omega) | omega))))))⟩
      case round =>
        obtain ⟨k,q,hk,rfl,hq,hB0,hB1,hbw⟩:=hrel
        have HQ:=Lib.hid hq
        clear hq
        have d0:wr.cell? ⟨w.heap.size + 1,0,none⟩ = some (.int .i64 q.1):=hB1.cell_ 0 rfl
        have d1:wr.cell? ⟨w.heap.size + 1,1,none⟩ = some (.int .i64 q.2):=hB1.cell_ 1 rfl
        have f0:=hB1.frozen 0
        have f1:=hB1.frozen 1
        have hz:w.heap.size + 1 < wr.heap.size:=hB1.lt
        have hy:c = 1 → ¬ k < n - 1:=by omega
        by_cases hlt:k < n - 1
        · first
          | (exfalso;exact hy hc1 hlt)
          | (have hkl:k < l.length:=by omega
             have e0:wr.cell? ⟨b,o + 2 + k * 2,none⟩ = some (.int .i64 l[k].1):=by
               rw [hbw.cell (p:=⟨b,_,none⟩) hb,show o + 2 + k * 2 = o + (k + 1) * 2 by omega];exact (HC.out (k + 1) (by simp;omega)).1
             have e1:wr.cell? ⟨b,o + 2 + k * 2 + 1,none⟩ = some (.int .i64 l[k].2):=by
               rw [hbw.cell (p:=⟨b,_,none⟩) hb,show o + 2 + k * 2 = o + (k + 1) * 2 by omega];exact (HC.out (k + 1) (by simp;omega)).2
             go_wp2_with fail
             refine (narrow_any q l[k] _).mono ?_
             rintro e w1 ⟨rfl,hb1⟩
             have HB:Below w.heap.size w w1:=(hbw.alloc hbw.size _).trans (hb1.mono (by simp;omega))
             have g1:Blk w1 (w.heap.size + 1) 172 #[.int .i64 q.1,.int .i64 q.2]:=(hB1.alloc _).below hb1 (by simp;omega)
             have g0:Blk w1 w.heap.size 93 #[.int .i64 0,.int .i64 0]:=(hB0.alloc _).below hb1 (by simp;omega)
             have d0:w1.cell? ⟨w.heap.size + 1,0,none⟩ = some (.int .i64 q.1):=g1.cell_ 0 rfl
             have d1:w1.cell? ⟨w.heap.size + 1,1,none⟩ = some (.int .i64 q.2):=g1.cell_ 1 rfl
             have f0:=g1.frozen 0
             have f1:=g1.frozen 1
             have G1:=Lib.hid g1
             clear g1
             go_wp2
             go_roundw
             case rel=>exact ⟨k + 1,narrow q l[k],by omega,by go_num,by rw [foldl_snoc _ _ _ _ hkl,HQ.out],(g0.far (by simp) _).far (by simp) _,by simpa using (G1.out.set 0 _).set 1 _,(HB.setCell (by simp) _).setCell (by simp) _⟩
             case measure=>simp [intOf];omega)
        · have HK:Hid (q = l.foldl narrow p):=by rw [HQ.out,List.take_of_length_le (by omega)];rfl
          go_wp2_with fail
          refine (empty_any _ _ _).mono ?_
          rintro e w1 ⟨rfl,hb1⟩
          have HB:Below w.heap.size w w1:=hbw.trans (hb1.mono (by omega))
          have g1:Blk w1 (w.heap.size + 1) 172 #[.int .i64 q.1,.int .i64 q.2]:=hB1.below hb1 (by omega)
          have g0:Blk w1 w.heap.size 93 #[.int .i64 0,.int .i64 0]:=hB0.below hb1 (by omega)
          have d0:w1.cell? ⟨w.heap.size + 1,0,none⟩ = some (.int .i64 q.1):=g1.cell_ 0 rfl
          have d1:w1.cell? ⟨w.heap.size + 1,1,none⟩ = some (.int .i64 q.2):=g1.cell_ 1 rfl
          have e0:w1.cell? ⟨w.heap.size,0,none⟩ = some (.int .i64 0):=g0.cell_ 0 rfl
          have e1:w1.cell? ⟨w.heap.size,1,none⟩ = some (.int .i64 0):=g0.cell_ 1 rfl
          have f0:=g0.frozen 0
          have f1:=g0.frozen 1
          have G1:=Lib.hid g1
          have G0:=Lib.hid g0
          clear g1 g0
          have hz1:w.heap.size + 1 < w1.heap.size:=by have:=hb1.size;omega
          by_cases hE:q.2 < q.1
          · have hEB:emptyB q.1 q.2 = true:=by simpa [emptyB] using hE
            go_wp2_with fail
            refine (none_any _).mono ?_
            rintro e w2 ⟨rfl,hb2⟩
            have HB2:Below w.heap.size w w2:=HB.trans (hb2.mono (by omega))
            have g0:=G0.out.below hb2 (by omega)
            have d0:w2.cell? ⟨w.heap.size,0,none⟩ = some (.int .i64 0):=g0.cell_ 0 rfl
            have d1:w2.cell? ⟨w.heap.size,1,none⟩ = some (.int .i64 0):=g0.cell_ 1 rfl
            have f0:=g0.frozen 0
            have f1:=g0.frozen 1
            clear g0
            go_wp2
            refine bodyPost_ret (v:=rv (foldR narrow (p :: l))) ?_ rfl ⟨rfl,(HB2.setCell (by simp) _).setCell (by simp) _⟩
            simp only [foldR,← HK.out,norm,if_pos hE]
            simp [results,Tryz.results93,go_sem,d0,d1]
          · have hEB:emptyB q.1 q.2 = false:=by simpa [emptyB] using hE
            go_wp2
            refine bodyPost_ret (v:=rv (foldR narrow (p :: l))) ?_ rfl ⟨rfl,(HB.setCell (by simp) _).setCell (by simp) _⟩
            rw [show foldR narrow (p :: l) = q by simp only [foldR,← HK.out,norm];rw [if_neg (by omega)]]
            simp [results,Tryz.results93,go_sem,e0,e1]
end SpanW
end Go.Proofs.YtnpncpoiiikafaaGreatDoor
namespace Go.Proofs.YtnpncpoiiikafaaGreatDoor
open Go.RowKit
namespace SpanW
set_option maxHeartbeats 1000000 in
theorem both_any (A:Option Addr) (n c:Nat) (l:List R) (w:World) (h:Rd w w.heap.size 2 A n (cells l)) (hnc:n≤c) (hcm:c≤9223372036854775807) :
    Calls Tryz.prog 71 #[.slice A n c] w fun e w'=>e = .returned (rv (foldR narrow l))∧Below w.heap.size w w':=by
  go_enter Tryz.func71,Tryz.ntmps71
  go_wp2_with fail
  refine (fold_narrow A n c l _ ((h.below (by first | exact Below.refl _ _ | (repeat (first | exact Below.refl _ _ | assumption | refine Below.drew ?_ | refine Below.drewN_ ?_ _ | refine Below.alloc ?_ (by first | exact Nat.le_refl _ | (simp;done) | (simp;omega) | omega) _ | refine Below.setCell ?_ (by first | exact Nat.le_refl _ | (simp;done) | (simp;omega) | omega) _ | (refine Below.trans ?_ (Below.mono (by assumption) (by first | exact Nat.le_refl _ | (simp;done) | (simp;omega) | omega))))))).more (by simp)) hnc hcm).mono ?_
  rintro e w1 ⟨rfl,hb⟩
  have g0:Blk w1 w.heap.size 93 #[.int .i64 0,.int .i64 0]:=(Blk.new w _ _).below hb (by simp)
  have d0:w1.cell? ⟨w.heap.size,0,none⟩ = some (.int .i64 0):=g0.cell_ 0 rfl
  have d1:w1.cell? ⟨w.heap.size,1,none⟩ = some (.int .i64 0):=g0.cell_ 1 rfl
  have f0:=g0.frozen 0
  have f1:=g0.frozen 1
  clear g0
  go_wp2
  refine bodyPost_ret (v:=rv (foldR narrow l)) ?_ rfl ⟨rfl,(by first | exact Below.refl _ _ | (repeat (first | exact Below.refl _ _ | assumption | refine Below.drew ?_ | refine Below.drewN_ ?_ _ | refine Below.alloc ?_ (by first | exact Nat.le_refl _ | (simp;done) | (simp;omega) | omega) _ | refine Below.setCell ?_ (by first | exact Nat.le_refl _ | (simp;done) | (simp;omega) | omega) _ | (refine Below.trans ?_ (Below.mono (by assumption) (by first | exact Nat.le_refl _ | (simp;done) | (simp;omega) | omega))))))⟩
  simp [results,Tryz.results71,go_sem,d0,d1]
end SpanW
end Go.Proofs.YtnpncpoiiikafaaGreatDoor
namespace Go.Proofs.YtnpncpoiiikafaaGreatDoor
open Go.RowKit
namespace SpanW
def full (l:List R):List R:=l.filter fun p=>!emptyB p.1 p.2
theorem full_len (l:List R) (k:Nat):(full (l.take k)).length≤k:=by
  unfold full
  have h1:=List.length_filter_le (fun p:R=>!emptyB p.1 p.2) (l.take k)
  have h2:(l.take k).length≤k:=List.length_take_le _ _
  omega
end SpanW
end Go.Proofs.YtnpncpoiiikafaaGreatDoor
