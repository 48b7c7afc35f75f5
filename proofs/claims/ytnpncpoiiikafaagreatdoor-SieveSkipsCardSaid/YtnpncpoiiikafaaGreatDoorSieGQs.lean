/- SieG -/
import Derived.Test.YtnpncpoiiikafaaGreatDoorSieEQs
import Derived.Test.YtnpncpoiiikafaaGreatDoorSieQQs
import Derived.Test.YtnpncpoiiikafaaGreatDoorWanGQs
import Derived.Test.YtnpncpoiiikafaaGreatDoorMemQs
set_option linter.unusedVariables false
set_option linter.unusedSimpArgs false
set_option linter.unnecessarySimpa false
namespace Go.Proofs.YtnpncpoiiikafaaGreatDoor
open Go.RowKit
namespace SieW
open WanW (hexL decL)
theorem hexL_len (s:List UInt8):(hexL s).length = 2 * s.length:=by
  induction s with
  | nil=>rfl
  | cons a s ih=>simp [hexL,List.flatMap_cons] at ih ⊢;omega
theorem decL_len (n:Nat) (h:n≤1000000001):(decL n).length≤10:=by
  have h1:=num_dec n h
  unfold WanW.numV at h1
  split at h1
  · simp at h1
  · next hc=>omega
theorem rngL_len (a b:Int) (ha:0≤a∧a≤1000000001) (hb:0≤b∧b≤1000000001):(rngL a b).length≤21:=by
  have h1:=decL_len a.toNat (by omega)
  have h2:=decL_len b.toNat (by omega)
  simp only [rngL,List.length_append,List.length_cons]
  omega
mutual
theorem shN_len:∀ (n:Nd) (s:Nat),wfN n → (shN s n).length + 10≤2100 * szN n
  | .within k lo hi,s,hw=>by
    have h1:=rngL_len lo hi ⟨hw.2.1,hw.2.2.1⟩ hw.2.2.2
    have h2:(kwS k).length≤4:=by unfold kwS;split <;> (try split) <;> decide
    simp only [shN,szN,List.length_append,List.length_cons]
    omega
  | .has x,s,hw=>by
    have h1:=hexL_len x
    have h2:x.length≤1000:=hw.2
    have h3:sHas.length = 3:=rfl
    simp only [shN,szN,List.length_append,List.length_cons]
    omega
  | .all,s,hw=>by
    have h3:sAll.length = 3:=rfl
    simp only [shN,szN]
    omega
  | .not n,s,hw=>by
    have ih:=shN_len n 2 hw
    have h3:sNot.length = 3:=rfl
    simp only [shN,szN,List.length_append,List.length_cons]
    omega
  | .row o [],s,hw=>by
    have:=hw.1
    simp at this
  | .row o (a :: l),s,hw=>by
    have h1:=shN_len a (ownS o) hw.2.1
    have h2:=shR_len o l hw.2.2.2
    have h3:1≤l.length:=by have:=hw.1;simp at this;omega
    simp only [shN,szN,szL]
    split
    · simp only [List.length_cons,List.length_append,List.length_nil];omega
    · simp only [List.length_append];omega
theorem shR_len (o:Bool):∀ (l:List Nd),wfL o l → (shR o l).length + 5 * l.length≤2100 * szL l
  | [],hw=>by simp [shR]
  | a :: l,hw=>by
    have h1:=shN_len a (ownS o) hw.1
    have h2:=shR_len o l hw.2.2
    have h3:(sepW o).length≤5:=by cases o <;> decide
    simp only [shR,szL,List.length_append,List.length_cons]
    omega
end
theorem shR_tail (o:Bool) (l:List Nd):shR o l = Lib.joinTail (sepW o) (l.map (shN (ownS o))):=by
  induction l with
  | nil=>rfl
  | cons a l ih =>
    rw [shR,ih]
    simp [Lib.joinTail]
def strsS (l:List (List UInt8)):List Value:=l.map str
theorem strsS_one (l:List (List UInt8)):∀ u ∈ strsS l,u.oneCell' = true:=by
  intro u hu
  obtain ⟨b,_,rfl⟩:=List.mem_map.1 hu
  rfl
theorem El_strS:El Tryz.prog 107 9 1 16:=El.mk' Tryz.underlying107 (z:=.string ByteArray.empty) (by kernel_rfl) rfl (by decide)
theorem joinS_any (l:List (List UInt8)) (sep:List UInt8) (A:Option Addr) (n c base:Nat) (w:World) (h:Own w base 9 1 A n c (strsS l)) (hn:0 < n) (hl:l.length≤1000) (hlen:(Lib.join l sep).length≤10000000) :
    Calls Tryz.prog 50 #[.slice A n c,str sep] w fun e w'=>e = .returned (str (Lib.join l sep))∧Below w.heap.size w w':=by
  have hln:=h.len
  simp only [strsS,List.length_map,Nat.mul_one] at hln
  have hcap:=h.cap
  rcases h.shape with ⟨_,h0,_⟩ | ⟨g,rfl,_,hg,_,_⟩
  · omega
  · have hxs:(l.map fun x=>(⟨x.toArray⟩:ByteArray)).map (·.data.toList) = l:=by simp [Function.comp_def]
    have hc2:∀ (j:Nat) (x:ByteArray),(l.map fun x=>(⟨x.toArray⟩:ByteArray))[j]? = some x → w.cell? ⟨g,0 + j,none⟩ = some (.string x):=fun j x hj=>by
      rw [Nat.zero_add]
      refine own_cell h j ?_
      simp only [strsS,List.getElem?_map] at hj ⊢
      cases hq:l[j]? with
      | none=>rw [hq] at hj;cases hj
      | some y=>rw [hq] at hj;cases hj;rfl
    have C:=Tryz.strings_Join g 0 c (l.map fun x=>⟨x.toArray⟩) ⟨sep.toArray⟩ w hc2 hg (by rw [List.length_map];omega) (by rw [List.length_map];omega) (by rw [hxs];show (Lib.join l sep).length≤_;omega)
    rw [hxs,List.length_map,hln] at C
    exact C
theorem ba_cat2 (a b:Array UInt8):((⟨a⟩:ByteArray) ++ ⟨b⟩) = ⟨a ++ b⟩:=by
  apply ByteArray.ext
  simp
def ShownC (v:Value) (s:Nat) (t:List UInt8) (w0:World):Prop:=∀ w',Below w0.heap.size w0 w' → Calls Tryz.prog 25 #[v,.int .i64 s] w' fun e w2=>e = .returned (str t)∧Below w'.heap.size w' w2
theorem tw_1 (x:Value) (w:World):(Instr.typeAssert (.iface 95 x) 53 95 true).run Tryz.prog w = .ok (.tuple #[x,.bool true]) w:=by kernel_rfl
theorem th_1 (x:Value) (w:World):(Instr.typeAssert (.iface 105 x) 53 95 true).run Tryz.prog w = .ok (.tuple #[.agg #[.string ⟨#[]⟩,.int .i64 0,.int .i64 0],.bool false]) w:=by kernel_rfl
theorem th_2 (x:Value) (w:World):(Instr.typeAssert (.iface 105 x) 53 105 true).run Tryz.prog w = .ok (.tuple #[x,.bool true]) w:=by kernel_rfl
theorem tn_1 (x:Value) (w:World):(Instr.typeAssert (.iface 71 x) 53 95 true).run Tryz.prog w = .ok (.tuple #[.agg #[.string ⟨#[]⟩,.int .i64 0,.int .i64 0],.bool false]) w:=by kernel_rfl
theorem tn_2 (x:Value) (w:World):(Instr.typeAssert (.iface 71 x) 53 105 true).run Tryz.prog w = .ok (.tuple #[.agg #[.string ⟨#[]⟩],.bool false]) w:=by kernel_rfl
theorem tn_3 (x:Value) (w:World):(Instr.typeAssert (.iface 71 x) 53 71 true).run Tryz.prog w = .ok (.tuple #[x,.bool true]) w:=by kernel_rfl
theorem tr_1 (x:Value) (w:World):(Instr.typeAssert (.iface 102 x) 53 95 true).run Tryz.prog w = .ok (.tuple #[.agg #[.string ⟨#[]⟩,.int .i64 0,.int .i64 0],.bool false]) w:=by kernel_rfl
theorem tr_2 (x:Value) (w:World):(Instr.typeAssert (.iface 102 x) 53 105 true).run Tryz.prog w = .ok (.tuple #[.agg #[.string ⟨#[]⟩],.bool false]) w:=by kernel_rfl
theorem tr_3 (x:Value) (w:World):(Instr.typeAssert (.iface 102 x) 53 71 true).run Tryz.prog w = .ok (.tuple #[.agg #[.nilIface],.bool false]) w:=by kernel_rfl
theorem tr_4 (x:Value) (w:World):(Instr.typeAssert (.iface 102 x) 53 102 true).run Tryz.prog w = .ok (.tuple #[x,.bool true]) w:=by kernel_rfl
theorem ta_1 (x:Value) (w:World):(Instr.typeAssert (.iface 99 x) 53 95 true).run Tryz.prog w = .ok (.tuple #[.agg #[.string ⟨#[]⟩,.int .i64 0,.int .i64 0],.bool false]) w:=by kernel_rfl
theorem ta_2 (x:Value) (w:World):(Instr.typeAssert (.iface 99 x) 53 105 true).run Tryz.prog w = .ok (.tuple #[.agg #[.string ⟨#[]⟩],.bool false]) w:=by kernel_rfl
theorem ta_3 (x:Value) (w:World):(Instr.typeAssert (.iface 99 x) 53 71 true).run Tryz.prog w = .ok (.tuple #[.agg #[.nilIface],.bool false]) w:=by kernel_rfl
theorem ta_4 (x:Value) (w:World):(Instr.typeAssert (.iface 99 x) 53 102 true).run Tryz.prog w = .ok (.tuple #[.agg #[.string ⟨#[]⟩,.slice none 0 0],.bool false]) w:=by kernel_rfl
theorem tr_5 (x:Value) (w:World):(Instr.typeAssert (.iface 102 x) 53 99 true).run Tryz.prog w = .ok (.tuple #[.agg #[],.bool false]) w:=by kernel_rfl
theorem tn_5 (x:Value) (w:World):(Instr.typeAssert (.iface 71 x) 53 99 true).run Tryz.prog w = .ok (.tuple #[.agg #[],.bool false]) w:=by kernel_rfl
theorem ta_5 (x:Value) (w:World):(Instr.typeAssert (.iface 99 x) 53 99 true).run Tryz.prog w = .ok (.tuple #[x,.bool true]) w:=by kernel_rfl
theorem th_5 (x:Value) (w:World):(Instr.typeAssert (.iface 105 x) 53 99 true).run Tryz.prog w = .ok (.tuple #[.agg #[],.bool false]) w:=by kernel_rfl
theorem th_3 (x:Value) (w:World):(Instr.typeAssert (.iface 105 x) 53 71 true).run Tryz.prog w = .ok (.tuple #[.agg #[.nilIface],.bool false]) w:=by kernel_rfl
theorem th_4 (x:Value) (w:World):(Instr.typeAssert (.iface 105 x) 53 102 true).run Tryz.prog w = .ok (.tuple #[.agg #[.string ⟨#[]⟩,.slice none 0 0],.bool false]) w:=by kernel_rfl
set_option maxRecDepth 100000 in
set_option maxHeartbeats 4000000 in
theorem within_shown (k:Nat) (lo hi:Int) (s:Nat) (w:World) (hW:WanW.Wo w) (hk:wfN (.within k lo hi)) :
    Calls Tryz.prog 25 #[.iface 95 (.agg #[str (kwS k),.int .i64 lo,.int .i64 hi]),.int .i64 s] w fun e w'=>e = .returned (str (shN s (.within k lo hi)))∧Below w.heap.size w w':=by
  obtain ⟨k2,l0,l1,h0,h1⟩:=hk
  have HB:=(Below.refl w.heap.size w).alloc (Nat.le_refl _) (.cells #[str (kwS k),.int .i64 lo,.int .i64 hi] 95)
  have g1:=Blk.new w 95 #[str (kwS k),.int .i64 lo,.int .i64 hi]
  have hg1:=g1.lt
  have hk4:(kwS k).length≤4:=by unfold kwS;split <;> (try split) <;> decide
  have hl1:=decL_len lo.toNat (by omega)
  have hl2:=decL_len hi.toNat (by omega)
  have t1:=tw_1
  go_enter Tryz.func25,Tryz.ntmps25
  go_wp2_with fail
  generalize w.alloc (.cells #[str (kwS k),.int .i64 lo,.int .i64 hi] 95) = w1 at *
  have hz1:=HB.size
  have ha1:¬ 9223372036854775807 < (kwS k).length + 1:=by omega
  have ha2:¬ 9223372036854775807 < (kwS k).length + 1 + (decL lo.toNat).length:=by omega
  have ha3:¬ 9223372036854775807 < (kwS k).length + 1 + (decL lo.toNat).length + 1:=by omega
  have ha4:¬ 9223372036854775807 < (kwS k).length + 1 + (decL lo.toNat).length + 1 + (decL hi.toNat).length:=by omega
  refine wp_region_held_drew (S:=(fun w'=>w'.cell? ⟨w.heap.size,0,none⟩ = some (str (kwS k))∧w'.cell? ⟨w.heap.size,1,none⟩ = some (.int .i64 lo)∧w'.cell? ⟨w.heap.size,2,none⟩ = some (.int .i64 hi))) (by kernel_rfl) ?_ (fun hHeld=>?_)
  · replace g1:=Blk.drew g1;replace HB:=Below.drew HB;(try dsimp only);exact ⟨g1.cell_ 0 rfl,g1.cell_ 1 rfl,g1.cell_ 2 rfl⟩
  replace g1:=Blk.drew g1
  replace HB:=Below.drew HB
  have zHB:=HB.size
  refine take_op (v:=?vu1x0) 0 (Op.fieldAddr 95 (Operand.tmp 5) 0) 0 rfl rfl rfl rfl rfl (by kernel_rfl) (by kernel_rfl) (by kernel_rfl) (fun _ _ _ h=>h) ?yu1x0 (by assumption) ?ru1x0
  case yu1x0=>(intro w' hSw;(try dsimp only at hSw);go_simp;try (with_reducible rfl))
  simp only [zSa,zSb,zSc]
  refine take_op (v:=?vu1x1) 1 (Op.load 9 (Operand.tmp 18)) 9 rfl rfl rfl rfl rfl (by kernel_rfl) (by kernel_rfl) (by kernel_rfl) (fun _ _ _ h=>h) ?yu1x1 (by assumption) ?ru1x1
  case yu1x1=>(intro w' hSw;(try dsimp only at hSw);go_simp;try (with_reducible rfl))
  simp only [zSa,zSb,zSc]
  refine take_op (v:=?vu1x2) 2 (Op.binOp BinOp.add 9 (Operand.tmp 19) (Operand.const (Value.string { data:=#[32] })) 9) 9 rfl rfl rfl rfl rfl (by kernel_rfl) (by kernel_rfl) (by kernel_rfl) (fun _ _ _ h=>h) ?yu1x2 (by assumption) ?ru1x2
  case yu1x2=>(intro w' hSw;(try dsimp only at hSw);go_simp;try (with_reducible rfl))
  simp only [zSa,zSb,zSc]
  refine take_op (v:=?vu1x3) 3 (Op.fieldAddr 95 (Operand.tmp 5) 1) 0 rfl rfl rfl rfl rfl (by kernel_rfl) (by kernel_rfl) (by kernel_rfl) (fun _ _ _ h=>h) ?yu1x3 (by assumption) ?ru1x3
  case yu1x3=>(intro w' hSw;(try dsimp only at hSw);go_simp;try (with_reducible rfl))
  simp only [zSa,zSb,zSc]
  refine take_op (v:=?vu1x4) 4 (Op.fieldAddr 93 (Operand.tmp 21) 0) 0 rfl rfl rfl rfl rfl (by kernel_rfl) (by kernel_rfl) (by kernel_rfl) (fun _ _ _ h=>h) ?yu1x4 (by assumption) ?ru1x4
  case yu1x4=>(intro w' hSw;(try dsimp only at hSw);go_simp;try (with_reducible rfl))
  simp only [zSa,zSb,zSc]
  refine take_op (v:=?vu1x5) 5 (Op.load 3 (Operand.tmp 22)) 3 rfl rfl rfl rfl rfl (by kernel_rfl) (by kernel_rfl) (by kernel_rfl) (fun _ _ _ h=>h) ?yu1x5 (by assumption) ?ru1x5
  case yu1x5=>(intro w' hSw;(try dsimp only at hSw);go_simp;try (with_reducible rfl))
  simp only [zSa,zSb,zSc]
  refine take_op (v:=?vu1x9) 9 (Op.fieldAddr 95 (Operand.tmp 5) 1) 0 rfl rfl rfl rfl rfl (by kernel_rfl) (by kernel_rfl) (by kernel_rfl) (fun _ _ _ h=>h) ?yu1x9 (by assumption) ?ru1x9
  case yu1x9=>(intro w' hSw;(try dsimp only at hSw);go_simp;try (with_reducible rfl))
  simp only [zSa,zSb,zSc]
  refine take_op (v:=?vu1x10) 10 (Op.fieldAddr 93 (Operand.tmp 27) 1) 0 rfl rfl rfl rfl rfl (by kernel_rfl) (by kernel_rfl) (by kernel_rfl) (fun _ _ _ h=>h) ?yu1x10 (by assumption) ?ru1x10
  case yu1x10=>(intro w' hSw;(try dsimp only at hSw);go_simp;try (with_reducible rfl))
  simp only [zSa,zSb,zSc]
  refine take_op (v:=?vu1x11) 11 (Op.load 3 (Operand.tmp 28)) 3 rfl rfl rfl rfl rfl (by kernel_rfl) (by kernel_rfl) (by kernel_rfl) (fun _ _ _ h=>h) ?yu1x11 (by assumption) ?ru1x11
  case yu1x11=>(intro w' hSw;(try dsimp only at hSw);go_simp;try (with_reducible rfl))
  simp only [zSa,zSb,zSc]
  refine wpAnyH_ready (rs:=[6]) (by kernel_rfl) (by simp) (AllReadyH.cons rfl (fun K6 hK6=>?ku1x6) AllReadyH.nil)
  refine take_calls 6 48 [Operand.tmp 23] #[3] rfl rfl (by kernel_rfl) (fun args w=>run_enter Tryz.func48 (by kernel_rfl) rfl args w) ?_
  refine (WanW.itoa_any lo l0 l1 _ (hW.below HB)).mono ?_
  rintro e w6 ⟨rfl,hb6⟩
  refine ⟨_,rfl,?_⟩
  have z6:=hb6.size
  try simp only [World.size_drew] at z6
  replace g1:=Blk.below g1 hb6 (by first | exact Nat.le_refl _ | (simp only [World.size_alloc,World.size_setCell,World.size_drew] at *;omega) | omega)
  replace HB:=HB.trans (hb6.mono (by first | exact HB.size | omega))
  have zHB6:=HB.size
  refine hK6.out _ _ ?su1x6 (fun hHeld=>?ru1x6)
  case su1x6=>((try dsimp only);exact ⟨g1.cell_ 0 rfl,g1.cell_ 1 rfl,g1.cell_ 2 rfl⟩)
  try simp only [zSa,zSb,zSc]
  refine take_op (v:=?vu1x7) 7 (Op.binOp BinOp.add 9 (Operand.tmp 20) (Operand.tmp 24) 9) 9 rfl rfl rfl rfl rfl (by kernel_rfl) (by kernel_rfl) (by kernel_rfl) (fun _ _ _ h=>h) ?yu1x7 (by assumption) ?ru1x7
  case yu1x7=>(intro w' hSw;(try dsimp only at hSw);go_simp;try (with_reducible rfl))
  simp only [zSa,zSb,zSc]
  refine take_op (v:=?vu1x8) 8 (Op.binOp BinOp.add 9 (Operand.tmp 25) (Operand.const (Value.string { data:=#[45] })) 9) 9 rfl rfl rfl rfl rfl (by kernel_rfl) (by kernel_rfl) (by kernel_rfl) (fun _ _ _ h=>h) ?yu1x8 (by assumption) ?ru1x8
  case yu1x8=>(intro w' hSw;(try dsimp only at hSw);go_simp;try (with_reducible rfl))
  simp only [zSa,zSb,zSc]
  refine wpAnyH_ready (rs:=[12]) (by kernel_rfl) (by simp) (AllReadyH.cons rfl (fun K12 hK12=>?ku1x12) AllReadyH.nil)
  refine take_calls 12 48 [Operand.tmp 29] #[3] rfl rfl (by kernel_rfl) (fun args w=>run_enter Tryz.func48 (by kernel_rfl) rfl args w) ?_
  refine (WanW.itoa_any hi h0 h1 _ (hW.below HB)).mono ?_
  rintro e w12 ⟨rfl,hb12⟩
  refine ⟨_,rfl,?_⟩
  have z12:=hb12.size
  try simp only [World.size_drew] at z12
  replace g1:=Blk.below g1 hb12 (by first | exact Nat.le_refl _ | (simp only [World.size_alloc,World.size_setCell,World.size_drew] at *;omega) | omega)
  replace HB:=HB.trans (hb12.mono (by first | exact HB.size | omega))
  have zHB12:=HB.size
  refine hK12.out _ _ ?su1x12 (fun hHeld=>?ru1x12)
  case su1x12=>((try dsimp only);exact ⟨g1.cell_ 0 rfl,g1.cell_ 1 rfl,g1.cell_ 2 rfl⟩)
  try simp only [zSa,zSb,zSc]
  refine take_op (v:=?vu1x13) 13 (Op.binOp BinOp.add 9 (Operand.tmp 26) (Operand.tmp 30) 9) 9 rfl rfl rfl rfl rfl (by kernel_rfl) (by kernel_rfl) (by kernel_rfl) (fun _ _ _ h=>h) ?yu1x13 (by assumption) ?ru1x13
  case yu1x13=>(intro w' hSw;(try dsimp only at hSw);go_simp;try (with_reducible rfl))
  simp only [zSa,zSb,zSc]
  refine take_op (v:=?vu1x14) 14 (Op.assign (Operand.tmp 31)) 9 rfl rfl rfl rfl rfl (by kernel_rfl) (by kernel_rfl) (by kernel_rfl) (fun _ _ _ h=>h) ?yu1x14 (by assumption) ?ru1x14
  case yu1x14=>(intro w' hSw;(try dsimp only at hSw);go_simp;try (with_reducible rfl))
  simp only [zSa,zSb,zSc]
  refine wpAnyH_done (by kernel_rfl) ?_ _
  go_wp2_with fail
  go_ret
  refine ⟨?_,HB⟩
  show Ending.returned (.string _) = _
  rw [ba_cat2,ba_cat2,ba_cat2,ba_cat2]
  simp [shN,rngL]
set_option maxRecDepth 100000 in
set_option maxHeartbeats 4000000 in
theorem has_shown (x:List UInt8) (s:Nat) (w:World) (hk:wfN (.has x)) :
    Calls Tryz.prog 25 #[.iface 105 (.agg #[str x]),.int .i64 s] w fun e w'=>e = .returned (str (shN s (.has x)))∧Below w.heap.size w w':=by
  have hx:x.length≤1000:=hk.2
  have HB:=(Below.refl w.heap.size w).alloc (Nat.le_refl _) (.cells #[str x] 105)
  have g1:=Blk.new w 105 #[str x]
  have hl:=hexL_len x
  have hl2:(hexL x).length≤2000:=by omega
  have t1:=th_1
  have t2:=th_2
  obtain ⟨c0,_⟩:=blk1 g1
  clear hl
  go_enter Tryz.func25,Tryz.ntmps25
  go_wp2_with fail
  refine (WanW.hex_any x _ (by omega)).mono ?_
  rintro e w1 ⟨rfl,hb1⟩
  go_wp2_with fail
  go_ret
  refine ⟨?_,HB.trans (hb1.mono HB.size)⟩
  show Ending.returned (.string _) = _
  rw [ba_cat2]
  simp [shN,sHas]
set_option maxRecDepth 100000 in
set_option maxHeartbeats 4000000 in
theorem all_shown (s:Nat) (w:World) :
    Calls Tryz.prog 25 #[.iface 99 (.agg #[]),.int .i64 s] w fun e w'=>e = .returned (str (shN s .all))∧Below w.heap.size w w':=by
  have t1:=ta_1
  have t2:=ta_2
  have t3:=ta_3
  have t4:=ta_4
  go_enter Tryz.func25,Tryz.ntmps25
  go_wp2_with fail
  go_ret
  exact ⟨rfl,Below.refl _ _⟩
set_option maxRecDepth 100000 in
set_option maxHeartbeats 4000000 in
theorem not_shown (u:Value) (s:Nat) (t:List UInt8) (w0 w:World) (hw:Below w0.heap.size w0 w) (ht:t.length≤1000000) (hu:∃ T x,u = .iface T x) (hC:ShownC u 2 t w0) :
    Calls Tryz.prog 25 #[.iface 71 (.agg #[u]),.int .i64 s] w fun e w'=>e = .returned (str (sNot ++ 32 :: t))∧Below w.heap.size w w':=by
  obtain ⟨T,x,rfl⟩:=hu
  have HB:=(Below.refl w.heap.size w).alloc (Nat.le_refl _) (.cells #[.iface T x] 71)
  have g1:=Blk.new w 71 #[.iface T x]
  have t1:=tn_1
  have t2:=tn_2
  have t3:=tn_3
  obtain ⟨c0,_⟩:=blk1 g1
  have C:=hC _ (hw.trans (HB.mono hw.size))
  clear hC
  go_enter Tryz.func25,Tryz.ntmps25
  go_wp2_with fail
  refine C.mono ?_
  clear C
  rintro e w1 ⟨rfl,hb1⟩
  go_wp2_with fail
  go_ret
  refine ⟨?_,HB.trans (hb1.mono HB.size)⟩
  show Ending.returned (.string _) = _
  rw [ba_cat2]
  simp [sNot]
set_option maxRecDepth 100000 in
set_option maxHeartbeats 8000000 in
theorem row_shown (o:Bool) (b0 n c:Nat) (us:List Value) (ts:List (List UInt8)) (s:Nat) (w0 w:World) (hw:Below w0.heap.size w0 w) (hb0:b0 < w0.heap.size) (hn:us.length = n) (hn0:0 < n) (hn1:n≤1000) (hbl:ts.length = n)
    (hlen:(Lib.join ts (sepW o)).length≤1000000)
    (hc:∀ i (h:i < us.length),w0.cell? ⟨b0,i,none⟩ = some us[i]) (hC:∀ i (h:i < us.length) (h2:i < ts.length),ShownC us[i] (ownS o) ts[i] w0) (R:List UInt8) (hR:(if ownS o < s then 40 :: (Lib.join ts (sepW o) ++ [41]) else Lib.join ts (sepW o)) = R) :
    Calls Tryz.prog 25 #[.iface 102 (.agg #[str (byW o),.slice (some ⟨b0,0,none⟩) n c]),.int .i64 s] w fun e w'=>e = .returned (str R)∧Below w.heap.size w w':=by
  have HB:=(Below.refl w.heap.size w).alloc (Nat.le_refl _) (.cells #[str (byW o),.slice (some ⟨b0,0,none⟩) n c] 102)
  have g1:=Blk.new w 102 #[str (byW o),.slice (some ⟨b0,0,none⟩) n c]
  have hg1:=g1.lt
  have t1:=tr_1
  have t2:=tr_2
  have t3:=tr_3
  have t4:=tr_4
  have hor:(byW o == [111,114]) = o:=by cases o <;> decide
  obtain ⟨c0,c1,_⟩:=blk2 g1
  have hwz:=hw.size
  have HW:=Lib.hid hw
  have HC:=Lib.hid hC
  have HCC:=Lib.hid hc
  have HN:=Lib.hid hn
  have HBL:=Lib.hid hbl
  clear hC hc hn hbl hw
  have hsep:((⟨#[32]⟩:ByteArray) ++ ⟨(byW o).toArray⟩ ++ ⟨#[32]⟩) = ⟨(sepW o).toArray⟩:=by rw [ba_cat2,ba_cat2];simp [sepW]
  have hb3:(byW o).length≤3:=by cases o <;> decide
  have HSEP:=Lib.hid hsep
  clear hsep
  cases o
  · have how:ownS false = 1:=rfl
    rw [how] at HC hR
    have HR:=Lib.hid hR
    clear hR
    go_enter Tryz.func25,Tryz.ntmps25
    go_wp2_with fail
    clear c0 c1
    go_loopw [10,55] (fun o i wr=>∃ (k:Nat) (A2:Option Addr) (c2:Nat),k≤n∧i = .int .i64 k∧o = .slice A2 k c2∧Own wr (w.heap.size + 1) 9 1 A2 k c2 (strsS (ts.take k))∧Blk wr w.heap.size 102 #[str (byW false),.slice (some ⟨b0,0,none⟩) n c]∧Below w.heap.size w wr∧w.heap.size + 1≤wr.heap.size) (fun _ i _=>n - (intOf i).toNat)
    case atStart=>exact ⟨0,none,0,by omega,rfl,rfl,Own.nil _ _ _ _,g1,HB,by simp⟩
    case round =>
      obtain ⟨k,A2,c2,hk,rfl,rfl,oW,b1,hbw,hzr⟩:=hrel
      obtain ⟨c0,c1,_⟩:=blk2 b1
      by_cases hlt:k < n
      · have hku:k < us.length:=by have:=HN.out;omega
        have hkb:k < ts.length:=by have:=HBL.out;omega
        have hcell:wr.cell? ⟨b0,k,none⟩ = some us[k]:=(hbw.cell (p:=⟨b0,k,none⟩) (by show b0 < _;omega)).trans ((HW.out.cell (p:=⟨b0,k,none⟩) hb0).trans (HCC.out k hku))
        have hM:=HC.out k hku hkb
        have HTK:Hid (strsS (ts.take k) ++ [str ts[k]] = strsS (ts.take (k + 1))):=Lib.hid (by rw [List.take_succ_eq_append_getElem hkb];unfold strsS;rw [List.map_append];rfl)
        generalize us[k] = u at *
        generalize ts[k] = tk at *
        have C:=hM wr (HW.out.trans (hbw.mono hwz))
        have hki:(k:Int) < (n:Int):=by omega
        have hk0:(0:Int)≤(k:Int):=by omega
        clear hM
        go_wp2_with fail
        refine C.mono ?_
        clear C
        rintro e w1 ⟨rfl,hb1⟩
        have o1:=oW.below hb1
        have bb1:=b1.below hb1 b1.lt
        have HB1:=hbw.trans (hb1.mono hbw.size)
        have hz1:=hb1.size
        clear c0 c1 oW b1
        have hone:∀ u ∈ [str tk],u.oneCell' = true:=strsS_one [tk]
        go_wp2_with (at_builtin;with_reducible refine wp_append El_strS rfl (s:=.tmp 59) (x:=.tmp 63) rfl rfl (o1.alloc _) rfl (rd_new (W0:=w1) (cs:=[_]) (m:=1) (by first | rfl | simp) rfl) hone (by unfold maxLen;omega) (by omega) (by simp;omega) ?_;intro A5 c5 w5 o5 hg5 hat5)
        rw [HTK.out] at o5
        have HB5:Below w.heap.size w w5:=(HB1.alloc (by omega) _).grown hg5 (by simp;omega) (fun k hk=>by have:=(o1.blk k hk).1;omega)
        have b5:=(bb1.alloc (.cells #[str tk] 9)).grown hg5 (fun e=>by have:=(o1.blk _ e.symm).1;omega)
        have hz5:=hg5.size
        go_roundw
        case rel=>exact ⟨k + 1,A5,c5,by omega,by go_num,rfl,o5,b5,HB5,by simp at hz5;omega⟩
        case measure=>simp [intOf];omega
      · have hkn:k = n:=by omega
        have HTS:Hid (ts.take k = ts):=Lib.hid (List.take_of_length_le (by have:=HBL.out;omega))
        have hk0:0 < k:=by omega
        rw [HTS.out] at oW
        have htl:ts.length≤1000:=by have:=HBL.out;omega
        have C:=joinS_any ts (sepW false) A2 k c2 (w.heap.size + 1) wr oW hk0 htl (by omega)
        generalize Lib.join ts (sepW false) = T at *
        have hTl:=hlen
        have HKN:=Lib.hid hkn
        clear hkn
        have ha1:¬ 9223372036854775807 < 1 + (byW false).length:=by omega
        have ha2:¬ 9223372036854775807 < 1 + (byW false).length + 1:=by omega
        have ha3:¬ 9223372036854775807 < 1 + T.length:=by omega
        have ha4:¬ 9223372036854775807 < 1 + T.length + 1:=by omega
        go_wp2_with fail
        rw [HSEP.out]
        refine C.mono ?_
        clear C
        rintro e w1 ⟨rfl,hb1⟩
        have HB1:=hbw.trans (hb1.mono hbw.size)
        by_cases hs:1 < s
        · have hsI:(1:Int) < (s:Int):=by omega
          have hR:=HR.out
          rw [if_pos hs] at hR
          have HR2:=Lib.hid hR
          clear hs hR HR
          go_wp2_with fail
          go_ret
          refine ⟨?_,HB1⟩
          show Ending.returned (.string _) = _
          rw [ba_cat2,ba_cat2,← HR2.out]
          simp
        · have hsI:¬ (1:Int) < (s:Int):=by omega
          have hR:=HR.out
          rw [if_neg hs] at hR
          have HR2:=Lib.hid hR
          clear hs hR HR
          go_wp2_with fail
          go_ret
          rw [← HR2.out]
          exact ⟨rfl,HB1⟩
  · have how:ownS true = 0:=rfl
    rw [how] at HC hR
    have HR:=Lib.hid hR
    clear hR
    go_enter Tryz.func25,Tryz.ntmps25
    go_wp2_with fail
    clear c0 c1
    go_loopw [10,55] (fun o i wr=>∃ (k:Nat) (A2:Option Addr) (c2:Nat),k≤n∧i = .int .i64 k∧o = .slice A2 k c2∧Own wr (w.heap.size + 1) 9 1 A2 k c2 (strsS (ts.take k))∧Blk wr w.heap.size 102 #[str (byW true),.slice (some ⟨b0,0,none⟩) n c]∧Below w.heap.size w wr∧w.heap.size + 1≤wr.heap.size) (fun _ i _=>n - (intOf i).toNat)
    case atStart=>exact ⟨0,none,0,by omega,rfl,rfl,Own.nil _ _ _ _,g1,HB,by simp⟩
    case round =>
      obtain ⟨k,A2,c2,hk,rfl,rfl,oW,b1,hbw,hzr⟩:=hrel
      obtain ⟨c0,c1,_⟩:=blk2 b1
      by_cases hlt:k < n
      · have hku:k < us.length:=by have:=HN.out;omega
        have hkb:k < ts.length:=by have:=HBL.out;omega
        have hcell:wr.cell? ⟨b0,k,none⟩ = some us[k]:=(hbw.cell (p:=⟨b0,k,none⟩) (by show b0 < _;omega)).trans ((HW.out.cell (p:=⟨b0,k,none⟩) hb0).trans (HCC.out k hku))
        have hM:=HC.out k hku hkb
        have HTK:Hid (strsS (ts.take k) ++ [str ts[k]] = strsS (ts.take (k + 1))):=Lib.hid (by rw [List.take_succ_eq_append_getElem hkb];unfold strsS;rw [List.map_append];rfl)
        generalize us[k] = u at *
        generalize ts[k] = tk at *
        have C:=hM wr (HW.out.trans (hbw.mono hwz))
        have hki:(k:Int) < (n:Int):=by omega
        have hk0:(0:Int)≤(k:Int):=by omega
        clear hM
        go_wp2_with fail
        refine C.mono ?_
        clear C
        rintro e w1 ⟨rfl,hb1⟩
        have o1:=oW.below hb1
        have bb1:=b1.below hb1 b1.lt
        have HB1:=hbw.trans (hb1.mono hbw.size)
        have hz1:=hb1.size
        clear c0 c1 oW b1
        have hone:∀ u ∈ [str tk],u.oneCell' = true:=strsS_one [tk]
        go_wp2_with (at_builtin;with_reducible refine wp_append El_strS rfl (s:=.tmp 59) (x:=.tmp 63) rfl rfl (o1.alloc _) rfl (rd_new (W0:=w1) (cs:=[_]) (m:=1) (by first | rfl | simp) rfl) hone (by unfold maxLen;omega) (by omega) (by simp;omega) ?_;intro A5 c5 w5 o5 hg5 hat5)
        rw [HTK.out] at o5
        have HB5:Below w.heap.size w w5:=(HB1.alloc (by omega) _).grown hg5 (by simp;omega) (fun k hk=>by have:=(o1.blk k hk).1;omega)
        have b5:=(bb1.alloc (.cells #[str tk] 9)).grown hg5 (fun e=>by have:=(o1.blk _ e.symm).1;omega)
        have hz5:=hg5.size
        go_roundw
        case rel=>exact ⟨k + 1,A5,c5,by omega,by go_num,rfl,o5,b5,HB5,by simp at hz5;omega⟩
        case measure=>simp [intOf];omega
      · have hkn:k = n:=by omega
        have HTS:Hid (ts.take k = ts):=Lib.hid (List.take_of_length_le (by have:=HBL.out;omega))
        have hk0:0 < k:=by omega
        rw [HTS.out] at oW
        have htl:ts.length≤1000:=by have:=HBL.out;omega
        have C:=joinS_any ts (sepW true) A2 k c2 (w.heap.size + 1) wr oW hk0 htl (by omega)
        generalize Lib.join ts (sepW true) = T at *
        have hTl:=hlen
        have HKN:=Lib.hid hkn
        clear hkn
        have ha1:¬ 9223372036854775807 < 1 + (byW true).length:=by omega
        have ha2:¬ 9223372036854775807 < 1 + (byW true).length + 1:=by omega
        have ha3:¬ 9223372036854775807 < 1 + T.length:=by omega
        have ha4:¬ 9223372036854775807 < 1 + T.length + 1:=by omega
        go_wp2_with fail
        rw [HSEP.out]
        refine C.mono ?_
        clear C
        rintro e w1 ⟨rfl,hb1⟩
        have HB1:=hbw.trans (hb1.mono hbw.size)
        by_cases hs:0 < s
        · have hsI:(0:Int) < (s:Int):=by omega
          have hR:=HR.out
          rw [if_pos hs] at hR
          have HR2:=Lib.hid hR
          clear hs hR HR
          go_wp2_with fail
          go_ret
          refine ⟨?_,HB1⟩
          show Ending.returned (.string _) = _
          rw [ba_cat2,ba_cat2,← HR2.out]
          simp
        · have hsI:¬ (0:Int) < (s:Int):=by omega
          have hR:=HR.out
          rw [if_neg hs] at hR
          have HR2:=Lib.hid hR
          clear hs hR HR
          go_wp2_with fail
          go_ret
          rw [← HR2.out]
          exact ⟨rfl,HB1⟩
theorem join_row (o:Bool) (a:Nd) (l:List Nd):Lib.join ((a :: l).map (shN (ownS o))) (sepW o) = shN (ownS o) a ++ shR o l:=by
  rw [List.map_cons,Lib.join_cons,shR_tail]
mutual
theorem shown_any (w:World) (S:Nat → Prop) (hW:WanW.Wo w):∀ (n:Nd) (v:Value) (s:Nat),wfN n → szN n≤400 → NdV w S n v → ShownC v s (shN s n) w
  | .within k lo hi,v,s,hw,hz,hv=>by
    obtain ⟨_,rfl⟩:=hv
    exact fun w' hb=>within_shown k lo hi s w' (hW.below hb) hw
  | .has x,v,s,hw,hz,hv=>by
    have e:v = _:=hv
    subst e
    exact fun w' hb=>has_shown x s w' hw
  | .all,v,s,hw,hz,hv=>by
    have e:v = _:=hv
    subst e
    exact fun w' hb=>all_shown s w'
  | .not n,v,s,hw,hz,hv=>by
    obtain ⟨u,rfl,h⟩:=hv
    simp only [szN] at hz
    have ih:=shown_any w S hW n u 2 hw (by omega) h
    have hl:=shN_len n 2 hw
    exact fun w' hb=>not_shown u s (shN 2 n) w w' hb (by omega) h.iface ih
  | .row o l,v,s,hw,hz,hv=>by
    obtain ⟨b,n,c,vs,rfl,_,hb,hl,_,hn1,hc,hvs⟩:=hv
    simp only [szN] at hz
    have ih:=shown_list w S hW o l vs hw.2 hz hvs
    have hlen:=hvs.len
    have hl2:2≤l.length:=hw.1
    have hsn:=shN_len (.row o l) 0 hw
    simp only [szN] at hsn
    cases l with
    | nil=>simp at hl2
    | cons a l =>
      have hj:=join_row o a l
      have hsn2:(shN (ownS o) a ++ shR o l).length≤1000000:=by
        have h1:=shN_len (.row o (a :: l)) 0 hw
        simp only [szN] at h1
        rw [shN,if_neg (by omega)] at h1
        omega
      refine fun w' hbw=>row_shown o b n c vs ((a :: l).map (shN (ownS o))) s w w' hbw hb hl (by omega) hn1 (by simp at hlen ⊢;omega) (by rw [hj];exact hsn2) hc (fun i h h2=>?_) _ ?_
      · have:=ih i h (by simpa using h2)
        rw [List.getElem_map]
        exact this
      · rw [hj,shN]
        simp
theorem shown_list (w:World) (S:Nat → Prop) (hW:WanW.Wo w) (o:Bool):∀ (l:List Nd) (vs:List Value),wfL o l → szL l≤400 → NdVs w S l vs → ∀ i (h:i < vs.length) (h2:i < l.length),ShownC vs[i] (ownS o) (shN (ownS o) l[i]) w
  | [],vs,hw,hz,hv,i,h,h2=>by simp at h2
  | a :: l,vs,hw,hz,hv,i,h,h2=>by
    obtain ⟨v,r,rfl,h3,h4⟩:=hv
    simp only [szL] at hz
    cases i with
    | zero=>exact shown_any w S hW a v (ownS o) hw.1 (by omega) h3
    | succ i=>exact shown_list w S hW o l r hw.2.2 (by omega) h4 i (by simp at h;omega) (by simp at h2;omega)
end
end SieW
end Go.Proofs.YtnpncpoiiikafaaGreatDoor
