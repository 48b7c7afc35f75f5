/- SieF -/
import Derived.Test.YtnpncpoiiikafaaGreatDoorSieEQs
import Derived.Test.YtnpncpoiiikafaaGreatDoorSieQQs
import Derived.Test.YtnpncpoiiikafaaGreatDoorKmpPQs
import Derived.Test.YtnpncpoiiikafaaGreatDoorMemQs
set_option linter.unusedVariables false
set_option linter.unusedSimpArgs false
set_option linter.unnecessarySimpa false
namespace Go.Proofs.YtnpncpoiiikafaaGreatDoor
open Go.RowKit
namespace SieW
abbrev rcv (q t:Int) (d:List UInt8):Value:=.agg #[.int .i64 q,.int .i64 t,str d]
set_option maxRecDepth 100000 in
set_option maxHeartbeats 2000000 in
theorem within_meets (k:Nat) (lo hi q t:Int) (d:List UInt8) (w:World) (hk:k≤2) (b:Bool) (hb:meetN q t d (.within k lo hi) = b) :
    Calls Tryz.prog 171 #[.agg #[str (kwS k),.int .i64 lo,.int .i64 hi],rcv q t d] w fun e w'=>e = .returned (.bool b)∧Below w.heap.size w w':=by
  simp only [meetN] at hb
  have k3:k = 0 ∨ k = 1 ∨ k = 2:=by omega
  have HB:Below w.heap.size w ((w.alloc (.cells #[str (kwS k),.int .i64 lo,.int .i64 hi] 95)).alloc (.cells #[.int .i64 q,.int .i64 t,str d] 37)):=((Below.refl _ w).alloc (Nat.le_refl _) _).alloc (by simp) _
  have g1:Blk ((w.alloc (.cells #[str (kwS k),.int .i64 lo,.int .i64 hi] 95)).alloc (.cells #[.int .i64 q,.int .i64 t,str d] 37)) w.heap.size 95 #[str (kwS k),.int .i64 lo,.int .i64 hi]:=(Blk.new _ _ _).alloc _
  have g2:Blk ((w.alloc (.cells #[str (kwS k),.int .i64 lo,.int .i64 hi] 95)).alloc (.cells #[.int .i64 q,.int .i64 t,str d] 37)) (w.heap.size + 1) 37 #[.int .i64 q,.int .i64 t,str d]:=by
    have:=Blk.new (w.alloc (.cells #[str (kwS k),.int .i64 lo,.int .i64 hi] 95)) 37 #[.int .i64 q,.int .i64 t,str d]
    simpa using this
  obtain ⟨c0,c1,c2,_⟩:=blk3 g1
  obtain ⟨d0,d1,d2,_⟩:=blk3 g2
  rcases k3 with rfl | rfl | rfl
  all_goals
    simp at hb
    go_enter Tryz.func171,Tryz.ntmps171
    go_wp2_with fail
    refine (SpanW.has_eq _ _ _ b hb _).mono ?_
    rintro e w1 ⟨rfl,hb1⟩
    go_wp2_with fail
    go_ret
    exact ⟨rfl,HB.trans (hb1.mono HB.size)⟩
set_option maxRecDepth 100000 in
set_option maxHeartbeats 2000000 in
theorem has_meets (s:List UInt8) (q t:Int) (d:List UInt8) (w:World) (hs:s.length≤1000) (hd:d.length≤100000) (b:Bool) (hb:meetN q t d (.has s) = b) :
    Calls Tryz.prog 175 #[.agg #[str s],rcv q t d] w fun e w'=>e = .returned (.bool b)∧Below w.heap.size w w':=by
  simp only [meetN] at hb
  have HB:Below w.heap.size w ((w.alloc (.cells #[str s] 105)).alloc (.cells #[.int .i64 q,.int .i64 t,str d] 37)):=((Below.refl _ w).alloc (Nat.le_refl _) _).alloc (by simp) _
  have g1:Blk ((w.alloc (.cells #[str s] 105)).alloc (.cells #[.int .i64 q,.int .i64 t,str d] 37)) w.heap.size 105 #[str s]:=(Blk.new _ _ _).alloc _
  have g2:Blk ((w.alloc (.cells #[str s] 105)).alloc (.cells #[.int .i64 q,.int .i64 t,str d] 37)) (w.heap.size + 1) 37 #[.int .i64 q,.int .i64 t,str d]:=by
    have:=Blk.new (w.alloc (.cells #[str s] 105)) 37 #[.int .i64 q,.int .i64 t,str d]
    simpa using this
  obtain ⟨c0,_⟩:=blk1 g1
  obtain ⟨d0,d1,d2,_⟩:=blk3 g2
  have C:=KmpW.has_any d s ((w.alloc (.cells #[str s] 105)).alloc (.cells #[.int .i64 q,.int .i64 t,str d] 37)) (by omega) hd
  rw [hb] at C
  clear hb
  go_enter Tryz.func175,Tryz.ntmps175
  go_wp2_with fail
  refine C.mono ?_
  clear C
  rintro e w1 ⟨rfl,hb1⟩
  go_wp2_with fail
  go_ret
  exact ⟨rfl,HB.trans (hb1.mono HB.size)⟩
theorem all_meets (q t:Int) (d:List UInt8) (w:World) :
    Calls Tryz.prog 173 #[.agg #[],rcv q t d] w fun e w'=>e = .returned (.bool true)∧Below w.heap.size w w':=by
  go_enter Tryz.func173,Tryz.ntmps173
  go_wp2_with fail
  go_ret
  exact ⟨rfl,((Below.refl _ w).alloc (Nat.le_refl _) _).alloc (by simp) _⟩
def MeetsA (q t:Int) (d:List UInt8) (v:Value) (b:Bool) (w0:World):Prop :=
  ∃ (T : TypeId) (x : Value) (K : FuncId), v = .iface T x ∧ (∀ n w, (method (n + 1) T x "varve/sieve.meets").run Tryz.prog w = .ok (K, x) w) ∧ (∀ args w, (callFunc K args).run Tryz.prog w = .ok (.enter K args) w) ∧
    ∀ w',Below w0.heap.size w0 w' → Calls Tryz.prog K #[x,rcv q t d] w' fun e w2=>e = .returned (.bool b)∧Below w'.heap.size w' w2
theorem mt_within (n : Nat) (x : Value) (w : World) : (method (n + 1) 95 x "varve/sieve.meets").run Tryz.prog w = .ok (171, x) w := by kernel_rfl
theorem mt_has (n : Nat) (x : Value) (w : World) : (method (n + 1) 105 x "varve/sieve.meets").run Tryz.prog w = .ok (175, x) w := by kernel_rfl
theorem mt_all (n : Nat) (x : Value) (w : World) : (method (n + 1) 99 x "varve/sieve.meets").run Tryz.prog w = .ok (173, x) w := by kernel_rfl
theorem mt_not (n : Nat) (x : Value) (w : World) : (method (n + 1) 71 x "varve/sieve.meets").run Tryz.prog w = .ok (168, x) w := by kernel_rfl
theorem mt_row (n : Nat) (x : Value) (w : World) : (method (n + 1) 102 x "varve/sieve.meets").run Tryz.prog w = .ok (174, x) w := by kernel_rfl
set_option maxRecDepth 100000 in
set_option maxHeartbeats 2000000 in
theorem not_meets (u:Value) (q t:Int) (d:List UInt8) (w0 w:World) (hw:Below w0.heap.size w0 w) (b:Bool) (hC:MeetsA q t d u b w0) :
    Calls Tryz.prog 168 #[.agg #[u],rcv q t d] w fun e w'=>e = .returned (.bool (!b))∧Below w.heap.size w w':=by
  obtain ⟨T,x,K,rfl,hm,hf,hC⟩:=hC
  have HB:Below w.heap.size w ((w.alloc (.cells #[.iface T x] 71)).alloc (.cells #[.int .i64 q,.int .i64 t,str d] 37)):=((Below.refl _ w).alloc (Nat.le_refl _) _).alloc (by simp) _
  have g1:Blk ((w.alloc (.cells #[.iface T x] 71)).alloc (.cells #[.int .i64 q,.int .i64 t,str d] 37)) w.heap.size 71 #[.iface T x]:=(Blk.new _ _ _).alloc _
  have g2:Blk ((w.alloc (.cells #[.iface T x] 71)).alloc (.cells #[.int .i64 q,.int .i64 t,str d] 37)) (w.heap.size + 1) 37 #[.int .i64 q,.int .i64 t,str d]:=by
    have:=Blk.new (w.alloc (.cells #[.iface T x] 71)) 37 #[.int .i64 q,.int .i64 t,str d]
    simpa using this
  obtain ⟨c0,_⟩:=blk1 g1
  obtain ⟨d0,d1,d2,_⟩:=blk3 g2
  have C:=hC _ (hw.trans (HB.mono hw.size))
  clear hC
  go_enter Tryz.func168,Tryz.ntmps168
  go_wp2_with fail
  refine C.mono ?_
  clear C
  rintro e w1 ⟨rfl,hb1⟩
  go_wp2_with fail
  go_ret
  exact ⟨rfl,HB.trans (hb1.mono HB.size)⟩
def rowB (o:Bool):List Bool → Bool
  | []=>!o
  | x :: r=>if x = o then o else rowB o r
theorem meetL_row (q t:Int) (d:List UInt8) (o:Bool) (l:List Nd):meetL q t d o l = rowB o (l.map (meetN q t d)):=by
  induction l with
  | nil=>rfl
  | cons a l ih=>simp only [meetL,List.map_cons,rowB,ih]
theorem rowB_step {o:Bool} {bl:List Bool} {k:Nat} (hk:k < bl.length):rowB o (bl.drop k) = if bl[k] = o then o else rowB o (bl.drop (k + 1)):=by
  rw [List.drop_eq_getElem_cons hk,rowB]
set_option maxRecDepth 100000 in
set_option maxHeartbeats 4000000 in
theorem row_meets (o:Bool) (b0 n c:Nat) (us:List Value) (bl:List Bool) (q t:Int) (d:List UInt8) (w0 w:World) (hw:Below w0.heap.size w0 w) (hb0:b0 < w0.heap.size) (hn:us.length = n) (hn1:n≤1000) (hbl:bl.length = n)
    (hc:∀ i (h:i < us.length),w0.cell? ⟨b0,i,none⟩ = some us[i]) (hC:∀ i (h:i < us.length) (h2:i < bl.length),MeetsA q t d us[i] bl[i] w0) :
    Calls Tryz.prog 174 #[.agg #[str (byW o),.slice (some ⟨b0,0,none⟩) n c],rcv q t d] w fun e w'=>e = .returned (.bool (rowB o bl))∧Below w.heap.size w w':=by
  have HB:Below w.heap.size w ((w.alloc (.cells #[str (byW o),.slice (some ⟨b0,0,none⟩) n c] 102)).alloc (.cells #[.int .i64 q,.int .i64 t,str d] 37)):=((Below.refl _ w).alloc (Nat.le_refl _) _).alloc (by simp) _
  have g1:Blk ((w.alloc (.cells #[str (byW o),.slice (some ⟨b0,0,none⟩) n c] 102)).alloc (.cells #[.int .i64 q,.int .i64 t,str d] 37)) w.heap.size 102 #[str (byW o),.slice (some ⟨b0,0,none⟩) n c]:=(Blk.new _ _ _).alloc _
  have g2:Blk ((w.alloc (.cells #[str (byW o),.slice (some ⟨b0,0,none⟩) n c] 102)).alloc (.cells #[.int .i64 q,.int .i64 t,str d] 37)) (w.heap.size + 1) 37 #[.int .i64 q,.int .i64 t,str d]:=by
    have:=Blk.new (w.alloc (.cells #[str (byW o),.slice (some ⟨b0,0,none⟩) n c] 102)) 37 #[.int .i64 q,.int .i64 t,str d]
    simpa using this
  have hz2:w.heap.size + 1 + 1≤((w.alloc (.cells #[str (byW o),.slice (some ⟨b0,0,none⟩) n c] 102)).alloc (.cells #[.int .i64 q,.int .i64 t,str d] 37)).heap.size:=by simp
  obtain ⟨c0,c1,_⟩:=blk2 g1
  have hwz:=hw.size
  have HW:=Lib.hid hw
  have HC:=Lib.hid hC
  have HCC:=Lib.hid hc
  have HN:=Lib.hid hn
  have HBL:=Lib.hid hbl
  clear hC hc hn hbl hw
  have hor:(byW o == [111,114]) = o:=by cases o <;> decide
  have han:(byW o == [97,110,100]) = !o:=by cases o <;> decide
  go_enter Tryz.func174,Tryz.ntmps174
  go_wp2_with fail
  clear c0 c1
  go_loopw [10] (fun i wr=>∃ k:Nat,k≤n∧i = .int .i64 k∧rowB o (bl.drop k) = rowB o bl∧Below w.heap.size w wr∧w.heap.size + 1 + 1≤wr.heap.size∧Blk wr w.heap.size 102 #[str (byW o),.slice (some ⟨b0,0,none⟩) n c]∧Blk wr (w.heap.size + 1) 37 #[.int .i64 q,.int .i64 t,str d]) (fun i _=>n - (intOf i).toNat)
  case atStart=>exact ⟨0,by omega,rfl,rfl,HB,hz2,g1,g2⟩
  case round =>
    obtain ⟨k,hk,rfl,hrow,hbw,hzr,b1,b2⟩:=hrel
    have HR:=Lib.hid hrow
    clear hrow
    by_cases hlt:k < n
    · have hku:k < us.length:=by have:=HN.out;omega
      have hkb:k < bl.length:=by have:=HBL.out;omega
      have hcell:wr.cell? ⟨b0,k,none⟩ = some us[k]:=(hbw.cell (p:=⟨b0,k,none⟩) (by show b0 < _;omega)).trans ((HW.out.cell (p:=⟨b0,k,none⟩) hb0).trans (HCC.out k hku))
      obtain ⟨T,x,K,hx,hm,hf,hM⟩:=HC.out k hku hkb
      rw [hx] at hcell
      have HST:=Lib.hid (rowB_step (o:=o) hkb)
      obtain ⟨bk,hbk⟩:∃ bk,bl[k] = bk:=⟨_,rfl⟩
      rw [hbk] at hM HST
      have HM:=Lib.hid hM
      have hki:(k:Int) < (n:Int):=by omega
      have hk0:(0:Int)≤(k:Int):=by omega
      clear hx hbk hM
      have HBR:=hbw
      go_wp2_with fail
      refine wp_region_held_drew (S:=(fun w'=>w'.cell? ⟨w.heap.size,0,none⟩ = some (str (byW o))∧w'.cell? ⟨w.heap.size + 1,0,none⟩ = some (.int .i64 q)∧w'.cell? ⟨w.heap.size + 1,1,none⟩ = some (.int .i64 t)∧w'.cell? ⟨w.heap.size + 1,2,none⟩ = some (str d))) (by kernel_rfl) ?_ (fun hHeld=>?_)
      · replace b1:=Blk.drew b1;replace b2:=Blk.drew b2;replace HBR:=Below.drew HBR;(try dsimp only);exact ⟨b1.cell_ 0 rfl,b2.cell_ 0 rfl,b2.cell_ 1 rfl,b2.cell_ 2 rfl⟩
      replace b1:=Blk.drew b1
      replace b2:=Blk.drew b2
      replace HBR:=Below.drew HBR
      have zHBR:=HBR.size
      refine take_movev (v:=?vu1x0) 0 (Operand.tmp 6) rfl rfl (by first | exact .inl rfl | exact .inr rfl) rfl (by kernel_rfl) (by kernel_rfl) (by kernel_rfl) (fun _ _ _ h=>h) (by assumption) ?yu1x0 ?ru1x0
      case yu1x0=>(go_simp;try (with_reducible rfl))
      simp only [zSa,zSb,zSc]
      refine take_op (v:=?vu1x1) 1 (Op.load 37 (Operand.tmp 3)) 37 rfl rfl rfl rfl rfl (by kernel_rfl) (by kernel_rfl) (by kernel_rfl) (fun _ _ _ h=>h) ?yu1x1 (by assumption) ?ru1x1
      case yu1x1=>(intro w' hSw;(try dsimp only at hSw);go_simp;try (with_reducible rfl))
      simp only [zSa,zSb,zSc]
      refine take_op (v:=?vu1x3) 3 (Op.fieldAddr 102 (Operand.tmp 2) 0) 0 rfl rfl rfl rfl rfl (by kernel_rfl) (by kernel_rfl) (by kernel_rfl) (fun _ _ _ h=>h) ?yu1x3 (by assumption) ?ru1x3
      case yu1x3=>(intro w' hSw;(try dsimp only at hSw);go_simp;try (with_reducible rfl))
      simp only [zSa,zSb,zSc]
      refine take_op (v:=?vu1x4) 4 (Op.load 9 (Operand.tmp 17)) 9 rfl rfl rfl rfl rfl (by kernel_rfl) (by kernel_rfl) (by kernel_rfl) (fun _ _ _ h=>h) ?yu1x4 (by assumption) ?ru1x4
      case yu1x4=>(intro w' hSw;(try dsimp only at hSw);go_simp;try (with_reducible rfl))
      simp only [zSa,zSb,zSc]
      refine take_op (v:=?vu1x5) 5 (Op.binOp BinOp.eql 9 (Operand.tmp 18) (Operand.const (Value.string { data:=#[111,114] })) 9) 4 rfl rfl rfl rfl rfl (by kernel_rfl) (by kernel_rfl) (by kernel_rfl) (fun _ _ _ h=>h) ?yu1x5 (by assumption) ?ru1x5
      case yu1x5=>(intro w' hSw;(try dsimp only at hSw);go_simp;try (with_reducible rfl))
      simp only [zSa,zSb,zSc]
      refine wpAnyH_ready (rs:=[2]) (by kernel_rfl) (by simp) (AllReadyH.cons rfl (fun K2 hK2=>?ku1x2) AllReadyH.nil)
      refine take_calli 2 K #[x, rcv q t d] (Op.call { callee := Callee.invoke (Operand.tmp 14) "varve/sieve.meets", args := #[Operand.tmp 15], argTypes := #[37] }) 4 rfl rfl rfl (by kernel_rfl) (by go_simp; try (first | with_reducible rfl | exact ⟨rfl, rfl⟩)) ?_
      refine (HM.out _ (HW.out.trans (HBR.mono hwz))).mono ?_
      rintro e w2 ⟨rfl,hb2⟩
      replace b1:=b1.below hb2 b1.lt
      replace b2:=b2.below hb2 b2.lt
      replace HBR:=HBR.trans (hb2.mono HBR.size)
      have hz3:wr.heap.size≤w2.heap.size:=hb2.size
      refine ⟨_,rfl,?_⟩
      refine hK2.out _ _ ?su1x2 (fun hHeld=>?ru1x2)
      case su1x2=>((try dsimp only);exact ⟨b1.cell_ 0 rfl,b2.cell_ 0 rfl,b2.cell_ 1 rfl,b2.cell_ 2 rfl⟩)
      try simp only [zSa,zSb,zSc]
      refine take_op (v:=?vu1x6) 6 (Op.binOp BinOp.eql 4 (Operand.tmp 16) (Operand.tmp 19) 4) 4 rfl rfl rfl rfl rfl (by kernel_rfl) (by kernel_rfl) (by kernel_rfl) (fun _ _ _ h=>h) ?yu1x6 (by assumption) ?ru1x6
      case yu1x6=>(intro w' hSw;(try dsimp only at hSw);go_simp;try (with_reducible rfl))
      simp only [zSa,zSb,zSc]
      refine wpAnyH_done (by kernel_rfl) ?_ _
      obtain ⟨c0,c1,_⟩:=blk2 b1
      cases o <;> cases bk
      all_goals
        have HS:=Lib.hid HST.out
        simp only [if_true,Bool.false_eq_true,Bool.true_eq_false,if_false] at HS
        go_wp2_with fail
        first
        | (go_ret
           rw [← HR.out,HS.out]
           exact ⟨rfl,HBR⟩)
        | (go_roundw
           case rel=>exact ⟨k + 1,by omega,by go_num,HS.out.symm.trans HR.out,HBR,by omega,b1,b2⟩
           case measure=>simp [intOf];omega)
    · have hkn:Hid (k = n):=by
        have:k = n:=by omega
        exact Lib.hid this
      obtain ⟨c0,c1,_⟩:=blk2 b1
      go_wp2_with fail
      go_ret
      refine ⟨?_,hbw⟩
      rw [← HR.out,hkn.out,List.drop_eq_nil_of_le (by have:=HBL.out;omega)]
      rfl
mutual
theorem meets_any (q t:Int) (d:List UInt8) (hd:d.length≤100000) (w:World) (S:Nat → Prop):∀ (n:Nd) (v:Value),wfN n → NdV w S n v → MeetsA q t d v (meetN q t d n) w
  | .within k lo hi,v,hw,hv=>by
    obtain ⟨_,rfl⟩:=hv
    exact ⟨_,_,_,rfl,fun n w=>mt_within n _ w,fun args w=>run_enter Tryz.func171 (by kernel_rfl) rfl args w,fun w' _=>within_meets k lo hi q t d w' hw.1 _ rfl⟩
  | .has s,v,hw,hv=>by
    have e:v = _:=hv
    subst e
    exact ⟨_,_,_,rfl,fun n w=>mt_has n _ w,fun args w=>run_enter Tryz.func175 (by kernel_rfl) rfl args w,fun w' _=>has_meets s q t d w' hw.2 hd _ rfl⟩
  | .all,v,hw,hv=>by
    have e:v = _:=hv
    subst e
    exact ⟨_,_,_,rfl,fun n w=>mt_all n _ w,fun args w=>run_enter Tryz.func173 (by kernel_rfl) rfl args w,fun w' _=>all_meets q t d w'⟩
  | .not n,v,hw,hv=>by
    obtain ⟨u,rfl,h⟩:=hv
    have ih:=meets_any q t d hd w S n u hw h
    exact ⟨_,_,_,rfl,fun n w=>mt_not n _ w,fun args w=>run_enter Tryz.func168 (by kernel_rfl) rfl args w,fun w' hb=>not_meets u q t d w w' hb _ ih⟩
  | .row o l,v,hw,hv=>by
    obtain ⟨b,n,c,vs,rfl,_,hb,hl,_,hn1,hc,hvs⟩:=hv
    have ih:=meets_list q t d hd w S o l vs hw.2 hvs
    have hlen:=hvs.len
    refine ⟨_,_,_,rfl,fun n w=>mt_row n _ w,fun args w=>run_enter Tryz.func174 (by kernel_rfl) rfl args w,fun w' hbw=>?_⟩
    rw [meetN,meetL_row]
    exact row_meets o b n c vs (l.map (meetN q t d)) q t d w w' hbw hb hl hn1 (by simp;omega) hc (fun i h h2=>by
      have:=ih i h (by simpa using h2)
      simpa using this)
theorem meets_list (q t:Int) (d:List UInt8) (hd:d.length≤100000) (w:World) (S:Nat → Prop) (o:Bool):∀ (l:List Nd) (vs:List Value),wfL o l → NdVs w S l vs → ∀ i (h:i < vs.length) (h2:i < l.length),MeetsA q t d vs[i] (meetN q t d l[i]) w
  | [],vs,hw,hv,i,h,h2=>by simp at h2
  | a :: l,vs,hw,hv,i,h,h2=>by
    obtain ⟨v,r,rfl,h3,h4⟩:=hv
    cases i with
    | zero=>exact meets_any q t d hd w S a v hw.1 h3
    | succ i=>exact meets_list q t d hd w S o l r hw.2.2 h4 i (by simp at h;omega) (by simp at h2;omega)
end
end SieW
end Go.Proofs.YtnpncpoiiikafaaGreatDoor
