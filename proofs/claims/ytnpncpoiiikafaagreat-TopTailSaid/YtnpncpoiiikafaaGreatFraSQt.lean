/- FraS -/
import Derived.Test.YtnpncpoiiikafaaGreatFraWQt
import Derived.Test.YtnpncpoiiikafaaGreatRouWQt
import Derived.Test.YtnpncpoiiikafaaGreatHedCQt
import Derived.BigQuiet
import Derived.Test.YtnpncpoiiikafaaGreatMemQt
set_option linter.unusedVariables false
set_option linter.unusedSimpArgs false
set_option linter.unnecessarySimpa false
set_option maxRecDepth 100000
set_option maxHeartbeats 32000000
namespace Go.Proofs.YtnpncpoiiikafaaGreat
open Go.RowKit
attribute [local go_sem] Oper.semAt_some
namespace FraW
open SufW (w64s)
def frCells (l:List Fr):List Value:=l.flatMap fun f=>(frA f).toList
theorem frCells_len (l:List Fr):(frCells l).length = l.length * 4:=flatG_len _ 4 (fun _=>rfl) l
theorem frCells_one (l:List Fr):∀ u ∈ frCells l,u.oneCell' = true:=by
 intro u hu
 obtain ⟨r,_,h⟩:=List.mem_flatMap.1 hu
 simp only [frA,List.mem_cons,List.not_mem_nil,or_false] at h
 rcases h with rfl | rfl | rfl | rfl <;> rfl
theorem frCells_snoc (l:List Fr) (f:Fr):frCells (l ++ [f]) = frCells l ++ frCells [f]:=by simp [frCells]
theorem El_fr:El Tryz.prog 67 74 4 40:=El.mk' Tryz.underlying67 (z:=.agg (frA frZ)) (by kernel_rfl) rfl (by omega)
theorem frames_any (s:List UInt8) (a:Int) (w:World) :
 Calls Tryz.prog 77 #[str s,.int .i64 a] w fun e w'=>e = .returned (.func (.func 130) #[] #[.pointer (some ⟨w.heap.size,0,none⟩),.pointer (some ⟨w.heap.size + 1,0,none⟩)])∧w' = (w.alloc (.cells #[str s] 9)).alloc (.cells #[.int .i64 a] 3):=by
 have hmf:∀ (fn:Fn) (first cap:Array Value) (w:World),(Instr.makeFunc fn first cap).run Tryz.prog w = .ok (.func fn first cap) w:=fun _ _ _ _=>rfl
 go_enter Tryz.func77,Tryz.ntmps77
 go_wp2_with fail
 go_ret
 exact ⟨rfl,rfl⟩
structure Abides (ga:Nat) (J:List Fr → World → Prop):Prop where
 below:∀ pre W W',J pre W → Below W.heap.size W W' → J pre W'
 set:∀ pre W v,J pre W → J pre (W.setCell ⟨ga,0,none⟩ v)
theorem frames_len {s:List UInt8}:∀ (f a:Nat),a≤s.length → (framesF sumV s f a).length≤s.length - a
 | 0,_,_=>by simp [framesF]
 | f + 1,a,ha=>by
  by_cases h:(getF sumV s a).2 = 0
  ·obtain ⟨_,k2,k3,_⟩:=getF_ok h
   obtain ⟨t,ht⟩:=Int.eq_ofNat_of_zero_le (show 0≤(getF sumV s a).1.tz by omega)
   rw [framesF_yes h,ht,List.length_cons]
   have:=frames_len (s:=s) f t (by omega)
   omega
  ·rw [framesF_no h];simp
theorem frames1_in (n l gs ga:Nat) (s:List UInt8) (a:Nat) (J:Nat → List Fr → World → Prop) (W0:World) (bS:Blk W0 gs 9 #[str s]) (bA:Blk W0 ga 3 #[.int .i64 a]) (hne:gs ≠ ga) (hs:s.length≤1000000) (ha:a≤s.length)
 (hJ:∀ gT,Abides ga (J gT))
 (hY:∀ gT pre x Wp W gF,J gT pre Wp → Below Wp.heap.size Wp W → W0.heap.size < Wp.heap.size → Wp.heap.size≤gF → gF < W.heap.size → gT < Wp.heap.size → W0.heap.size≤gT → pre.length≤1000000 →
  YieldAt Fence.wide n Tryz.prog l #[.agg (frA x)] W fun e W'=>e = .returned (.bool true)∧(J gT (pre ++ [x]) W'∧W.heap.size≤W'.heap.size∧∀ g,g = gs ∨ g = ga ∨ g = gT ∨ g = gF → W'.heap[g]? = W.heap[g]?))
 (h0:∀ gT W,Below W0.heap.size W0 W → W0.heap.size≤gT → gT < W.heap.size → J gT [] W) :
 CallsIn Fence.wide (n + 1) Tryz.prog 130 #[.func (.yield l) #[] #[],.pointer (some ⟨gs,0,none⟩),.pointer (some ⟨ga,0,none⟩)] W0 fun e W'=>(∃ v,e = .returned v)∧∃ gT,J gT (framesV sumV s a) W':=by
 have CT:=Table_any
 obtain ⟨ds,hds⟩:∃ ds,(us tabV).toArray = ds:=⟨_,rfl⟩
 have hdz:ds.size = 256:=by rw [← hds,List.size_toArray,us_len,tabV,tabN_len]
 have hst:=store_tab
 rw [hds] at CT hst
 have HDS:=Lib.hid hds
 have HCT:=Lib.hid CT
 have HYY:=Lib.hid hY
 have HST:=Lib.hid hst
 have hga:=bA.lt
 have hgs:=bS.lt
 clear CT hds hY hst
 refine callsIn_of_wp Tryz.func130 rfl trivial ?_ rfl
 simp only [Tryz.ntmps130,List.size_toArray,List.length_cons,List.length_nil,Nat.reduceAdd,Nat.reduceSub,Array.replicate_succ,Array.replicate_zero,List.push_toArray,List.append_toArray,List.nil_append,List.cons_append]
 gi_wp2_with fail
 refine ⟨trivial,?_⟩
 refine (callsIn_wide.2 (HCT.out _)).mono ?_
 rintro e w1 ⟨rfl,hb1⟩
 have hst:=HST.out w1
 have hz1:=hb1.size
 have bT:=Blk.new w1 192 ds
 have hb2:Below W0.heap.size W0 (w1.alloc (.cells ds 192)):=hb1.alloc hz1 _
 have hzz:w1.heap.size < (w1.alloc (.cells ds 192)).heap.size:=by simp
 gi_wp2_with fail
 obtain ⟨gT,hgT⟩:∃ gT,w1.heap.size = gT:=⟨_,rfl⟩
 obtain ⟨w2,hw2⟩:∃ w2,w1.alloc (.cells ds 192) = w2:=⟨_,rfl⟩
 rw [hgT] at hz1 bT hzz ⊢
 rw [hw2] at bT hb2 hzz ⊢
 replace bS:=bS.below hb2 bS.lt
 replace bA:=bA.below hb2 bA.lt
 have J0:=h0 gT w2 hb2 hz1 hzz
 clear hst hw2 hgT hb1 hb2
 gi_loopw [10] (fun _ wr=>∃ (pre:List Fr) (k:Nat),Blk wr ga 3 #[.int .i64 k]∧k≤s.length∧Hid (framesV sumV s a = pre ++ framesV sumV s k)∧pre.length≤k∧Blk wr gs 9 #[str s]∧Blk wr gT 192 ds∧gT < wr.heap.size∧J gT pre wr)
  (fun _ w=>s.length - ((w.cell? ⟨ga,0,none⟩).map fun v=>(intOf v).toNat).getD 0)
 case atStart=>exact ⟨[],a,bA,ha,Lib.hid rfl,by simp,bS,bT,hzz,J0⟩
 case round =>
  clear bA bS bT J0 hzz
  obtain ⟨pre,k,bA,hk,HF,hpk,bS,bT,hzz,J0⟩:=hrel
  obtain ⟨x,hx⟩:∃ x,getF sumV s (k:Int) = x:=⟨_,rfl⟩
  have C:=get_any gT s (k:Int) wr (by rw [HDS.out];exact bT) hs x hx
  have hok:=fun h=>getF_ok (S:=sumV) (s:=s) (a:=k) h
  have hyes:=fun h=>framesV_yes (S:=sumV) (s:=s) (a:=k) h
  have hno:=fun h=>framesV_no (S:=sumV) (s:=s) (a:=(k:Int)) h
  rw [hx] at hok hyes hno
  obtain ⟨f,er⟩:=x
  dsimp only at hok hyes hno C
  have HOK:=Lib.hid hok
  have HYES:=Lib.hid hyes
  have HNO:=Lib.hid hno
  have cA:=(blk1 bA).1
  have cS:=(blk1 bS).1
  have HCK:=Lib.hid cA
  clear hok hyes hno hx
  gi_wp2_with fail
  refine ⟨trivial,?_⟩
  refine (callsIn_wide.2 C).mono ?_
  clear C cA cS
  rintro e w3 ⟨rfl,hb3⟩
  obtain ⟨fk,fb,fa,ft⟩:=f
  obtain ⟨w4,hw4⟩:∃ w4,w3.alloc (.cells (frA ⟨fk,fb,fa,ft⟩) 74) = w4:=⟨_,rfl⟩
  have hw4':w3.alloc (.cells #[.int .i64 fk,str fb,.int .i64 fa,.int .i64 ft] 74) = w4:=hw4
  have bF:Blk w4 w3.heap.size 74 (frA ⟨fk,fb,fa,ft⟩):=by rw [← hw4];exact Blk.new _ _ _
  have hb4:Below wr.heap.size wr w4:=by rw [← hw4];exact hb3.alloc hb3.size _
  have hz3:=hb3.size
  have HW4:=Lib.hid hw4'
  clear hw4 hw4' hb3
  replace bA:=bA.below hb4 bA.lt
  replace bS:=bS.below hb4 bS.lt
  replace bT:=bT.below hb4 bT.lt
  have cA:=(blk1 bA).1
  have fA:=(blk1 bA).2.1
  obtain ⟨k0,k1,k2,k3,f0,f1,f2,f3,l0⟩:=blk4 bF
  by_cases he:er = 0
  ·subst he
   obtain ⟨o1,o2,o3,o4,o5⟩:=HOK.out rfl
   dsimp only at o1 o2 o3 o4 o5
   obtain ⟨ftn,rfl⟩:=Int.eq_ofNat_of_zero_le (show 0≤ft by omega)
   clear o1 o4 o5
   obtain ⟨fn,tmps,assign,body,hy,hR⟩:=HYY.out gT pre ⟨fk,fb,fa,(ftn:Int)⟩ wr w4 w3.heap.size J0 hb4 (by omega) hz3 l0 hzz hz1 (by omega)
   have hy':(Instr.yield l #[.agg #[.int .i64 fk,str fb,.int .i64 fa,.int .i64 (ftn:Int)]]).run Tryz.prog w4 = .ok (.round l fn tmps assign body) w4:=hy
   have HY2:=Lib.hid (HYES.out rfl)
   clear hy HYES HNO HOK
   have e4:=HW4.out
   clear HW4
   subst e4
   dsimp only [frA]
   gi_wp2_with fail
   refine hR.mono ?_
   clear hR hy'
   rintro e w5 ⟨rfl,hJ5,hz5,hk5⟩
   have bA5:Blk w5 ga 3 #[.int .i64 (k:Int)]:=(hk5 ga (.inr (.inl rfl))).trans bA
   have bS5:Blk w5 gs 9 #[str s]:=(hk5 gs (.inl rfl)).trans bS
   have bT5:Blk w5 gT 192 ds:=(hk5 gT (.inr (.inr (.inl rfl)))).trans bT
   have bF5:Blk w5 w3.heap.size 74 (frA ⟨fk,fb,fa,(ftn:Int)⟩):=(hk5 _ (.inr (.inr (.inr rfl)))).trans bF
   have hT5:gT < w5.heap.size:=bT5.lt
   generalize w3.heap.size = gF at *
   clear bA bS bT bF hz5 hk5 cA fA f0 f1 f2 f3 l0 k0 k1 k2 k3 hb4 J0 hzz
   have cA:=(blk1 bA5).1
   have fA:=(blk1 bA5).2.1
   obtain ⟨_,_,_,k3,_,_,_,_,_⟩:=blk4 bF5
   clear bF5
   gi_wp2_with fail
   go_roundw
   case rel =>
    refine ⟨pre ++ [⟨fk,fb,fa,(ftn:Int)⟩],ftn,bA5.set 0 _,by omega,Lib.hid ?_,?_,bS5.far hne _,bT5.far (by dsimp only;omega) _,?_,(hJ gT).set _ _ _ hJ5⟩
    ·rw [HF.out,HY2.out,List.append_assoc];rfl
    ·rw [List.length_append];simp only [List.length_cons,List.length_nil];omega
    ·simpa using hT5
   case measure=>
    have e1:=(bA5.set 0 (.int .i64 (ftn:Int))).cell_ (i:=0) rfl
    rw [HCK.out,e1]
    simp [intOf]
    omega
  ·have heb:(er != 0) = true:=by simp [he]
   have HN:=Lib.hid (HNO.out he)
   have e4:=HW4.out
   clear HYES HOK HNO HW4
   subst e4
   dsimp only [frA]
   gi_wp2_with fail
   refine ⟨fun _ h=>(by cases h),?_⟩
   gi_wp2_with fail
   refine bodyPost_ret (results_none rfl _ _ _) rfl ?_
   exact ⟨⟨_,rfl⟩,gT,by rw [HF.out,HN.out,List.append_nil];exact (hJ gT).below _ _ _ J0 hb4⟩
structure ScJ (w:World) (z gO gD l:Nat) (lo:Obj) (gT:Nat) (pre:List Fr) (W:World):Prop where
 st:∃ A n c v,Blk W gO 67 #[.slice A n c]∧Own W (l + 1) 74 4 A n c (frCells pre)∧blkOf A ≠ some gT∧Blk W z 3 #[.int .i64 v]
 lp:W.heap[l]? = some lo
 df:W.heap[gD]? = some (.deferred (some []))
 bl:Below z w W
theorem heap_lt {W:World} {k:Nat} {o:Obj} (h:W.heap[k]? = some o):k < W.heap.size:=(Array.getElem?_eq_some_iff.1 h).1
theorem scJ_abides {w:World} {z gO ga gD l:Nat} {lo:Obj} (i1:z < gO) (i2:gO < ga) (i3:ga < gD) (i4:gD < l) (gT:Nat):Abides ga (ScJ w z gO gD l lo gT):=by
 refine ⟨fun pre W W' h hb=>?_,fun pre W v h=>?_⟩
 ·obtain ⟨A,n,c,v,h1,h2,h3,h4⟩:=h.st
  refine ⟨⟨A,n,c,v,h1.below hb h1.lt,h2.below hb,h3,h4.below hb h4.lt⟩,(hb.block l (heap_lt h.lp)).trans h.lp,(hb.block gD (heap_lt h.df)).trans h.df,h.bl.trans (hb.mono (by have:=h4.lt;omega))⟩
 ·obtain ⟨A,n,c,u,h1,h2,h3,h4⟩:=h.st
  refine ⟨⟨A,n,c,u,h1.far (p:=⟨ga,0,none⟩) (by dsimp only;omega) _,h2.far (p:=⟨ga,0,none⟩) (fun e=>by have:=(h2.blk _ e).1;dsimp only at this;omega) _,h3,h4.far (p:=⟨ga,0,none⟩) (by dsimp only;omega) _⟩,
   (Below.heap_setCell W ⟨ga,0,none⟩ v l (by dsimp only;omega)).trans h.lp,(Below.heap_setCell W ⟨ga,0,none⟩ v gD (by dsimp only;omega)).trans h.df,h.bl.setCell (p:=⟨ga,0,none⟩) (by dsimp only;omega) v⟩
theorem scJ_put {w:World} {z gO gD l:Nat} {lo:Obj} (i1:z < gO) (i2:gO < gD) (i4:gD < l) {gT:Nat} {pre:List Fr} {W:World} (h:ScJ w z gO gD l lo gT pre W) (o:Obj) (hc:lo.isCells = false):ScJ w z gO gD l o gT pre (W.putObj l o):=by
 obtain ⟨A,n,c,v,h1,h2,h3,h4⟩:=h.st
 have hlt:=heap_lt h.lp
 refine ⟨⟨A,n,c,v,(World.putObj_heap_other (by omega)).trans h1,ownsRow_putObj h2 o h.lp hc,h3,(World.putObj_heap_other (by omega)).trans h4⟩,World.putObj_heap_same hlt,(World.putObj_heap_other (by omega)).trans h.df,
  h.bl.grown (grownBy_putObj' W l o) (by have:=h4.lt;omega) (fun k e=>by cases e;omega)⟩
theorem Scan_any (s:List UInt8) (a:Nat) (w:World) (hs:s.length≤1000000) (ha:a≤s.length) :
 Calls Tryz.prog 28 #[str s,.int .i64 (a:Int)] w fun e w'=>∃ A n c v,e = .returned (.tuple #[.slice A n c,.int .i64 v])∧Own w' w.heap.size 74 4 A n c (frCells (framesV sumV s a))∧Below w.heap.size w w':=by
 refine (callsIn_wide (n:=3)).1 ?_
 refine callsIn_of_wp_marks Tryz.func28 rfl trivial ?_ rfl
 simp only [Tryz.ntmps28,List.size_toArray,List.length_cons,List.length_nil,Nat.reduceAdd,Nat.reduceSub,Array.replicate_succ,Array.replicate_zero,List.push_toArray,List.append_toArray,List.nil_append,List.cons_append]
 have hf:=frames_any s a ((w.alloc (.cells #[.int .i64 (a:Int)] 3)).alloc (.cells #[.slice none 0 0] 67))
 gi_wp2_with fail
 refine ⟨trivial,?_⟩
 refine (callsIn_wide.2 hf).mono ?_
 clear hf
 rintro e w1 ⟨rfl,hw1⟩
 gi_wp2_with fail
 have bAt:=(((Blk.new w 3 #[.int .i64 (a:Int)]).alloc (.cells #[.slice none 0 0] 67)).alloc (.cells #[str s] 9)).alloc (.cells #[.int .i64 (a:Int)] 3)
 have bO:=((Blk.new (w.alloc (.cells #[.int .i64 (a:Int)] 3)) 67 #[.slice none 0 0]).alloc (.cells #[str s] 9)).alloc (.cells #[.int .i64 (a:Int)] 3)
 have bS:=(Blk.new ((w.alloc (.cells #[.int .i64 (a:Int)] 3)).alloc (.cells #[.slice none 0 0] 67)) 9 #[str s]).alloc (.cells #[.int .i64 (a:Int)] 3)
 have bA:=Blk.new (((w.alloc (.cells #[.int .i64 (a:Int)] 3)).alloc (.cells #[.slice none 0 0] 67)).alloc (.cells #[str s] 9)) 3 #[.int .i64 (a:Int)]
 have HB:Below w.heap.size w ((((w.alloc (.cells #[.int .i64 (a:Int)] 3)).alloc (.cells #[.slice none 0 0] 67)).alloc (.cells #[str s] 9)).alloc (.cells #[.int .i64 (a:Int)] 3)):=((((Below.refl _ w).alloc (Nat.le_refl _) _).alloc (by simp) _).alloc (by simp;omega) _).alloc (by simp;omega) _
 have hsz:w1.heap.size = w.heap.size + 1 + 1 + 1 + 1:=by rw [hw1];simp
 simp only [World.size_alloc] at bO bS bA
 rw [← hw1] at bAt bO bS bA HB ⊢
 clear hw1
 generalize hz:w.heap.size = z at *
 generalize hgO:z + 1 = gO at *
 generalize hgs:gO + 1 = gs at *
 generalize hga:gs + 1 = ga at *
 have hne:gs ≠ ga:=by omega
 have i1:z < gO:=by omega
 have i2:gO < gs:=by omega
 have i3:gs < ga:=by omega
 have i4:ga < w1.heap.size:=by omega
 have HZ:=Lib.hid hz
 clear hz hgO hgs hga hsz
 refine range_wide rfl rfl (fun args w=>run_enter Tryz.func130 (by kernel_rfl) rfl args w) ?_
 intro l rec W1 hl hW1 hround
 obtain ⟨gD,hgD⟩:∃ gD,w1.heap.size = gD:=⟨_,rfl⟩
 rw [hgD] at hl i4 ⊢
 have j5:gD < l:=by omega
 have hsz1:W1.heap.size = l + 1:=by rw [hW1,World.size_alloc,World.size_alloc,hgD,hl]
 have JA:=fun gT=>scJ_abides (w:=w) (lo:=.loop (rec .ready)) i1 (show gO < ga by omega) i4 j5 gT
 have J1:∀ gT,ScJ w z gO gD l (.loop (rec .ready)) gT [] W1:=by
  intro gT
  have hl1:W1.heap[l]? = some (.loop (rec .ready)):=by
   have:=World.alloc_heap_new (w1.alloc (.deferred (some []))) (.loop (rec .ready))
   rw [World.size_alloc,hgD,← hl] at this
   rw [hW1];exact this
  have hd1:W1.heap[gD]? = some (.deferred (some [])):=by
   rw [hW1,← hgD]
   exact (Below.heap_alloc _ _ _ (by simp)).trans (World.alloc_heap_new _ _)
  refine ⟨⟨none,0,0,(a:Int),?_,Own.nil _ _ _ _,by simp [blkOf],?_⟩,hl1,hd1,?_⟩
  ·rw [hW1];exact (bO.alloc _).alloc _
  ·rw [hW1];exact (bAt.alloc _).alloc _
  ·rw [hW1];exact (HB.alloc (Nat.le_of_lt bAt.lt) _).alloc (by have:=bAt.lt;simp;omega) _
 have bS1:Blk W1 gs 9 #[str s]:=by rw [hW1];exact (bS.alloc _).alloc _
 have bA1:Blk W1 ga 3 #[.int .i64 (a:Int)]:=by rw [hW1];exact (bA.alloc _).alloc _
 have hR2:∀ m,_:=fun m=>frames1_in m l gs ga s a (fun gT pre W=>ScJ w z gO gD l (.loop (rec .ready)) gT pre W) W1 bS1 bA1 hne hs ha JA ?rnd (fun gT W hb h1 h2=>(JA gT).below _ _ _ (J1 gT) hb)
 case rnd =>
  intro gT pre x Wp W gF J0 hb hz0 hzF hF hgT hg0 hpl
  obtain ⟨A,n,c,v,hO,own,hAT,hAt⟩:=J0.st
  have hAF:blkOf A ≠ some gF:=fun e=>by have:=(own.blk _ e).2;omega
  have hgX:∀ k,blkOf A = some k → k < W.heap.size:=fun k e=>by have:=(own.blk _ e).2;have:=hb.size;omega
  have hnl:n = pre.length:=by have:=own.len;rw [frCells_len] at this;omega
  have hn6:n≤1000000:=by omega
  clear hnl
  have hAl:∀ g,g≤l → blkOf A ≠ some g:=fun g h e=>by have:=(own.blk _ e).1;omega
  have hlW:=(hb.block l (heap_lt J0.lp)).trans J0.lp
  have hdW:=(hb.block gD (heap_lt J0.df)).trans J0.df
  have HBW:Below z w W:=J0.bl.trans (hb.mono (by have:=hAt.lt;omega))
  replace hO:=hO.below hb hO.lt
  replace hAt:=hAt.below hb hAt.lt
  replace own:=own.below hb
  have hzW:l + 1≤W.heap.size:=by have:=hb.size;omega
  have hgTW:gT < W.heap.size:=by have:=hb.size;omega
  refine hround m (.agg (frA x)) W (fun W'=>ScJ w z gO gD l (.loop (rec .ready)) gT (pre ++ [x]) W'∧W.heap.size≤W'.heap.size∧∀ g,g = gs ∨ g = ga ∨ g = gT ∨ g = gF → W'.heap[g]? = W.heap[g]?) hlW ?_
  clear hround JA J1 hb J0
  obtain ⟨fk,fb,fa,ft⟩:=x
  dsimp only [frA,roundTmps]
  gi_wp2_with fail
  refine ⟨(Below.heap_alloc W _ l (heap_lt hlW)).trans hlW,?_⟩
  obtain ⟨gX,hgX'⟩:∃ gX,W.heap.size = gX:=⟨_,rfl⟩
  obtain ⟨Wb,hWb⟩:∃ Wb,(W.alloc (.cells (frA ⟨fk,fb,fa,ft⟩) 74)).putObj l (.loop (rec .busy)) = Wb:=⟨_,rfl⟩
  have hWb':(W.alloc (.cells #[.int .i64 fk,.string { data:=fb.toArray },.int .i64 fa,.int .i64 ft] 74)).putObj l (.loop (rec .busy)) = Wb:=hWb
  have hlA:(W.alloc (.cells (frA ⟨fk,fb,fa,ft⟩) 74)).heap[l]? = some (.loop (rec .ready)):=(Below.heap_alloc W _ l (heap_lt hlW)).trans hlW
  have hzA:(W.alloc (.cells (frA ⟨fk,fb,fa,ft⟩) 74)).heap.size = gX + 1:=by rw [World.size_alloc,hgX']
  have bX:Blk Wb gX 74 (frA ⟨fk,fb,fa,ft⟩):=by rw [← hWb,← hgX'];exact (World.putObj_heap_other (by omega)).trans (Blk.new W _ _)
  have hO2:Blk Wb gO 67 #[.slice A n c]:=by rw [← hWb];exact (World.putObj_heap_other (by omega)).trans (hO.alloc _)
  have hAt2:Blk Wb z 3 #[.int .i64 v]:=by rw [← hWb];exact (World.putObj_heap_other (by omega)).trans (hAt.alloc _)
  have own2:Own Wb (l + 1) 74 4 A n c (frCells pre):=by rw [← hWb];exact ownsRow_putObj (own.alloc _) _ hlA rfl
  have HB2:Below z w Wb:=by
   rw [← hWb]
   exact (HBW.alloc (by omega) _).grown (grownBy_putObj' _ l _) (by rw [hzA];omega) (fun k e=>by cases e;omega)
  have hlB:Wb.heap[l]? = some (.loop (rec .busy)):=by rw [← hWb];exact World.putObj_heap_same (by rw [hzA];omega)
  have hkB:∀ g,g < gX → g ≠ l → Wb.heap[g]? = W.heap[g]?:=by
   intro g h1 h2
   rw [← hWb]
   exact (World.putObj_heap_other h2).trans (Below.heap_alloc W _ g (by omega))
  have hzB:Wb.heap.size = gX + 1:=by rw [← hWb,World.putObj_size,hzA]
  have hAX:blkOf A ≠ some gX:=fun e=>by have:=hgX _ e;omega
  have hzB1:l + 1≤Wb.heap.size:=by omega
  have hzB2:gX < Wb.heap.size:=by omega
  have hzle:w.heap.size≤z:=by rw [HZ.out];omega
  have HB3:Below w.heap.size w Wb:=by rw [HZ.out];exact HB2
  rw [hWb',hgX']
  rw [hgX'] at hF hgTW hzW
  clear hWb hWb' hlA hzA hO hAt own HBW HB2 hgX hgX'
  refine wpIn_block ?_
  refine wpInR_region_held_drew (fun w'=>w'.cell? ⟨gX,0,none⟩ = some (.int .i64 fk)∧w'.cell? ⟨gX,1,none⟩ = some (str fb)∧w'.cell? ⟨gX,2,none⟩ = some (.int .i64 fa)∧w'.cell? ⟨gX,3,none⟩ = some (.int .i64 ft)) (by kernel_rfl) (by kernel_rfl) (fun _ _ h=>by cases (And.left h)) ?_ (fun hHeld=>?_)
  ·replace own2:=Own.drew own2;replace hO2:=Blk.drew hO2;replace hAt2:=Blk.drew hAt2;replace bX:=Blk.drew bX;replace HB3:=Below.drew HB3;(try dsimp only);exact ⟨bX.cell_ 0 rfl,bX.cell_ 1 rfl,bX.cell_ 2 rfl,bX.cell_ 3 rfl⟩
  replace own2:=Own.drew own2
  replace hO2:=Blk.drew hO2
  replace hAt2:=Blk.drew hAt2
  replace bX:=Blk.drew bX
  replace HB3:=Below.drew HB3
  have zHB3:=HB3.size
  refine zO 1 (.load 74 (.tmp 7)) 74 ?_
  refine zO 4 (.fieldAddr 74 (.tmp 7) 3) 0 ?_
  refine zO 5 (.load 3 (.tmp 16)) 3 ?_
  refine wpAnyH_ready (rs:=[0,2]) (by kernel_rfl) (by simp) (AllReadyH.cons rfl (fun K0 hK0=>?ku1x0) (AllReadyH.cons rfl (fun K2 hK2=>?ku1x2) AllReadyH.nil))
  case ku1x0 =>
   refine take_any 0 (Op.load 67 (Operand.tmp 6)) 67 rfl rfl rfl (by kernel_rfl) (v:=.slice A n c) (by have k0:=(blk1 hO2).1;go_simp;try (with_reducible rfl)) ?_
   refine hK0.out _ _ ?su1xb1x0 (fun hHeld=>?ru1xb1x0)
   case su1xb1x0=>((try dsimp only);exact ⟨bX.cell_ 0 rfl,bX.cell_ 1 rfl,bX.cell_ 2 rfl,bX.cell_ 3 rfl⟩)
   try simp only [zSa,zSb,zSc]
   refine zR 2 (fun K2 hK2=>?_)
   refine take_build (e:=74) (len:=1) (size:=4) (l + 1) ([.int .i64 fk,str fb,.int .i64 fa,.int .i64 ft]) 2 (Op.buildSlice 67 1 #[(0,Operand.tmp 13)]) 67 rfl rfl rfl (by kernel_rfl) ?eu1xb1x2 (by rfl) (by decide) (by first | exact Nat.le_refl _ | (simp only [World.size_alloc,World.size_setCell,World.size_drew] at *;omega) | omega) ?_
   case eu1xb1x2=>(go_simp;try (first | with_reducible rfl | (simp [rcells,rcell];done) | (simp [fcells];done) | (simp [tcells];done) | rfl))
   intro gx2 w2 o2 gr2 l2 m2
   have z2:=gr2.size
   try simp only [World.size_drew] at z2
   replace own2:=Own.grow0 own2 gr2
   replace hO2:=Blk.grow0 hO2 gr2
   replace hAt2:=Blk.grow0 hAt2 gr2
   replace bX:=Blk.grow0 bX gr2
   replace HB3:=below_grow HB3 gr2
   have zHB32:=HB3.size
   refine hK2.out _ _ ?su1xb1x2 (fun hHeld=>?ru1xb1x2)
   case su1xb1x2=>((try dsimp only);exact ⟨bX.cell_ 0 rfl,bX.cell_ 1 rfl,bX.cell_ 2 rfl,bX.cell_ 3 rfl⟩)
   try simp only [zSa,zSb,zSc]
   refine zR 3 (fun K3 hK3=>?_)
   refine take_app El_fr 3 (Operand.tmp 12) (Operand.tmp 14) 67 rfl rfl rfl (by kernel_rfl) own2 rfl (o2.rd) rfl (frCells_one [⟨fk,fb,fa,ft⟩]) (by unfold maxLen;omega) (by omega) (by first | exact Nat.le_refl _ | (simp only [World.size_alloc,World.size_setCell,World.size_drew] at *;omega) | omega) ?_
   intro A3 c3 w3 o3 gr3 at3
   have z3:=gr3.size
   try simp only [World.size_drew] at z3
   replace hO2:=Blk.grown hO2 gr3 (by intro e;first | exact absurd e.symm hAX | (have:=own2.blk _ e.symm;omega))
   replace hAt2:=Blk.grown hAt2 gr3 (by intro e;first | exact absurd e.symm hAX | (have:=own2.blk _ e.symm;omega))
   replace bX:=Blk.grown bX gr3 (by intro e;first | exact absurd e.symm hAX | (have:=own2.blk _ e.symm;omega))
   replace HB3:=below_grown HB3 gr3 own2 (by first | exact Nat.le_refl _ | (simp only [World.size_alloc,World.size_setCell,World.size_drew] at *;omega) | omega)
   have zHB33:=HB3.size
   refine hK3.out _ _ ?su1xb1x3 (fun hHeld=>?ru1xb1x3)
   case su1xb1x3=>((try dsimp only);exact ⟨bX.cell_ 0 rfl,bX.cell_ 1 rfl,bX.cell_ 2 rfl,bX.cell_ 3 rfl⟩)
   try simp only [zSa,zSb,zSc]
   refine zR 6 (fun K6 hK6=>?_)
   refine take_store 6 (Op.store 67 (Operand.tmp 6) (Operand.tmp 15)) 0 rfl rfl rfl (by kernel_rfl) (w':=w3.setCell ⟨gO,0,none⟩ (.slice A3 (n + 1) c3)) (by have bO3:Blk w3 gO 67 _:=hO2;obtain ⟨k0,k1,k2⟩:=blk1 bO3;go_simp;try (with_reducible rfl)) ?_
   refine hK6.out _ _ (⟨(bX.far (p:=⟨gO,0,none⟩) (by dsimp only;omega) (.slice A3 (n + 1) c3)).cell_ 0 rfl,(bX.far (p:=⟨gO,0,none⟩) (by dsimp only;omega) (.slice A3 (n + 1) c3)).cell_ 1 rfl,(bX.far (p:=⟨gO,0,none⟩) (by dsimp only;omega) (.slice A3 (n + 1) c3)).cell_ 2 rfl,(bX.far (p:=⟨gO,0,none⟩) (by dsimp only;omega) (.slice A3 (n + 1) c3)).cell_ 3 rfl⟩) (fun hHeld=>?_)
   have hAt3:Blk w3 z 3 _:=hAt2
   replace bX:=(bX.far (p:=⟨gO,0,none⟩) (by dsimp only;omega) (.slice A3 (n + 1) c3))
   replace hAt2:=hAt2.far (p:=⟨gO,0,none⟩) (by dsimp only;omega) (.slice A3 (n + 1) c3)
   replace HB3:=HB3.setCell (p:=⟨gO,0,none⟩) (by dsimp only;omega) (.slice A3 (n + 1) c3)
   have o4:=o3.far (p:=⟨gO,0,none⟩) (fun e=>by have:=(o3.blk _ e).1;dsimp only at this;omega) (.slice A3 (n + 1) c3)
   replace hO2:=hO2.set 0 (.slice A3 (n + 1) c3)
   refine zR 7 (fun K7 hK7=>?_)
   refine take_store 7 (Op.store 3 (Operand.tmp 3) (Operand.tmp 17)) 0 rfl rfl rfl (by kernel_rfl) (w':=(w3.setCell ⟨gO,0,none⟩ (.slice A3 (n + 1) c3)).setCell ⟨z,0,none⟩ (.int .i64 ft)) (by obtain ⟨k0,k1,k2⟩:=blk1 hAt3;go_simp;try (with_reducible rfl)) ?_
   refine hK7.out _ _ (⟨(bX.far (p:=⟨z,0,none⟩) (by dsimp only;omega) (.int .i64 ft)).cell_ 0 rfl,(bX.far (p:=⟨z,0,none⟩) (by dsimp only;omega) (.int .i64 ft)).cell_ 1 rfl,(bX.far (p:=⟨z,0,none⟩) (by dsimp only;omega) (.int .i64 ft)).cell_ 2 rfl,(bX.far (p:=⟨z,0,none⟩) (by dsimp only;omega) (.int .i64 ft)).cell_ 3 rfl⟩) (fun hHeld=>?_)
   replace hO2:=hO2.far (p:=⟨z,0,none⟩) (by dsimp only;omega) (.int .i64 ft)
   replace HB3:=HB3.setCell (p:=⟨z,0,none⟩) (by dsimp only;omega) (.int .i64 ft)
   replace o4:=o4.far (p:=⟨z,0,none⟩) (fun e=>by have:=(o4.blk _ e).1;dsimp only at this;omega) (.int .i64 ft)
   replace hAt2:=hAt2.set 0 (.int .i64 ft)
   refine wpAnyH_done (by kernel_rfl) ?_ _
   have z2:=gr2.size
   have z3:=gr3.size
   have hkZ:∀ g,g < gX + 1 → g ≠ gO → g ≠ z → blkOf A ≠ some g → ((w3.setCell ⟨gO,0,none⟩ (.slice A3 (n + 1) c3)).setCell ⟨z,0,none⟩ (.int .i64 ft)).heap[g]? = Wb.heap[g]?:=by
    intro g h1 h2 h3 h4
    refine (Below.heap_setCell _ ⟨z,0,none⟩ _ g (by dsimp only;omega)).trans ((Below.heap_setCell _ ⟨gO,0,none⟩ _ g (by dsimp only;omega)).trans ?_)
    have e2:=gr2.block g (show g < Wb.heap.size by omega) (by simp)
    exact (gr3.block g (by have:Wb.drew.heap.size = Wb.heap.size:=rfl;omega) (fun e=>h4 e.symm)).trans e2
   have hsZ:((w3.setCell ⟨gO,0,none⟩ (.slice A3 (n + 1) c3)).setCell ⟨z,0,none⟩ (.int .i64 ft)).heap.size = w3.heap.size:=by simp
   have hzz:Wb.drew.heap.size = Wb.heap.size:=rfl
   have hlZ:=(hkZ l (by omega) (by omega) (by omega) (hAl l (Nat.le_refl _))).trans hlB
   have hdZ:=(hkZ gD (by omega) (by omega) (by omega) (hAl gD (by omega))).trans ((hkB gD (by omega) (by omega)).trans hdW)
   have hA3:blkOf A3 ≠ some gT:=by
    rcases at3 with e | e
    ·rw [e];exact hAT
    ·rw [e];intro e2;simp only [Option.some.injEq] at e2;omega
   have hJ:ScJ w z gO gD l (.loop (rec .busy)) gT (pre ++ [⟨fk,fb,fa,ft⟩]) ((w3.setCell ⟨gO,0,none⟩ (.slice A3 (n + 1) c3)).setCell ⟨z,0,none⟩ (.int .i64 ft)) :=
    ⟨⟨A3,n + 1,c3,ft,hO2,by rw [frCells_snoc];exact o4,hA3,hAt2⟩,hlZ,hdZ,by have hb:=HB3;rw [HZ.out] at hb;exact hb⟩
   refine (⟨rfl,hlZ,scJ_put i1 (by omega) j5 hJ _ rfl,?_,fun g hg=>?_⟩:_∧_∧_∧_∧_)
   ·rw [World.putObj_size,hsZ];omega
   have hg1:g < gX∧g ≠ l∧g ≠ gO∧g ≠ z∧blkOf A ≠ some g:=by
    rcases hg with rfl | rfl | rfl | rfl
    ·exact ⟨by omega,by omega,by omega,by omega,hAl _ (by omega)⟩
    ·exact ⟨by omega,by omega,by omega,by omega,hAl _ (by omega)⟩
    ·exact ⟨by omega,by omega,by omega,by omega,hAT⟩
    ·exact ⟨by omega,by omega,by omega,by omega,hAF⟩
   exact (World.putObj_heap_other hg1.2.1).trans ((hkZ g (by omega) hg1.2.2.1 hg1.2.2.2.1 hg1.2.2.2.2).trans (hkB g hg1.1 hg1.2.1))
  case ku1x2 =>
   refine take_build (e:=74) (len:=1) (size:=4) (l + 1) ([.int .i64 fk,str fb,.int .i64 fa,.int .i64 ft]) 2 (Op.buildSlice 67 1 #[(0,Operand.tmp 13)]) 67 rfl rfl rfl (by kernel_rfl) ?eu1xb6x2 (by rfl) (by decide) (by first | exact Nat.le_refl _ | (simp only [World.size_alloc,World.size_setCell,World.size_drew] at *;omega) | omega) ?_
   case eu1xb6x2=>(go_simp;try (first | with_reducible rfl | (simp [rcells,rcell];done) | (simp [fcells];done) | (simp [tcells];done) | rfl))
   intro gx2 w2 o2 gr2 l2 m2
   have z2:=gr2.size
   try simp only [World.size_drew] at z2
   replace own2:=Own.grow0 own2 gr2
   replace hO2:=Blk.grow0 hO2 gr2
   replace hAt2:=Blk.grow0 hAt2 gr2
   replace bX:=Blk.grow0 bX gr2
   replace HB3:=below_grow HB3 gr2
   have zHB32:=HB3.size
   refine hK2.out _ _ ?su1xb6x2 (fun hHeld=>?ru1xb6x2)
   case su1xb6x2=>((try dsimp only);exact ⟨bX.cell_ 0 rfl,bX.cell_ 1 rfl,bX.cell_ 2 rfl,bX.cell_ 3 rfl⟩)
   try simp only [zSa,zSb,zSc]
   refine zR 0 (fun K0 hK0=>?_)
   refine take_any 0 (Op.load 67 (Operand.tmp 6)) 67 rfl rfl rfl (by kernel_rfl) (v:=.slice A n c) (by have k0:=(blk1 hO2).1;go_simp;try (with_reducible rfl)) ?_
   refine hK0.out _ _ ?su1xb6x0 (fun hHeld=>?ru1xb6x0)
   case su1xb6x0=>((try dsimp only);exact ⟨bX.cell_ 0 rfl,bX.cell_ 1 rfl,bX.cell_ 2 rfl,bX.cell_ 3 rfl⟩)
   try simp only [zSa,zSb,zSc]
   refine zR 3 (fun K3 hK3=>?_)
   refine take_app El_fr 3 (Operand.tmp 12) (Operand.tmp 14) 67 rfl rfl rfl (by kernel_rfl) own2 rfl (o2.rd) rfl (frCells_one [⟨fk,fb,fa,ft⟩]) (by unfold maxLen;omega) (by omega) (by first | exact Nat.le_refl _ | (simp only [World.size_alloc,World.size_setCell,World.size_drew] at *;omega) | omega) ?_
   intro A3 c3 w3 o3 gr3 at3
   have z3:=gr3.size
   try simp only [World.size_drew] at z3
   replace hO2:=Blk.grown hO2 gr3 (by intro e;first | exact absurd e.symm hAX | (have:=own2.blk _ e.symm;omega))
   replace hAt2:=Blk.grown hAt2 gr3 (by intro e;first | exact absurd e.symm hAX | (have:=own2.blk _ e.symm;omega))
   replace bX:=Blk.grown bX gr3 (by intro e;first | exact absurd e.symm hAX | (have:=own2.blk _ e.symm;omega))
   replace HB3:=below_grown HB3 gr3 own2 (by first | exact Nat.le_refl _ | (simp only [World.size_alloc,World.size_setCell,World.size_drew] at *;omega) | omega)
   have zHB33:=HB3.size
   refine hK3.out _ _ ?su1xb6x3 (fun hHeld=>?ru1xb6x3)
   case su1xb6x3=>((try dsimp only);exact ⟨bX.cell_ 0 rfl,bX.cell_ 1 rfl,bX.cell_ 2 rfl,bX.cell_ 3 rfl⟩)
   try simp only [zSa,zSb,zSc]
   refine zR 6 (fun K6 hK6=>?_)
   refine take_store 6 (Op.store 67 (Operand.tmp 6) (Operand.tmp 15)) 0 rfl rfl rfl (by kernel_rfl) (w':=w3.setCell ⟨gO,0,none⟩ (.slice A3 (n + 1) c3)) (by have bO3:Blk w3 gO 67 _:=hO2;obtain ⟨k0,k1,k2⟩:=blk1 bO3;go_simp;try (with_reducible rfl)) ?_
   refine hK6.out _ _ (⟨(bX.far (p:=⟨gO,0,none⟩) (by dsimp only;omega) (.slice A3 (n + 1) c3)).cell_ 0 rfl,(bX.far (p:=⟨gO,0,none⟩) (by dsimp only;omega) (.slice A3 (n + 1) c3)).cell_ 1 rfl,(bX.far (p:=⟨gO,0,none⟩) (by dsimp only;omega) (.slice A3 (n + 1) c3)).cell_ 2 rfl,(bX.far (p:=⟨gO,0,none⟩) (by dsimp only;omega) (.slice A3 (n + 1) c3)).cell_ 3 rfl⟩) (fun hHeld=>?_)
   have hAt3:Blk w3 z 3 _:=hAt2
   replace bX:=(bX.far (p:=⟨gO,0,none⟩) (by dsimp only;omega) (.slice A3 (n + 1) c3))
   replace hAt2:=hAt2.far (p:=⟨gO,0,none⟩) (by dsimp only;omega) (.slice A3 (n + 1) c3)
   replace HB3:=HB3.setCell (p:=⟨gO,0,none⟩) (by dsimp only;omega) (.slice A3 (n + 1) c3)
   have o4:=o3.far (p:=⟨gO,0,none⟩) (fun e=>by have:=(o3.blk _ e).1;dsimp only at this;omega) (.slice A3 (n + 1) c3)
   replace hO2:=hO2.set 0 (.slice A3 (n + 1) c3)
   refine zR 7 (fun K7 hK7=>?_)
   refine take_store 7 (Op.store 3 (Operand.tmp 3) (Operand.tmp 17)) 0 rfl rfl rfl (by kernel_rfl) (w':=(w3.setCell ⟨gO,0,none⟩ (.slice A3 (n + 1) c3)).setCell ⟨z,0,none⟩ (.int .i64 ft)) (by obtain ⟨k0,k1,k2⟩:=blk1 hAt3;go_simp;try (with_reducible rfl)) ?_
   refine hK7.out _ _ (⟨(bX.far (p:=⟨z,0,none⟩) (by dsimp only;omega) (.int .i64 ft)).cell_ 0 rfl,(bX.far (p:=⟨z,0,none⟩) (by dsimp only;omega) (.int .i64 ft)).cell_ 1 rfl,(bX.far (p:=⟨z,0,none⟩) (by dsimp only;omega) (.int .i64 ft)).cell_ 2 rfl,(bX.far (p:=⟨z,0,none⟩) (by dsimp only;omega) (.int .i64 ft)).cell_ 3 rfl⟩) (fun hHeld=>?_)
   replace hO2:=hO2.far (p:=⟨z,0,none⟩) (by dsimp only;omega) (.int .i64 ft)
   replace HB3:=HB3.setCell (p:=⟨z,0,none⟩) (by dsimp only;omega) (.int .i64 ft)
   replace o4:=o4.far (p:=⟨z,0,none⟩) (fun e=>by have:=(o4.blk _ e).1;dsimp only at this;omega) (.int .i64 ft)
   replace hAt2:=hAt2.set 0 (.int .i64 ft)
   refine wpAnyH_done (by kernel_rfl) ?_ _
   have z2:=gr2.size
   have z3:=gr3.size
   have hkZ:∀ g,g < gX + 1 → g ≠ gO → g ≠ z → blkOf A ≠ some g → ((w3.setCell ⟨gO,0,none⟩ (.slice A3 (n + 1) c3)).setCell ⟨z,0,none⟩ (.int .i64 ft)).heap[g]? = Wb.heap[g]?:=by
    intro g h1 h2 h3 h4
    refine (Below.heap_setCell _ ⟨z,0,none⟩ _ g (by dsimp only;omega)).trans ((Below.heap_setCell _ ⟨gO,0,none⟩ _ g (by dsimp only;omega)).trans ?_)
    have e2:=gr2.block g (show g < Wb.heap.size by omega) (by simp)
    exact (gr3.block g (by have:Wb.drew.heap.size = Wb.heap.size:=rfl;omega) (fun e=>h4 e.symm)).trans e2
   have hsZ:((w3.setCell ⟨gO,0,none⟩ (.slice A3 (n + 1) c3)).setCell ⟨z,0,none⟩ (.int .i64 ft)).heap.size = w3.heap.size:=by simp
   have hzz:Wb.drew.heap.size = Wb.heap.size:=rfl
   have hlZ:=(hkZ l (by omega) (by omega) (by omega) (hAl l (Nat.le_refl _))).trans hlB
   have hdZ:=(hkZ gD (by omega) (by omega) (by omega) (hAl gD (by omega))).trans ((hkB gD (by omega) (by omega)).trans hdW)
   have hA3:blkOf A3 ≠ some gT:=by
    rcases at3 with e | e
    ·rw [e];exact hAT
    ·rw [e];intro e2;simp only [Option.some.injEq] at e2;omega
   have hJ:ScJ w z gO gD l (.loop (rec .busy)) gT (pre ++ [⟨fk,fb,fa,ft⟩]) ((w3.setCell ⟨gO,0,none⟩ (.slice A3 (n + 1) c3)).setCell ⟨z,0,none⟩ (.int .i64 ft)) :=
    ⟨⟨A3,n + 1,c3,ft,hO2,by rw [frCells_snoc];exact o4,hA3,hAt2⟩,hlZ,hdZ,by have hb:=HB3;rw [HZ.out] at hb;exact hb⟩
   refine (⟨rfl,hlZ,scJ_put i1 (by omega) j5 hJ _ rfl,?_,fun g hg=>?_⟩:_∧_∧_∧_∧_)
   ·rw [World.putObj_size,hsZ];omega
   have hg1:g < gX∧g ≠ l∧g ≠ gO∧g ≠ z∧blkOf A ≠ some g:=by
    rcases hg with rfl | rfl | rfl | rfl
    ·exact ⟨by omega,by omega,by omega,by omega,hAl _ (by omega)⟩
    ·exact ⟨by omega,by omega,by omega,by omega,hAl _ (by omega)⟩
    ·exact ⟨by omega,by omega,by omega,by omega,hAT⟩
    ·exact ⟨by omega,by omega,by omega,by omega,hAF⟩
   exact (World.putObj_heap_other hg1.2.1).trans ((hkZ g (by omega) hg1.2.2.1 hg1.2.2.2.1 hg1.2.2.2.2).trans (hkB g hg1.1 hg1.2.1))
 refine (hR2 2).mono ?_
 rintro e W2 ⟨hv,gT,h2⟩
 refine ⟨hv,h2.lp,?_⟩
 obtain ⟨A,n,c,v,hO,hown,_,hAt⟩:=h2.st
 replace hO:Blk (W2.putObj l (.loop (rec .exhausted))) gO 67 #[.slice A n c]:=(World.putObj_heap_other (by omega)).trans hO
 replace hAt:Blk (W2.putObj l (.loop (rec .exhausted))) z 3 #[.int .i64 v]:=(World.putObj_heap_other (by omega)).trans hAt
 have hd:=(World.putObj_heap_other (w:=W2) (o:=.loop (rec .exhausted)) (show gD ≠ l by omega)).trans h2.df
 have own:=ownsRow_putObj hown (.loop (rec .exhausted)) h2.lp rfl
 have HB2:=h2.bl.grown (grownBy_putObj' W2 l (.loop (rec .exhausted))) (by have:=heap_lt h2.lp;omega) (fun k e=>by cases e;omega)
 generalize W2.putObj l (.loop (rec .exhausted)) = W3 at *
 have cO:=(blk1 hO).1
 have cA:=(blk1 hAt).1
 clear h2 hO hAt hown
 simp only [Exit.inBlock]
 gi_wp2_with fail
 gi_region
 gi_wp2_with fail
 have hd2:W3.drew.heap[gD]? = some (.deferred (some [])):=hd
 have own2:Own W3.drew (l + 1) 74 4 A n c (frCells (framesV sumV s a)):=own
 have own3:Own (W3.drew.putObj gD (.deferred none)) (l + 1) 74 4 A n c (frCells (framesV sumV s a)):=ownsRow_putObj own2 (.deferred none) hd2 rfl
 have HB3:Below z w (W3.drew.putObj gD (.deferred none)):=HB2.drew.grown (grownBy_putObj' _ gD _) (by have:=heap_lt hd2;omega) (fun k e=>by cases e;omega)
 refine ⟨by simp,.inl ⟨gD,_,rfl,run_takeDeferred hd2,?_⟩⟩
 refine ⟨.tuple #[.slice A n c,.int .i64 v],?_,A,n,c,v,rfl,own3.base_le (by rw [HZ.out];omega),by rw [HZ.out];exact HB3⟩
 simp [results,Tryz.results28]
end FraW
end Go.Proofs.YtnpncpoiiikafaaGreat
