/- SieA -/
import Derived.Test.YtnpncpoiiikafaaGreatDoorSiePQs
import Derived.Test.YtnpncpoiiikafaaGreatDoorAppQs
import Derived.Test.YtnpncpoiiikafaaGreatDoorPartsQs
import Derived.Test.YtnpncpoiiikafaaGreatDoorMemQs
set_option linter.unusedVariables false
set_option linter.unusedSimpArgs false
set_option linter.unnecessarySimpa false
namespace Go.Proofs.YtnpncpoiiikafaaGreatDoor
open Go.RowKit
namespace SieW
def wcells (l:List Wd):List Value:=l.flatMap fun x=>[str x.1,.int .i64 x.2]
theorem wcells_len (l:List Wd):(wcells l).length = l.length * 2:=by
  induction l with
  | nil=>rfl
  | cons a l ih=>simp [wcells,List.flatMap_cons] at ih ⊢;omega
theorem wcells_app (a b:List Wd):wcells (a ++ b) = wcells a ++ wcells b:=by simp [wcells]
theorem wcells_drop (l:List Wd) (k:Nat):wcells (l.drop k) = (wcells l).drop (k * 2):=by
  induction k generalizing l with
  | zero=>simp
  | succ k ih =>
    cases l with
    | nil=>simp [wcells]
    | cons a l=>rw [List.drop_succ_cons,ih,show (k + 1) * 2 = k * 2 + 2 by omega];rfl
theorem wcells_one (l:List Wd):∀ u ∈ wcells l,u.oneCell' = true:=by
  intro u hu
  simp only [wcells,List.mem_flatMap] at hu
  obtain ⟨x,_,hx⟩:=hu
  simp only [List.mem_cons,List.not_mem_nil,or_false] at hx
  rcases hx with rfl | rfl <;> rfl
theorem El_word:El Tryz.prog 48 57 2 24:=El.mk' Tryz.underlying48 (z:=.agg #[.string ⟨#[]⟩,.int .i64 0]) (by kernel_rfl) rfl (by decide)
def rdS (A:Option Addr) (n c:Nat) (en:Int) (sz dp:Nat):Array Value:=#[.slice A n c,.int .i64 en,.int .i64 sz,.int .i64 dp]
def Wt (w:World) (g:Nat):Prop:=∃ W0,WanW.Wo W0∧Below W0.heap.size W0 w∧W0.heap.size≤g
theorem Wt.wo {w:World} {g:Nat} (h:Wt w g):WanW.Wo w:=by
  obtain ⟨W0,a,b,_⟩:=h
  exact a.below b
theorem Wt.turn {w w':World} {g:Nat} (h:Wt w g) (hg:w.grownBy w' (some g)):Wt w' g:=by
  obtain ⟨W0,a,b,c⟩:=h
  exact ⟨W0,a,b.grown hg b.size (fun k e=>by cases e;exact c),c⟩
theorem Wt.below {w w':World} {g:Nat} (h:Wt w g) (hb:Below w.heap.size w w'):Wt w' g:=by
  obtain ⟨W0,a,b,c⟩:=h
  exact ⟨W0,a,b.trans (hb.mono b.size),c⟩
structure At (w:World) (g:Nat) (en:Int) (l:List Wd) (sz dp:Nat):Prop where
  wt:Wt w g
  few:Few l
  len:l.length≤1000
  szl:sz≤100
  dpl:dp≤20
  at_:∃ A n c,Blk w g 51 (rdS A n c en sz dp)∧Rd w g 2 A n (wcells l)∧n≤c∧c≤maxLen
abbrev wv (x:Wd):Value:=.agg #[str x.1,.int .i64 x.2]
abbrev flt (e a:Int):List PanicEntry:=[{ v:=.iface 45 (.agg #[.int .i64 e,.int .i64 a]),recovered:=false }]
theorem wrong_any (e:Int) (x:Wd) (w:World) :
    Calls Tryz.prog 17 #[.int .i64 e,wv x] w fun r w'=>r = .panicked (flt e x.2)∧Below w.heap.size w w':=by
  obtain ⟨a,b⟩:=x
  have hb:=Blk.new w 57 #[str a,.int .i64 b]
  obtain ⟨c0,c1,f0,f1,z⟩:=blk2 hb
  go_enter Tryz.func17,Tryz.ntmps17
  go_wp2_with fail
  simp [bodyPost]
  exact (Below.refl w.heap.size w).alloc (Nat.le_refl _) _
theorem results_r1 {P:Program} {fn:Func} {p:Tmp} {ty:TypeId} (h:fn.results = #[.cell p ty]) (tmps:Array Value) (w:World) (g:Nat) (cs:Array Value) (d:TypeDesc)
    (hp:tmps.getD p undef = .pointer (some ⟨g,0,none⟩)) {t:TypeId} (hg:Blk w g t cs)
    (hu:P.underlying ty = some d) (hd:(match d with | .struct _ | .array _ _=>true | _=>false) = true) (hi:(P.info? ty).map (·.size) = some cs.size) :
    (results fn tmps).run P w = .ok (.agg cs) w:=by
  have hp':tmps[p]?.getD undef = .pointer (some ⟨g,0,none⟩):=by simpa using hp
  simp [results,h,hp',asAddr,run_loadVar_row w g t ty cs (0,0) d hg hu hd hi]
theorem blk4f {w:World} {g:Nat} {t:TypeId} {a0 a1 a2 a3:Value} (h:Blk w g t #[a0,a1,a2,a3]) :
    w.cell? ⟨g,0,none⟩ = some a0∧w.cell? ⟨g,1,none⟩ = some a1∧w.cell? ⟨g,2,none⟩ = some a2∧w.cell? ⟨g,3,none⟩ = some a3∧w.frozen? ⟨g,0,none⟩ = false∧w.frozen? ⟨g,1,none⟩ = false∧w.frozen? ⟨g,2,none⟩ = false∧w.frozen? ⟨g,3,none⟩ = false∧g < w.heap.size :=
  ⟨h.cell_ 0 rfl,h.cell_ 1 rfl,h.cell_ 2 rfl,h.cell_ 3 rfl,h.frozen 0,h.frozen 1,h.frozen 2,h.frozen 3,h.lt⟩
theorem rd_wlen {w:World} {B:Nat} {A:Option Addr} {n:Nat} {l:List Wd} (h:Rd w B 2 A n (wcells l)):l.length = n:=by have:=h.len;rw [wcells_len] at this;omega
theorem rd_head {w:World} {B:Nat} {A:Option Addr} {n:Nat} {x:Wd} {l:List Wd} (h:Rd w B 2 A n (wcells (x :: l))) :
    ∃ b o,A = some ⟨b,o,none⟩∧b < B∧w.cell? ⟨b,o,none⟩ = some (str x.1)∧w.cell? ⟨b,o + 1,none⟩ = some (.int .i64 x.2):=by
  have hl:=rd_wlen h
  obtain ⟨b,o,rfl,hb,hc⟩:=h.at_ (by rw [← hl];simp)
  refine ⟨b,o,rfl,hb,?_,?_⟩
  · have:=hc 0 (by rw [wcells_len];simp)
    simpa [wcells] using this
  · have:=hc 1 (by rw [wcells_len,List.length_cons];omega)
    simpa [wcells] using this
theorem At.lt {w:World} {g:Nat} {en:Int} {l:List Wd} {sz dp:Nat} (h:At w g en l sz dp):g < w.heap.size:=by
  obtain ⟨A,n,c,b,_⟩:=h.at_
  exact b.lt
theorem At.below {w w':World} {g:Nat} {en:Int} {l:List Wd} {sz dp:Nat} (h:At w g en l sz dp) (hb:Below w.heap.size w w'):At w' g en l sz dp:=by
  obtain ⟨A,n,c,b,r,h1,h2⟩:=h.at_
  have hg:=b.lt
  exact ⟨h.wt.below hb,h.few,h.len,h.szl,h.dpl,A,n,c,b.below hb hg,r.below (hb.mono (by omega)),h1,h2⟩
theorem At.low {w w':World} {g B:Nat} {en:Int} {l:List Wd} {sz dp:Nat} (h:At w g en l sz dp) (hb:Below B w w') (hg:g < B):At w' g en l sz dp:=by
  obtain ⟨A,n,c,b,r,h1,h2⟩:=h.at_
  refine ⟨?_,h.few,h.len,h.szl,h.dpl,A,n,c,b.below hb hg,r.below (hb.mono (by omega)),h1,h2⟩
  obtain ⟨W0,x,y,z⟩:=h.wt
  exact ⟨W0,x,y.trans (hb.mono (by omega)),z⟩
set_option maxRecDepth 100000 in
theorem peek_any (g:Nat) (en:Int) (l:List Wd) (sz dp:Nat) (w:World) (h:At w g en l sz dp) :
    Calls Tryz.prog 18 #[.pointer (some ⟨g,0,none⟩)] w fun r w'=>r = .returned (wv (hdW en l))∧Below w.heap.size w w':=by
  obtain ⟨_,_,_,_,_,A,n,c,hb,hr,hnc,hc⟩:=h
  have hl:=rd_wlen hr
  have hgl:=hb.lt
  obtain ⟨c0,c1,c2,c3,f0,f1,f2,f3,z⟩:=blk4f hb
  have HA:=(Below.refl w.heap.size w).alloc (Nat.le_refl _) (.cells #[str [],.int .i64 0] 57)
  have hN:=Blk.new w 57 #[str [],.int .i64 0]
  have hne:g ≠ w.heap.size:=by omega
  have hne2:w.heap.size ≠ g:=by omega
  cases l with
  | nil =>
    subst hl
    go_enter Tryz.func18,Tryz.ntmps18
    go_wp2_with fail
    refine bodyPost_ret (results_r1 rfl _ _ w.heap.size #[str [],.int .i64 en] _ rfl (Blk.new w 57 _) Tryz.underlying57 rfl (by kernel_rfl)) rfl ?_
    exact ⟨rfl,(Below.refl w.heap.size w).alloc (Nat.le_refl _) _⟩
  | cons x l =>
    obtain ⟨x1,x2⟩:=x
    obtain ⟨b,o,rfl,hbl,d0,d1⟩:=rd_head hr
    have hn1:0 < n:=by simp at hl;omega
    have hn0:((n:Int) == 0) = false:=by simp;omega
    have hbw:b ≠ w.heap.size:=by omega
    have hbw2:w.heap.size ≠ b:=by omega
    dsimp only at d0 d1
    have e0:(w.alloc (.cells #[.string ⟨#[]⟩,.int .i64 0] 57)).cell? ⟨b,o,none⟩ = some (str x1):=(HA.cell (p:=⟨b,o,none⟩) (by show b < _;omega)).trans d0
    have e1:(w.alloc (.cells #[.string ⟨#[]⟩,.int .i64 0] 57)).cell? ⟨b,o + 1,none⟩ = some (.int .i64 x2):=(HA.cell (p:=⟨b,o + 1,none⟩) (by show b < _;omega)).trans d1
    clear hr hb
    go_enter Tryz.func18,Tryz.ntmps18
    go_wp2_with fail
    refine bodyPost_ret (results_r1 rfl _ _ w.heap.size #[str x1,.int .i64 x2] _ rfl (Blk.new w 57 _) Tryz.underlying57 rfl (by kernel_rfl)) rfl ?_
    exact ⟨rfl,(Below.refl w.heap.size w).alloc (Nat.le_refl _) _⟩
def Turn (w w':World) (g:Nat) (en:Int) (l:List Wd) (sz dp:Nat):Prop:=At w' g en l sz dp∧w.grownBy w' (some g)
theorem below_set {B:Nat} {a w:World} (h:Below B a w) (g i:Nat) (v:Value) (hg:B≤g):Below B a (w.setCell ⟨g,i,none⟩ v):=h.setCell (p:=⟨g,i,none⟩) hg v
theorem grown_set {w w':World} {g:Nat} (h:w.grownBy w' (some g)) (i:Nat) (v:Value):w.grownBy (w'.setCell ⟨g,i,none⟩ v) (some g) :=
  ⟨h.os,h.tape,h.output,by simpa [World.setCell] using h.size,fun k hk hne=>(Below.heap_setCell _ _ _ k (fun e=>hne (by rw [e]))).trans (h.block k hk hne)⟩
theorem grown_wk {w w':World} {row:Option Nat} (h:w.grownBy w' none):w.grownBy w' row:=⟨h.os,h.tape,h.output,h.size,fun k hk _=>h.block k hk (by simp)⟩
theorem grown_then {w w1 w2:World} {g:Nat} (h:w.grownBy w1 (some g)) (k:w1.grownBy w2 (some g)):w.grownBy w2 (some g):=h.trans k
theorem grown_low {w w1 w2:World} {g B:Nat} (h:w.grownBy w1 (some g)) (k:Below B w1 w2) (hB:w.heap.size≤B):w.grownBy w2 (some g) :=
  ⟨k.os.trans h.os,k.tape.trans h.tape,k.output.trans h.output,Nat.le_trans h.size k.size,fun b hb hne=>(k.block b (by omega)).trans (h.block b hb hne)⟩
set_option maxRecDepth 100000 in
set_option maxHeartbeats 1000000 in
theorem next_any (g:Nat) (en:Int) (l:List Wd) (sz dp:Nat) (w:World) (h:At w g en l sz dp) :
    Calls Tryz.prog 51 #[.pointer (some ⟨g,0,none⟩)] w fun r w'=>r = .returned (wv (hdW en l))∧Turn w w' g en (l.drop 1) sz dp:=by
  have HA:=(Below.refl w.heap.size w).alloc (Nat.le_refl _) (.cells #[.string ⟨#[]⟩,.int .i64 0] 57)
  have C:=peek_any g en l sz dp _ (h.below HA)
  have hgl:=h.lt
  have hwt0:=h.wt
  have g2:=Blk.new w 57 #[.string ⟨#[]⟩,.int .i64 0]
  go_enter Tryz.func51,Tryz.ntmps51
  go_wp2_with fail
  refine C.mono ?_
  clear C
  rintro e w1 ⟨rfl,hb1⟩
  have HB1:=HA.trans (hb1.mono HA.size)
  have k2:=g2.below hb1 g2.lt
  have h1:=h.below HB1
  obtain ⟨hwt,hfew,hlen,hszl,hdpl,A,n,c,hb,hr,hnc,hc⟩:=h1
  have hl:=rd_wlen hr
  obtain ⟨⟨x1,x2⟩,hx⟩:∃ x,hdW en l = x:=⟨_,rfl⟩
  rw [hx]
  have HX:=Lib.hid hx
  clear hx
  have k2':=k2.alloc (.cells #[str x1,.int .i64 x2] 57)
  have g3:=Blk.new w1 57 #[str x1,.int .i64 x2]
  have b3:=hb.alloc (.cells #[str x1,.int .i64 x2] 57)
  have HB3:=HB1.alloc HB1.size (.cells #[str x1,.int .i64 x2] 57)
  have r3:Rd (w1.alloc (.cells #[str x1,.int .i64 x2] 57)) g 2 A n (wcells l):=hr.below ((Below.refl _ w1).alloc (by have:=hb.lt;omega) _)
  have hn1:w.heap.size < w1.heap.size:=by have:=k2.lt;omega
  have hsw:w1.heap.size < (w1.alloc (.cells #[str x1,.int .i64 x2] 57)).heap.size:=by simp
  have HL:=Lib.hid hl
  clear HA g2 hb1 k2 hb hr HB1 h hwt
  go_wp2_with fail
  generalize w1.alloc (.cells #[str x1,.int .i64 x2] 57) = w3 at *
  generalize w1.heap.size = s1 at *
  obtain ⟨ie,_,hie,_,hsz,_⟩:=El_word.inf
  obtain ⟨m,hm⟩:∃ m,m = Nat.min 1 n:=⟨_,rfl⟩
  have hmin:m≤n:=by rw [hm];exact Nat.min_le_right _ _
  have hmi:min (1:Int) (n:Int) = (m:Int):=by rw [hm];show _ = ((min 1 n:Nat):Int);omega
  have HM:=Lib.hid hm
  clear hm hl
  obtain ⟨A3,hsl,rsl⟩:=run_slice_from (P:=Tryz.prog) Tryz.underlying48 hie (by rw [hsz];exact r3) c m hmin hnc
  refine wp_region_held_drew (S:=(fun _=>True)) (by kernel_rfl) ?_ (fun hHeld=>?_)
  · replace b3:=Blk.drew b3;replace k2':=Blk.drew k2';replace g3:=Blk.drew g3;replace HB3:=Below.drew HB3;(try dsimp only);try trivial
  replace b3:=Blk.drew b3
  replace k2':=Blk.drew k2'
  replace g3:=Blk.drew g3
  replace HB3:=Below.drew HB3
  have zHB3:=HB3.size
  refine take_movev (v:=?vu1x0) 0 (Operand.tmp 0) rfl rfl (by first | exact .inl rfl | exact .inr rfl) rfl (by kernel_rfl) (by kernel_rfl) (by kernel_rfl) (fun _ _ _ h=>h) (by assumption) ?yu1x0 ?ru1x0
  case yu1x0=>(go_simp;try (with_reducible rfl))
  simp only [zSa,zSb,zSc]
  refine take_movev (v:=?vu1x1) 1 (Operand.tmp 0) rfl rfl (by first | exact .inl rfl | exact .inr rfl) rfl (by kernel_rfl) (by kernel_rfl) (by kernel_rfl) (fun _ _ _ h=>h) (by assumption) ?yu1x1 ?ru1x1
  case yu1x1=>(go_simp;try (with_reducible rfl))
  simp only [zSa,zSb,zSc]
  refine take_op (v:=?vu1x2) 2 (Op.nilCheck (Operand.tmp 7)) 0 rfl rfl rfl rfl rfl (by kernel_rfl) (by kernel_rfl) (by kernel_rfl) (fun _ _ _ h=>h) ?yu1x2 (by assumption) ?ru1x2
  case yu1x2=>(intro w' hSw;(try dsimp only at hSw);go_simp;try (with_reducible rfl))
  simp only [zSa,zSb,zSc]
  refine take_op (v:=?vu1x3) 3 (Op.fieldAddr 51 (Operand.tmp 8) 0) 0 rfl rfl rfl rfl rfl (by kernel_rfl) (by kernel_rfl) (by kernel_rfl) (fun _ _ _ h=>h) ?yu1x3 (by assumption) ?ru1x3
  case yu1x3=>(intro w' hSw;(try dsimp only at hSw);go_simp;try (with_reducible rfl))
  simp only [zSa,zSb,zSc]
  refine take_movev (v:=?vu1x5) 5 (Operand.tmp 0) rfl rfl (by first | exact .inl rfl | exact .inr rfl) rfl (by kernel_rfl) (by kernel_rfl) (by kernel_rfl) (fun _ _ _ h=>h) (by assumption) ?yu1x5 ?ru1x5
  case yu1x5=>(go_simp;try (with_reducible rfl))
  simp only [zSa,zSb,zSc]
  refine take_op (v:=?vu1x6) 6 (Op.nilCheck (Operand.tmp 11)) 0 rfl rfl rfl rfl rfl (by kernel_rfl) (by kernel_rfl) (by kernel_rfl) (fun _ _ _ h=>h) ?yu1x6 (by assumption) ?ru1x6
  case yu1x6=>(intro w' hSw;(try dsimp only at hSw);go_simp;try (with_reducible rfl))
  simp only [zSa,zSb,zSc]
  refine take_op (v:=?vu1x7) 7 (Op.fieldAddr 51 (Operand.tmp 12) 0) 0 rfl rfl rfl rfl rfl (by kernel_rfl) (by kernel_rfl) (by kernel_rfl) (fun _ _ _ h=>h) ?yu1x7 (by assumption) ?ru1x7
  case yu1x7=>(intro w' hSw;(try dsimp only at hSw);go_simp;try (with_reducible rfl))
  simp only [zSa,zSb,zSc]
  refine wpAnyH_ready (rs:=[4,8]) (by kernel_rfl) (by simp) (AllReadyH.cons rfl (fun K4 hK4=>?ku1x4) (AllReadyH.cons rfl (fun K8 hK8=>?ku1x8) AllReadyH.nil))
  case ku1x4 =>
    refine take_any 4 (Op.load 48 (Operand.tmp 9)) 48 rfl rfl rfl (by kernel_rfl) (v:=.slice A n c) (by obtain ⟨cL,_⟩:=blk4f b3;go_simp;try (with_reducible rfl)) ?_
    refine hK4.out _ _ ?su1xb1x4 (fun hHeld=>?ru1xb1x4)
    case su1xb1x4=>((try dsimp only);try trivial)
    try simp only [zSa,zSb,zSc]
    refine wpAnyH_ready (rs:=[8]) (by kernel_rfl) (by simp) (AllReadyH.cons rfl (fun K8 hK8=>?ku1xb1x8) AllReadyH.nil)
    refine take_any 8 (Op.load 48 (Operand.tmp 13)) 48 rfl rfl rfl (by kernel_rfl) (v:=.slice A n c) (by obtain ⟨cL,_⟩:=blk4f b3;go_simp;try (with_reducible rfl)) ?_
    refine hK8.out _ _ ?su1xb1x8 (fun hHeld=>?ru1xb1x8)
    case su1xb1x8=>((try dsimp only);try trivial)
    try simp only [zSa,zSb,zSc]
    refine take_op (v:=?vu1xb1x9) 9 (Op.call { callee:=Callee.builtin Builtin.len,args:=#[Operand.tmp 14],argTypes:=#[48] }) 3 rfl rfl rfl rfl rfl (by kernel_rfl) (by kernel_rfl) (by kernel_rfl) (fun _ _ _ h=>h) ?yu1xb1x9 (by assumption) ?ru1xb1x9
    case yu1xb1x9=>(intro w' hSw;(try dsimp only at hSw);go_simp;try (with_reducible rfl))
    simp only [zSa,zSb,zSc]
    refine take_op (v:=?vu1xb1x10) 10 (Op.call { callee:=Callee.builtin Builtin.min,args:=#[Operand.const (Value.int IntKind.i64 1),Operand.tmp 15],argTypes:=#[3,3] }) 3 rfl rfl rfl rfl rfl (by kernel_rfl) (by kernel_rfl) (by kernel_rfl) (fun _ _ _ h=>h) ?yu1xb1x10 (by assumption) ?ru1xb1x10
    case yu1xb1x10=>(intro w' hSw;(try dsimp only at hSw);go_simp;try (with_reducible rfl))
    simp only [zSa,zSb,zSc]
    refine take_op (v:=?vu1xb1x11) 11 (Op.slice 48 (Operand.tmp 10) (some (Operand.tmp 16)) none none) 48 rfl rfl rfl rfl rfl (by kernel_rfl) (by kernel_rfl) (by kernel_rfl) (fun _ _ _ h=>h) ?yu1xb1x11 (by assumption) ?ru1xb1x11
    case yu1xb1x11=>(intro w' hSw;(try dsimp only at hSw);go_simp;try (with_reducible rfl))
    simp only [zSa,zSb,zSc]
    refine take_op (v:=?vu1xb1x12) 12 (Op.nilCheck (Operand.tmp 6)) 0 rfl rfl rfl rfl rfl (by kernel_rfl) (by kernel_rfl) (by kernel_rfl) (fun _ _ _ h=>h) ?yu1xb1x12 (by assumption) ?ru1xb1x12
    case yu1xb1x12=>(intro w' hSw;(try dsimp only at hSw);go_simp;try (with_reducible rfl))
    simp only [zSa,zSb,zSc]
    refine take_op (v:=?vu1xb1x13) 13 (Op.fieldAddr 51 (Operand.tmp 18) 0) 0 rfl rfl rfl rfl rfl (by kernel_rfl) (by kernel_rfl) (by kernel_rfl) (fun _ _ _ h=>h) ?yu1xb1x13 (by assumption) ?ru1xb1x13
    case yu1xb1x13=>(intro w' hSw;(try dsimp only at hSw);go_simp;try (with_reducible rfl))
    simp only [zSa,zSb,zSc]
    refine wpAnyH_ready (rs:=[14]) (by kernel_rfl) (by simp) (AllReadyH.cons rfl (fun K14 hK14=>?ku1xb1x14) AllReadyH.nil)
    refine take_store 14 (Op.store 48 (Operand.tmp 19) (Operand.tmp 17)) 0 rfl rfl rfl (by kernel_rfl) (w':=w3.drew.setCell ⟨g,0,none⟩ (.slice A3 (n - m) (c - m))) (by obtain ⟨cL,_,_,_,fL,_⟩:=blk4f b3;go_simp;try (with_reducible rfl)) ?_
    refine hK14.out _ _ (trivial) (fun hHeld=>?_)
    refine wpAnyH_done (by kernel_rfl) ?_ _
    have b4:Blk (w3.drew.setCell ⟨g,0,none⟩ (.slice A3 (n - m) (c - m))) g 51 (rdS A3 (n - m) (c - m) en sz dp):=b3.set 0 _
    have g4:=g3.far (p:=⟨g,0,none⟩) (by dsimp only;omega) (.slice A3 (n - m) (c - m))
    have k4:=k2'.far (p:=⟨g,0,none⟩) (by dsimp only;omega) (.slice A3 (n - m) (c - m))
    have r4:=rsl.below ((((Below.refl g w3).drew).setCell (p:=⟨g,0,none⟩) (Nat.le_refl _) (.slice A3 (n - m) (c - m))))
    have G4:w.grownBy (w3.drew.setCell ⟨g,0,none⟩ (.slice A3 (n - m) (c - m))) (some g):=grown_set (grown_wk (grown_of_below HB3)) 0 _
    have hs4:s1 < (w3.drew.setCell ⟨g,0,none⟩ (.slice A3 (n - m) (c - m))).heap.size:=by simpa [World.setCell] using hsw
    generalize w3.drew.setCell ⟨g,0,none⟩ (.slice A3 (n - m) (c - m)) = w4 at *
    obtain ⟨d0,d1,_,_,_⟩:=blk2 g4
    obtain ⟨e0,e1,f0,f1,_⟩:=blk2 k4
    have hn2:w.heap.size ≠ s1:=by omega
    have hn3:s1 ≠ w.heap.size:=by omega
    go_wp2_with fail
    have k5:Blk ((w4.setCell ⟨w.heap.size,0,none⟩ (str x1)).setCell ⟨w.heap.size,1,none⟩ (.int .i64 x2)) w.heap.size 57 #[str x1,.int .i64 x2]:=(k4.set 0 _).set 1 _
    refine bodyPost_ret (results_r1 rfl _ _ w.heap.size #[str x1,.int .i64 x2] _ rfl k5 Tryz.underlying57 rfl (by kernel_rfl)) rfl ?_
    have HBl:Below w.heap.size w4 ((w4.setCell ⟨w.heap.size,0,none⟩ (str x1)).setCell ⟨w.heap.size,1,none⟩ (.int .i64 x2)):=below_set (below_set (Below.refl _ _) _ 0 _ (Nat.le_refl _)) _ 1 _ (Nat.le_refl _)
    refine ⟨by rw [HX.out],⟨?_,hfew.drop 1,by simp only [List.length_drop];omega,hszl,hdpl,A3,n - m,c - m,b4.below HBl hgl,?_,by omega,by omega⟩,grown_low G4 HBl (Nat.le_refl _)⟩
    · exact hwt0.turn (grown_low G4 HBl (Nat.le_refl _))
    · have r5:=r4.below (HBl.mono (Nat.le_of_lt hgl))
      have e:wcells (l.drop 1) = (wcells l).drop (m * ie.size):=by
        rw [hsz,HM.out,← HL.out]
        cases l with
        | nil=>simp [wcells]
        | cons a l=>rw [wcells_drop,List.length_cons];congr 2
      rw [e,← hsz]
      exact r5
  case ku1x8 =>
    refine take_any 8 (Op.load 48 (Operand.tmp 13)) 48 rfl rfl rfl (by kernel_rfl) (v:=.slice A n c) (by obtain ⟨cL,_⟩:=blk4f b3;go_simp;try (with_reducible rfl)) ?_
    refine hK8.out _ _ ?su1xb4x8 (fun hHeld=>?ru1xb4x8)
    case su1xb4x8=>((try dsimp only);try trivial)
    try simp only [zSa,zSb,zSc]
    refine take_op (v:=?vu1xb4x9) 9 (Op.call { callee:=Callee.builtin Builtin.len,args:=#[Operand.tmp 14],argTypes:=#[48] }) 3 rfl rfl rfl rfl rfl (by kernel_rfl) (by kernel_rfl) (by kernel_rfl) (fun _ _ _ h=>h) ?yu1xb4x9 (by assumption) ?ru1xb4x9
    case yu1xb4x9=>(intro w' hSw;(try dsimp only at hSw);go_simp;try (with_reducible rfl))
    simp only [zSa,zSb,zSc]
    refine take_op (v:=?vu1xb4x10) 10 (Op.call { callee:=Callee.builtin Builtin.min,args:=#[Operand.const (Value.int IntKind.i64 1),Operand.tmp 15],argTypes:=#[3,3] }) 3 rfl rfl rfl rfl rfl (by kernel_rfl) (by kernel_rfl) (by kernel_rfl) (fun _ _ _ h=>h) ?yu1xb4x10 (by assumption) ?ru1xb4x10
    case yu1xb4x10=>(intro w' hSw;(try dsimp only at hSw);go_simp;try (with_reducible rfl))
    simp only [zSa,zSb,zSc]
    refine wpAnyH_ready (rs:=[4]) (by kernel_rfl) (by simp) (AllReadyH.cons rfl (fun K4 hK4=>?ku1xb4x4) AllReadyH.nil)
    refine take_any 4 (Op.load 48 (Operand.tmp 9)) 48 rfl rfl rfl (by kernel_rfl) (v:=.slice A n c) (by obtain ⟨cL,_⟩:=blk4f b3;go_simp;try (with_reducible rfl)) ?_
    refine hK4.out _ _ ?su1xb4x4 (fun hHeld=>?ru1xb4x4)
    case su1xb4x4=>((try dsimp only);try trivial)
    try simp only [zSa,zSb,zSc]
    refine take_op (v:=?vu1xb4x11) 11 (Op.slice 48 (Operand.tmp 10) (some (Operand.tmp 16)) none none) 48 rfl rfl rfl rfl rfl (by kernel_rfl) (by kernel_rfl) (by kernel_rfl) (fun _ _ _ h=>h) ?yu1xb4x11 (by assumption) ?ru1xb4x11
    case yu1xb4x11=>(intro w' hSw;(try dsimp only at hSw);go_simp;try (with_reducible rfl))
    simp only [zSa,zSb,zSc]
    refine take_op (v:=?vu1xb4x12) 12 (Op.nilCheck (Operand.tmp 6)) 0 rfl rfl rfl rfl rfl (by kernel_rfl) (by kernel_rfl) (by kernel_rfl) (fun _ _ _ h=>h) ?yu1xb4x12 (by assumption) ?ru1xb4x12
    case yu1xb4x12=>(intro w' hSw;(try dsimp only at hSw);go_simp;try (with_reducible rfl))
    simp only [zSa,zSb,zSc]
    refine take_op (v:=?vu1xb4x13) 13 (Op.fieldAddr 51 (Operand.tmp 18) 0) 0 rfl rfl rfl rfl rfl (by kernel_rfl) (by kernel_rfl) (by kernel_rfl) (fun _ _ _ h=>h) ?yu1xb4x13 (by assumption) ?ru1xb4x13
    case yu1xb4x13=>(intro w' hSw;(try dsimp only at hSw);go_simp;try (with_reducible rfl))
    simp only [zSa,zSb,zSc]
    refine wpAnyH_ready (rs:=[14]) (by kernel_rfl) (by simp) (AllReadyH.cons rfl (fun K14 hK14=>?ku1xb4x14) AllReadyH.nil)
    refine take_store 14 (Op.store 48 (Operand.tmp 19) (Operand.tmp 17)) 0 rfl rfl rfl (by kernel_rfl) (w':=w3.drew.setCell ⟨g,0,none⟩ (.slice A3 (n - m) (c - m))) (by obtain ⟨cL,_,_,_,fL,_⟩:=blk4f b3;go_simp;try (with_reducible rfl)) ?_
    refine hK14.out _ _ (trivial) (fun hHeld=>?_)
    refine wpAnyH_done (by kernel_rfl) ?_ _
    have b4:Blk (w3.drew.setCell ⟨g,0,none⟩ (.slice A3 (n - m) (c - m))) g 51 (rdS A3 (n - m) (c - m) en sz dp):=b3.set 0 _
    have g4:=g3.far (p:=⟨g,0,none⟩) (by dsimp only;omega) (.slice A3 (n - m) (c - m))
    have k4:=k2'.far (p:=⟨g,0,none⟩) (by dsimp only;omega) (.slice A3 (n - m) (c - m))
    have r4:=rsl.below ((((Below.refl g w3).drew).setCell (p:=⟨g,0,none⟩) (Nat.le_refl _) (.slice A3 (n - m) (c - m))))
    have G4:w.grownBy (w3.drew.setCell ⟨g,0,none⟩ (.slice A3 (n - m) (c - m))) (some g):=grown_set (grown_wk (grown_of_below HB3)) 0 _
    have hs4:s1 < (w3.drew.setCell ⟨g,0,none⟩ (.slice A3 (n - m) (c - m))).heap.size:=by simpa [World.setCell] using hsw
    generalize w3.drew.setCell ⟨g,0,none⟩ (.slice A3 (n - m) (c - m)) = w4 at *
    obtain ⟨d0,d1,_,_,_⟩:=blk2 g4
    obtain ⟨e0,e1,f0,f1,_⟩:=blk2 k4
    have hn2:w.heap.size ≠ s1:=by omega
    have hn3:s1 ≠ w.heap.size:=by omega
    go_wp2_with fail
    have k5:Blk ((w4.setCell ⟨w.heap.size,0,none⟩ (str x1)).setCell ⟨w.heap.size,1,none⟩ (.int .i64 x2)) w.heap.size 57 #[str x1,.int .i64 x2]:=(k4.set 0 _).set 1 _
    refine bodyPost_ret (results_r1 rfl _ _ w.heap.size #[str x1,.int .i64 x2] _ rfl k5 Tryz.underlying57 rfl (by kernel_rfl)) rfl ?_
    have HBl:Below w.heap.size w4 ((w4.setCell ⟨w.heap.size,0,none⟩ (str x1)).setCell ⟨w.heap.size,1,none⟩ (.int .i64 x2)):=below_set (below_set (Below.refl _ _) _ 0 _ (Nat.le_refl _)) _ 1 _ (Nat.le_refl _)
    refine ⟨by rw [HX.out],⟨?_,hfew.drop 1,by simp only [List.length_drop];omega,hszl,hdpl,A3,n - m,c - m,b4.below HBl hgl,?_,by omega,by omega⟩,grown_low G4 HBl (Nat.le_refl _)⟩
    · exact hwt0.turn (grown_low G4 HBl (Nat.le_refl _))
    · have r5:=r4.below (HBl.mono (Nat.le_of_lt hgl))
      have e:wcells (l.drop 1) = (wcells l).drop (m * ie.size):=by
        rw [hsz,HM.out,← HL.out]
        cases l with
        | nil=>simp [wcells]
        | cons a l=>rw [wcells_drop,List.length_cons];congr 2
      rw [e,← hsz]
      exact r5
theorem blk_rd {w:World} {g:Nat} {A:Option Addr} {n c:Nat} {en:Int} {sz dp:Nat} (h:Blk w g 51 (rdS A n c en sz dp)) :
    w.cell? ⟨g,0,none⟩ = some (.slice A n c)∧w.cell? ⟨g,1,none⟩ = some (.int .i64 en)∧w.cell? ⟨g,2,none⟩ = some (.int .i64 sz)∧w.cell? ⟨g,3,none⟩ = some (.int .i64 dp)∧w.frozen? ⟨g,0,none⟩ = false∧w.frozen? ⟨g,1,none⟩ = false∧w.frozen? ⟨g,2,none⟩ = false∧w.frozen? ⟨g,3,none⟩ = false∧g < w.heap.size:=blk4f h
set_option maxRecDepth 100000 in
set_option maxHeartbeats 1000000 in
theorem counted_ok (g:Nat) (en:Int) (l:List Wd) (sz dp:Nat) (x:Wd) (w:World) (h:At w g en l sz dp) (hs:sz < 100) :
    Calls Tryz.prog 75 #[.pointer (some ⟨g,0,none⟩),wv x] w fun r w'=>r = .returned (.tuple #[])∧Turn w w' g en l (sz + 1) dp:=by
  have hwt0:=h.wt
  obtain ⟨x1,x2⟩:=x
  obtain ⟨hwt,hfew,hlen,hszl,hdpl,A,n,c,hb0,hr,hnc,hc⟩:=h
  have hgl:=hb0.lt
  have hb:=hb0.alloc (.cells #[str x1,.int .i64 x2] 57)
  obtain ⟨c0,c1,c2,c3,f0,f1,f2,f3,z⟩:=blk_rd hb
  obtain ⟨c0',c1',c2',c3',f0',f1',f2',f3',z'⟩:=blk_rd hb0
  have hne:g ≠ w.heap.size:=by omega
  have hne2:w.heap.size ≠ g:=by omega
  go_enter Tryz.func75,Tryz.ntmps75
  go_wp2_with fail
  go_end0
  have G0:w.grownBy (w.setCell ⟨g,2,none⟩ (.int .i64 ((sz:Int) + 1))) (some g):=grown_set (World.grownBy.refl w _) 2 _
  have HBa:Below w.heap.size (w.setCell ⟨g,2,none⟩ (.int .i64 ((sz:Int) + 1))) ((w.setCell ⟨g,2,none⟩ (.int .i64 ((sz:Int) + 1))).alloc (.cells #[str x1,.int .i64 x2] 57)):=(Below.refl _ _).alloc (by simp [World.setCell]) _
  have G:=grown_low G0 HBa (Nat.le_refl _)
  refine ⟨rfl,⟨hwt0.turn G,hfew,hlen,by omega,hdpl,A,n,c,blk_eq ((hb0.set 2 _).alloc _) ?_,(hr.below (below_set (Below.refl _ _) g 2 _ (Nat.le_refl _))).below (HBa.mono (by omega)),hnc,hc⟩,G⟩
  simp [rdS]
set_option maxRecDepth 100000 in
theorem counted_no (g:Nat) (en:Int) (l:List Wd) (sz dp:Nat) (x:Wd) (w:World) (h:At w g en l sz dp) (hs:100≤sz) :
    Calls Tryz.prog 75 #[.pointer (some ⟨g,0,none⟩),wv x] w fun r w'=>r = .panicked (flt 3 x.2)∧w.grownBy w' (some g):=by
  obtain ⟨x1,x2⟩:=x
  have HA:=(Below.refl w.heap.size w).alloc (Nat.le_refl _) (.cells #[str x1,.int .i64 x2] 57)
  obtain ⟨hwt,hfew,hlen,hszl,hdpl,A,n,c,hb,hr,hnc,hc⟩:=h.below HA
  obtain ⟨c0,c1,c2,c3,f0,f1,f2,f3,z⟩:=blk_rd hb
  have hgl:=h.lt
  have hne:g ≠ w.heap.size:=by omega
  have hne2:w.heap.size ≠ g:=by omega
  obtain ⟨d0,d1,_,_,_⟩:=blk2 (Blk.new w 57 #[str x1,.int .i64 x2])
  go_enter Tryz.func75,Tryz.ntmps75
  go_wp2_with fail
  refine (wrong_any 3 (x1,x2) _).mono ?_
  rintro e w1 ⟨rfl,hb1⟩
  go_wp2_with fail
  simp [bodyPost]
  exact grown_wk (grown_of_below (HA.trans (hb1.mono HA.size)))
theorem nums_ok {s:List UInt8} {a b:Int} (h:numsP s = some (a,b)):s.contains 45 = true∧WanW.numV (WanW.bef 45 s) = (a,true)∧WanW.numV (WanW.aft 45 s) = (b,true):=by
  unfold numsP at h
  split at h
  · next h1 =>
    simp only [Option.some.injEq,Prod.mk.injEq] at h
    exact ⟨h1.1,Prod.ext h.1 h1.2.1,Prod.ext h.2 h1.2.2⟩
  · cases h
theorem nums_no {s:List UInt8} (h:numsP s = none):(s.contains 45 && ((WanW.numV (WanW.bef 45 s)).2 && (WanW.numV (WanW.aft 45 s)).2)) = false:=by
  unfold numsP at h
  split at h
  · cases h
  · next h1=>simpa [Bool.and_eq_false_iff,and_assoc] using h1
def NRes (g:Nat) (en:Int) (l:List Wd) (sz dp:Nat) (ok:Bool) (v:Value) (at_:Int) (w:World) (r:Ending) (w':World):Prop :=
  if ok = true then r = .returned v∧Turn w w' g en l sz dp else r = .panicked (flt 380 at_)∧w.grownBy w' (some g)
theorem NRes.yes {g:Nat} {en:Int} {l:List Wd} {sz dp:Nat} {v:Value} {a:Int} {w w':World} {r:Ending} (h1:r = .returned v) (h2:Turn w w' g en l sz dp):NRes g en l sz dp true v a w r w':=by
  unfold NRes;rw [if_pos rfl];exact ⟨h1,h2⟩
theorem NRes.no {g:Nat} {en:Int} {l:List Wd} {sz dp:Nat} {v:Value} {a:Int} {w w':World} {r:Ending} (h1:r = .panicked (flt 380 a)) (h2:w.grownBy w' (some g)):NRes g en l sz dp false v a w r w':=by
  unfold NRes;rw [if_neg (by simp)];exact ⟨h1,h2⟩
set_option maxRecDepth 100000 in
set_option maxHeartbeats 4000000 in
theorem numbers_raw (g:Nat) (en:Int) (l:List Wd) (sz dp:Nat) (w:World) (h:At w g en l sz dp) (s:List UInt8) (a:Int) (hs:hdW en l = (s,a)) (f b1 b2:Bool) (n1 n2:Int)
    (hf:s.contains 45 = f) (e1:WanW.numV (WanW.bef 45 s) = (n1,b1)) (e2:WanW.numV (WanW.aft 45 s) = (n2,b2)) :
    Calls Tryz.prog 76 #[.pointer (some ⟨g,0,none⟩)] w (NRes g en (l.drop 1) sz dp (f && (b1 && b2)) (.agg #[.int .i64 n1,.int .i64 n2]) a w):=by
  have hl0:s.length≤1000:=by have:=h.few.hd en;rw [hs] at this;exact this
  have hl1:=WanW.bef_le 45 s
  have hl2:=WanW.aft_le 45 s
  have CC:=fun w h=>WanW.cut_any s 45 w h (by omega)
  rw [hf] at CC
  have C1:=fun w=>WanW.number_any (WanW.bef 45 s) w n1 b1 e1 (by omega)
  have C2:=fun w=>WanW.number_any (WanW.aft 45 s) w n2 b2 e2 (by omega)
  have HC:=Lib.hid CC
  have HC1:=Lib.hid C1
  have HC2:=Lib.hid C2
  clear CC C1 C2 e1 e2 hf
  generalize WanW.bef 45 s = x at *
  generalize WanW.aft 45 s = y at *
  have hgl:=h.lt
  have HA:=(Below.refl w.heap.size w).alloc (Nat.le_refl _) (.cells #[.int .i64 0,.int .i64 0] 93)
  have hg0:=Blk.new w 93 #[.int .i64 0,.int .i64 0]
  have NX:=next_any g en l sz dp _ (h.below HA)
  rw [hs] at NX
  have HS:=Lib.hid hs
  clear hs
  obtain ⟨w0,hw0⟩:∃ w0,w.alloc (.cells #[.int .i64 0,.int .i64 0] 93) = w0:=⟨_,rfl⟩
  rw [hw0] at HA hg0 NX
  have hz0:=hg0.lt
  go_enter Tryz.func76,Tryz.ntmps76
  go_wp2_with fail
  refine NX.mono ?_
  clear NX
  rintro e w1 ⟨rfl,T1,G1⟩
  have k1:=hg0.grown G1 (by simp;omega)
  have D1:w.grownBy w1 (some g):=grown_then (grown_wk (grown_of_below HA)) G1
  have k2:=k1.alloc (.cells #[str s,.int .i64 a] 57)
  have g2:=Blk.new w1 57 #[str s,.int .i64 a]
  have HA2:=(Below.refl w1.heap.size w1).alloc (Nat.le_refl _) (.cells #[str s,.int .i64 a] 57)
  have T2:=T1.below HA2
  have D2:w.grownBy (w1.alloc (.cells #[str s,.int .i64 a] 57)) (some g):=grown_low D1 HA2 D1.size
  have hs1:w1.heap.size < (w1.alloc (.cells #[str s,.int .i64 a] 57)).heap.size:=by simp
  have hk1:=k1.lt
  obtain ⟨s1,hs1'⟩:∃ s1,w1.heap.size = s1:=⟨_,rfl⟩
  rw [hs1'] at g2 hs1 hk1
  obtain ⟨w2,hw2⟩:∃ w2,w1.alloc (.cells #[str s,.int .i64 a] 57) = w2:=⟨_,rfl⟩
  rw [hw2] at k2 g2 T2 D2 hs1
  obtain ⟨d0,d1,_,_,_⟩:=blk2 g2
  go_wp2_with fail
  clear hw0 hw2 hs1' d0 d1
  refine (HC.out _ T2.wt.wo).mono ?_
  rintro e w3 ⟨rfl,hb3⟩
  have g3:=g2.below hb3 g2.lt
  have k3:=k2.below hb3 k2.lt
  have T3:=T2.below hb3
  have D3:=grown_low D2 hb3 D2.size
  go_wp2_with fail
  refine (HC1.out _).mono ?_
  rintro e w4 ⟨rfl,hb4⟩
  have g4:=g3.below hb4 g3.lt
  have k4:=k3.below hb4 k3.lt
  have T4:=T3.below hb4
  have D4:=grown_low D3 hb4 D3.size
  go_wp2_with fail
  refine (HC2.out _).mono ?_
  rintro e w5 ⟨rfl,hb5⟩
  have g5:=g4.below hb5 g4.lt
  have k5:=k4.below hb5 k4.lt
  have T5:=T4.below hb5
  have D5:=grown_low D4 hb5 D4.size
  clear hb3 hb4 hb5 g2 g3 g4 k2 k3 k4 T2 T3 T4 D2 D3 D4 T1 D1 G1 k1 HA HA2 hg0 h HC HC1 HC2 HS
  obtain ⟨d0,d1,_,_,zz⟩:=blk2 g5
  obtain ⟨e0,e1,f0,f1,_⟩:=blk2 k5
  have W5:=D5.size
  cases f <;> cases b1 <;> cases b2
  all_goals
    go_wp2_with fail
    first
    | (refine (wrong_any 380 (s,a) _).mono ?_
       rintro e w6 ⟨rfl,hb6⟩
       go_wp2_with fail
       simp only [bodyPost]
       exact ⟨trivial,NRes.no rfl (grown_low D5 hb6 W5)⟩)
    | (have k6:Blk ((w5.setCell ⟨w.heap.size,0,none⟩ (.int .i64 n1)).setCell ⟨w.heap.size,1,none⟩ (.int .i64 n2)) w.heap.size 93 #[.int .i64 n1,.int .i64 n2]:=(k5.set 0 _).set 1 _
       have HB6:Below w.heap.size w5 ((w5.setCell ⟨w.heap.size,0,none⟩ (.int .i64 n1)).setCell ⟨w.heap.size,1,none⟩ (.int .i64 n2)):=below_set (below_set (Below.refl _ _) _ 0 _ (Nat.le_refl _)) _ 1 _ (Nat.le_refl _)
       refine bodyPost_ret (results_r1 rfl _ _ w.heap.size #[.int .i64 n1,.int .i64 n2] _ rfl k6 Tryz.underlying93 rfl (by kernel_rfl)) rfl ?_
       exact NRes.yes rfl ⟨T5.low HB6 hgl,grown_low D5 HB6 (Nat.le_refl _)⟩)
theorem numbers_ok (g:Nat) (en:Int) (l:List Wd) (sz dp:Nat) (w:World) (h:At w g en l sz dp) (a b:Int) (hn:numsP (hdW en l).1 = some (a,b)) :
    Calls Tryz.prog 76 #[.pointer (some ⟨g,0,none⟩)] w fun r w'=>r = .returned (.agg #[.int .i64 a,.int .i64 b])∧Turn w w' g en (l.drop 1) sz dp:=by
  obtain ⟨h1,h2,h3⟩:=nums_ok hn
  exact (numbers_raw g en l sz dp w h _ _ rfl true true true a b h1 h2 h3).mono fun e w' h=>by
    unfold NRes at h
    simpa using h
theorem numbers_no (g:Nat) (en:Int) (l:List Wd) (sz dp:Nat) (w:World) (h:At w g en l sz dp) (hn:numsP (hdW en l).1 = none) :
    Calls Tryz.prog 76 #[.pointer (some ⟨g,0,none⟩)] w fun r w'=>r = .panicked (flt 380 (hdW en l).2)∧w.grownBy w' (some g):=by
  have C:=numbers_raw g en l sz dp w h (hdW en l).1 (hdW en l).2 rfl ((hdW en l).1.contains 45) (WanW.numV (WanW.bef 45 (hdW en l).1)).2 (WanW.numV (WanW.aft 45 (hdW en l).1)).2 (WanW.numV (WanW.bef 45 (hdW en l).1)).1 (WanW.numV (WanW.aft 45 (hdW en l).1)).1 rfl rfl rfl
  rw [nums_no hn] at C
  exact C.mono fun e w' h=>by
    unfold NRes at h
    simpa using h
set_option maxRecDepth 100000 in
set_option maxHeartbeats 4000000 in
theorem bytes_raw (g:Nat) (en:Int) (l:List Wd) (sz dp:Nat) (w:World) (h:At w g en l sz dp) (s:List UInt8) (a:Int) (hs:hdW en l = (s,a)) (b:Bool) (v:List UInt8)
    (e1:WanW.unhexV s = (v,b)) (q:Bool) (hq:decide (v = []) = q) :
    Calls Tryz.prog 77 #[.pointer (some ⟨g,0,none⟩)] w (NRes g en (l.drop 1) sz dp (b && !q) (str v) a w):=by
  have hl0:s.length≤1000:=by have:=h.few.hd en;rw [hs] at this;exact this
  have HC:=Lib.hid (fun w=>WanW.unhex_any s w v b e1 (by omega))
  clear e1
  have hgl:=h.lt
  have NX:=next_any g en l sz dp _ h
  rw [hs] at NX
  clear hs
  go_enter Tryz.func77,Tryz.ntmps77
  go_wp2_with fail
  refine NX.mono ?_
  clear NX
  rintro e w1 ⟨rfl,T1,D1⟩
  have g2:=Blk.new w1 57 #[str s,.int .i64 a]
  have HA2:=(Below.refl w1.heap.size w1).alloc (Nat.le_refl _) (.cells #[str s,.int .i64 a] 57)
  have T2:=T1.below HA2
  have D2:w.grownBy (w1.alloc (.cells #[str s,.int .i64 a] 57)) (some g):=grown_low D1 HA2 D1.size
  obtain ⟨s1,hs1'⟩:∃ s1,w1.heap.size = s1:=⟨_,rfl⟩
  rw [hs1'] at g2
  obtain ⟨w2,hw2⟩:∃ w2,w1.alloc (.cells #[str s,.int .i64 a] 57) = w2:=⟨_,rfl⟩
  rw [hw2] at g2 T2 D2
  obtain ⟨d0,d1,_,_,_⟩:=blk2 g2
  go_wp2_with fail
  clear hw2 hs1' d0 d1
  refine (HC.out _).mono ?_
  rintro e w5 ⟨rfl,hb5⟩
  have g5:=g2.below hb5 g2.lt
  have T5:=T2.below hb5
  have D5:=grown_low D2 hb5 D2.size
  clear hb5 g2 T2 D2 T1 D1 HA2 h HC
  obtain ⟨d0,d1,_,_,zz⟩:=blk2 g5
  have W5:=D5.size
  subst hq
  rcases v with _ | ⟨v0,v1⟩ <;> cases b
  all_goals
    go_wp2_with fail
    first
    | (refine (wrong_any 380 (s,a) _).mono ?_
       rintro e w6 ⟨rfl,hb6⟩
       go_wp2_with fail
       simp only [bodyPost]
       exact ⟨trivial,NRes.no rfl (grown_low D5 hb6 W5)⟩)
    | (go_ret
       exact NRes.yes rfl ⟨T5,D5⟩)
theorem bytes_ok (g:Nat) (en:Int) (l:List Wd) (sz dp:Nat) (w:World) (h:At w g en l sz dp) (b:List UInt8) (hn:bytesP (hdW en l).1 = some b) :
    Calls Tryz.prog 77 #[.pointer (some ⟨g,0,none⟩)] w fun r w'=>r = .returned (str b)∧Turn w w' g en (l.drop 1) sz dp:=by
  have e:WanW.unhexV (hdW en l).1 = (b,true)∧b ≠ []:=by
    unfold bytesP at hn
    split at hn
    · next h1 =>
      simp only [Option.some.injEq] at hn
      subst hn
      exact ⟨Prod.ext rfl h1.1,h1.2⟩
    · cases hn
  exact (bytes_raw g en l sz dp w h (hdW en l).1 (hdW en l).2 rfl true b e.1 false (by simpa using e.2)).mono fun e w' h=>by
    unfold NRes at h
    simpa using h
theorem bytes_no (g:Nat) (en:Int) (l:List Wd) (sz dp:Nat) (w:World) (h:At w g en l sz dp) (hn:bytesP (hdW en l).1 = none) :
    Calls Tryz.prog 77 #[.pointer (some ⟨g,0,none⟩)] w fun r w'=>r = .panicked (flt 380 (hdW en l).2)∧w.grownBy w' (some g):=by
  have e:((WanW.unhexV (hdW en l).1).2 && !decide ((WanW.unhexV (hdW en l).1).1 = [])) = false:=by
    unfold bytesP at hn
    split at hn
    · cases hn
    · next h1=>simpa [Bool.and_eq_false_iff,Classical.or_iff_not_imp_left] using h1
  have C:=bytes_raw g en l sz dp w h (hdW en l).1 (hdW en l).2 rfl (WanW.unhexV (hdW en l).1).2 (WanW.unhexV (hdW en l).1).1 rfl (decide ((WanW.unhexV (hdW en l).1).1 = [])) rfl
  rw [e] at C
  exact C.mono fun e w' h=>by
    unfold NRes at h
    simpa using h
end SieW
end Go.Proofs.YtnpncpoiiikafaaGreatDoor
