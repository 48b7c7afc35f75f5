/- SieV -/
import Derived.Test.YtnpncpoiiikafaaGreatDoorSieBQs
import Derived.Test.YtnpncpoiiikafaaGreatDoorMemQs
set_option linter.unusedVariables false
set_option linter.unusedSimpArgs false
set_option linter.unnecessarySimpa false
namespace Go.Proofs.YtnpncpoiiikafaaGreatDoor
open Go.RowKit
namespace SieW
mutual
def NdV (w:World) (S:Nat → Prop):Nd → Value → Prop
  | .within k lo hi,v=>k≤2∧v = .iface 95 (.agg #[str (kwS k),.int .i64 lo,.int .i64 hi])
  | .has s,v=>v = .iface 105 (.agg #[str s])
  | .all,v=>v = .iface 99 (.agg #[])
  | .not n,v=>∃ u,v = .iface 71 (.agg #[u])∧NdV w S n u
  | .row o l,v=>∃ b n c vs,v = .iface 102 (.agg #[str (byW o),.slice (some ⟨b,0,none⟩) n c])∧S b∧b < w.heap.size∧vs.length = n∧n≤c∧n≤1000∧(∀ i (h:i < vs.length),w.cell? ⟨b,i,none⟩ = some vs[i])∧NdVs w S l vs
def NdVs (w:World) (S:Nat → Prop):List Nd → List Value → Prop
  | [],vs=>vs = []
  | a :: l,vs=>∃ v r,vs = v :: r∧NdV w S a v∧NdVs w S l r
end
theorem cell_same {w w':World} {b:Nat} (h:w'.heap[b]? = w.heap[b]?) (i:Nat):w'.cell? ⟨b,i,none⟩ = w.cell? ⟨b,i,none⟩:=by
  simp [World.cell?,h]
theorem NdV.lt_of {w w':World} {b:Nat} (hb:b < w.heap.size) (h:w'.heap[b]? = w.heap[b]?):b < w'.heap.size:=by
  rcases Nat.lt_or_ge b w'.heap.size with c | c
  · exact c
  · rw [Array.getElem?_eq_none c,Array.getElem?_eq_getElem hb] at h;cases h
mutual
theorem NdV.keep {w w':World} {S S':Nat → Prop} (hk:∀ b,S b → b < w.heap.size → w'.heap[b]? = w.heap[b]?∧S' b):∀ (n:Nd) (v:Value),NdV w S n v → NdV w' S' n v
  | .within _ _ _,v,h=>h
  | .has _,v,h=>h
  | .all,v,h=>h
  | .not n,v,h=>by
    obtain ⟨u,a,b⟩:=h
    exact ⟨u,a,NdV.keep hk n u b⟩
  | .row o l,v,h=>by
    obtain ⟨b,n,c,vs,h1,h2,h3,h4,h5,h6,h7,h8⟩:=h
    obtain ⟨k1,k2⟩:=hk b h2 h3
    exact ⟨b,n,c,vs,h1,k2,NdV.lt_of h3 k1,h4,h5,h6,fun i hi=>(cell_same k1 i).trans (h7 i hi),NdVs.keep hk l vs h8⟩
theorem NdVs.keep {w w':World} {S S':Nat → Prop} (hk:∀ b,S b → b < w.heap.size → w'.heap[b]? = w.heap[b]?∧S' b):∀ (l:List Nd) (vs:List Value),NdVs w S l vs → NdVs w' S' l vs
  | [],vs,h=>h
  | a :: l,vs,h=>by
    obtain ⟨v,r,h1,h2,h3⟩:=h
    exact ⟨v,r,h1,NdV.keep hk a v h2,NdVs.keep hk l r h3⟩
end
theorem NdVs.len {w:World} {S:Nat → Prop}:∀ {l:List Nd} {vs:List Value},NdVs w S l vs → vs.length = l.length
  | [],vs,h=>by have e:vs = []:=h;subst e;rfl
  | a :: l,vs,h=>by
    obtain ⟨v,r,rfl,_,h3⟩:=h
    simp [h3.len]
theorem NdVs.app {w:World} {S:Nat → Prop}:∀ {l m:List Nd} {vs us:List Value},NdVs w S l vs → NdVs w S m us → NdVs w S (l ++ m) (vs ++ us)
  | [],m,vs,us,h,h2=>by have e:vs = []:=h;subst e;exact h2
  | a :: l,m,vs,us,h,h2=>by
    obtain ⟨v,r,rfl,h3,h4⟩:=h
    exact ⟨v,r ++ us,rfl,h3,h4.app h2⟩
theorem NdVs.at_ {w:World} {S:Nat → Prop}:∀ {l:List Nd} {vs:List Value},NdVs w S l vs → ∀ i (h1:i < l.length) (h2:i < vs.length),NdV w S l[i] vs[i]
  | [],vs,h,i,h1,h2=>by simp at h1
  | a :: l,vs,h,i,h1,h2=>by
    obtain ⟨v,r,rfl,h3,h4⟩:=h
    cases i with
    | zero=>exact h3
    | succ i=>exact h4.at_ i (by simp at h1;omega) (by simp at h2;omega)
theorem NdV.one {w:World} {S:Nat → Prop} {n:Nd} {v:Value} (h:NdV w S n v):v.oneCell' = true:=by
  cases n with
  | within _ _ _=>obtain ⟨_,rfl⟩:=h;rfl
  | has _=>have e:v = _:=h;subst e;rfl
  | all=>have e:v = _:=h;subst e;rfl
  | not n=>obtain ⟨u,rfl,_⟩:=h;rfl
  | row o l=>obtain ⟨b,n,c,vs,rfl,_⟩:=h;rfl
theorem NdVs.one {w:World} {S:Nat → Prop}:∀ {l:List Nd} {vs:List Value},NdVs w S l vs → ∀ u ∈ vs,u.oneCell' = true
  | [],vs,h,u,hu=>by have e:vs = []:=h;subst e;cases hu
  | a :: l,vs,h,u,hu=>by
    obtain ⟨v,r,rfl,h3,h4⟩:=h
    rcases List.mem_cons.1 hu with rfl | hu
    · exact h3.one
    · exact h4.one u hu
theorem NdV.iface {w:World} {S:Nat → Prop} {n:Nd} {v:Value} (h:NdV w S n v):∃ t x,v = .iface t x:=by
  cases n with
  | within _ _ _=>obtain ⟨_,rfl⟩:=h;exact ⟨_,_,rfl⟩
  | has _=>have e:v = _:=h;subst e;exact ⟨_,_,rfl⟩
  | all=>have e:v = _:=h;subst e;exact ⟨_,_,rfl⟩
  | not n=>obtain ⟨u,rfl,_⟩:=h;exact ⟨_,_,rfl⟩
  | row o l=>obtain ⟨b,n,c,vs,rfl,_⟩:=h;exact ⟨_,_,rfl⟩
def PPost (g:Nat) (en:Int) (R:PR) (w:World) (e:Ending) (w':World):Prop :=
  match R with
  | .ok n l sz dp=>∃ v,e = .returned v∧NdV w' (fun b=>w.heap.size≤b) n v∧At w' g en l sz dp∧w.grownBy w' (some g)
  | .err er a=>e = .panicked (flt er a)∧w.grownBy w' (some g)
  | .out=>False
end SieW
end Go.Proofs.YtnpncpoiiikafaaGreatDoor
namespace Go.Proofs.YtnpncpoiiikafaaGreatDoor
open Go.RowKit
namespace SieW
theorem str_ne {y z:List UInt8} (h:¬ y = z):(y == z) = false∧(y != z) = true:=by
  have:(y == z) = false:=by rw [beq_eq_false_iff_ne];exact h
  exact ⟨this,by simp [bne,this]⟩
def innerR (en:Int) (fs:List Wd → Nat → Nat → PR) (x:Wd) (l:List Wd) (sz dp:Nat):PR :=
  if 20≤dp then .err 3 x.2 else
    match fs l sz (dp + 1) with
    | .ok n l2 s2 d2=>if (hdW en l2).1 = [41] then .ok n l2.tail s2 (d2 - 1) else .err 380 (hdW en l2).2
    | x=>x
def Reads (g:Nat) (en:Int) (fn:Nat) (f m:Nat):Prop:=∀ (l:List Wd) (sz dp:Nat) (w:World),At w g en l sz dp → pG en f m [] l sz dp ≠ .out →
  Calls Tryz.prog fn #[.pointer (some ⟨g,0,none⟩)] w (PPost g en (pG en f m [] l sz dp) w)
theorem At.depth {w:World} {g:Nat} {en:Int} {l:List Wd} {sz dp:Nat} (h:At w g en l sz dp) (dp':Nat) (hd:dp'≤20):At (w.setCell ⟨g,3,none⟩ (.int .i64 dp')) g en l sz dp':=by
  obtain ⟨h1,h2,h3,h4,h5,A,n,c,hb,hr,hnc,hc⟩:=h
  exact ⟨h1.turn (grown_set (World.grownBy.refl w _) 3 _),h2,h3,h4,hd,A,n,c,blk_eq (hb.set 3 _) (by simp [rdS]),hr.below (below_set (Below.refl _ _) g 3 _ (Nat.le_refl _)),hnc,hc⟩
theorem At.cells {w:World} {g:Nat} {en:Int} {l:List Wd} {sz dp:Nat} (h:At w g en l sz dp) :
    w.cell? ⟨g,3,none⟩ = some (.int .i64 dp)∧w.frozen? ⟨g,3,none⟩ = false∧g < w.heap.size:=by
  obtain ⟨A,n,c,hb,_⟩:=h.at_
  obtain ⟨c0,c1,c2,c3,f0,f1,f2,f3,z⟩:=blk_rd hb
  exact ⟨c3,f3,z⟩
set_option maxRecDepth 100000 in
set_option maxHeartbeats 4000000 in
theorem inner_any (g:Nat) (en:Int) (f:Nat) (hS:Reads g en 16 f 2) (x:Wd) (l:List Wd) (sz dp:Nat) (w:World) (h:At w g en l sz dp)
    (Q:PR) (hQ:innerR en (fun l sz dp=>pG en f 2 [] l sz dp) x l sz dp = Q) (hno:Q ≠ .out) :
    Calls Tryz.prog 78 #[.pointer (some ⟨g,0,none⟩),wv x] w (PPost g en Q w):=by
  obtain ⟨x1,x2⟩:=x
  have hgl:=h.lt
  have hne:g ≠ w.heap.size:=by omega
  have hne2:w.heap.size ≠ g:=by omega
  have HA:=(Below.refl w.heap.size w).alloc (Nat.le_refl _) (.cells #[str x1,.int .i64 x2] 57)
  have g2:=Blk.new w 57 #[str x1,.int .i64 x2]
  have h0:=h.below HA
  obtain ⟨c3,f3,z⟩:=h0.cells
  obtain ⟨d0,d1,_,_,_⟩:=blk2 g2
  unfold innerR at hQ
  by_cases hd:20≤dp
  · have hdI:(20:Int)≤(dp:Int):=by omega
    rw [if_pos hd] at hQ
    subst hQ
    clear hno hd
    go_enter Tryz.func78,Tryz.ntmps78
    go_wp2_with fail
    refine (wrong_any 3 (x1,x2) _).mono ?_
    rintro e w1 ⟨rfl,hb1⟩
    go_wp2_with fail
    simp only [bodyPost]
    exact ⟨trivial,rfl,grown_wk (grown_of_below (HA.trans (hb1.mono HA.size)))⟩
  · have hdI:¬ (20:Int)≤(dp:Int):=by omega
    rw [if_neg hd] at hQ
    dsimp only at hQ
    obtain ⟨R,hR⟩:∃ R,pG en f 2 [] l sz (dp + 1) = R:=⟨_,rfl⟩
    have c3':=h.cells
    obtain ⟨c3',f3',_⟩:=c3'
    have hA:=(h.depth (dp + 1) (by omega)).below (w':=(w.setCell ⟨g,3,none⟩ (.int .i64 ((dp + 1:Nat):Int))).alloc (.cells #[str x1,.int .i64 x2] 57)) ((Below.refl _ _).alloc (Nat.le_refl _) _)
    have C:=hS l sz (dp + 1) _ hA (by rw [hR];intro e;rw [hR,e] at hQ;exact hno hQ.symm)
    rw [hR] at C
    rw [hR] at hQ
    have HQ:=Lib.hid hQ
    have G1:w.grownBy ((w.setCell ⟨g,3,none⟩ (.int .i64 ((dp + 1:Nat):Int))).alloc (.cells #[str x1,.int .i64 x2] 57)) (some g) :=
      grown_low (grown_set (World.grownBy.refl w _) 3 _) ((Below.refl _ _).alloc (Nat.le_refl _) _) (by simp [World.setCell])
    have hdp1:((dp:Int) + 1) = ((dp + 1:Nat):Int):=by omega
    rw [← hdp1] at G1 C hA
    have hleft:=fun n l2 s2 d2 (e:R = .ok n l2 s2 d2)=>pG_left en _ _ _ _ _ _ _ _ _ _ (hR.trans e)
    have HLF:=Lib.hid hleft
    clear hR hleft hdp1 hQ
    go_enter Tryz.func78,Tryz.ntmps78
    go_wp2_with fail
    refine C.mono ?_
    clear C
    rintro e w1 hP
    cases R with
    | out=>exact hP.elim
    | err er at_ =>
      obtain ⟨rfl,G2⟩:=hP
      have hQ:PR.err er at_ = Q:=HQ.out
      subst hQ
      go_wp2_with fail
      simp only [bodyPost]
      exact ⟨trivial,rfl,grown_then G1 G2⟩
    | ok n l2 s2 d2 =>
      obtain ⟨v,rfl,V1,A1,G2⟩:=hP
      have hd3:1≤d2:=by
        obtain ⟨k,k1,k2,_,hd2,_⟩:=HLF.out n l2 s2 d2 rfl
        omega
      clear HLF
      have D1:=grown_then G1 G2
      have NX:=next_any g en l2 s2 d2 w1 A1
      obtain ⟨⟨y,a⟩,hy⟩:∃ z,hdW en l2 = z:=⟨_,rfl⟩
      rw [hy] at NX
      have HY:=Lib.hid hy
      clear hy
      go_wp2_with fail
      refine NX.mono ?_
      clear NX
      rintro e w2 ⟨rfl,T2,G3⟩
      have D2:=grown_then D1 G3
      have g3:=Blk.new w2 57 #[str y,.int .i64 a]
      have HA3:=(Below.refl w2.heap.size w2).alloc (Nat.le_refl _) (.cells #[str y,.int .i64 a] 57)
      have T3:=T2.below HA3
      have D3:=grown_low D2 HA3 D2.size
      have hz2:=D2.size
      have hz1:=G3.size
      have V3:NdV (w2.alloc (.cells #[str y,.int .i64 a] 57)) (fun b=>w.heap.size≤b) n v:=V1.keep (fun b hb hbl=>⟨(HA3.block b (by omega)).trans (G3.block b hbl (by intro e;cases e;have:=G1.size;omega)),by have:=G1.size;simp [World.setCell] at this hb ⊢;omega⟩) _ _
      obtain ⟨s1,hs1⟩:∃ s1,w2.heap.size = s1:=⟨_,rfl⟩
      rw [hs1] at g3
      obtain ⟨w3,hw3⟩:∃ w3,w2.alloc (.cells #[str y,.int .i64 a] 57) = w3:=⟨_,rfl⟩
      rw [hw3] at g3 T3 D3 V3
      obtain ⟨e0,e1,_,_,_⟩:=blk2 g3
      obtain ⟨k3,kf3,_⟩:=T3.cells
      clear c3 f3 z d0 d1 c3' f3' hA G1 V1 A1 G2 D1 T2 D2 HA3 HA g2 h0
      have hz3:=D3.size
      have hdl:=T3.dpl
      clear hno
      by_cases hc:y = [41]
      · subst hc
        have hdm:((d2:Int) - 1) = ((d2 - 1:Nat):Int):=by omega
        have HDM:=Lib.hid hdm
        clear hdm
        go_wp2_with fail
        go_ret
        have hQ:=HQ.out
        simp only [HY.out,if_true] at hQ
        subst hQ
        rw [HDM.out]
        have T4:=T3.depth (d2 - 1) (by have:=T3.dpl;omega)
        exact ⟨v,rfl,V3.keep (fun b hb hbl=>⟨Below.heap_setCell _ _ _ b (by show b ≠ g;omega),hb⟩) _ _,by rw [tail_drop];exact T4,grown_set D3 3 _⟩
      · obtain ⟨q1,q2⟩:=str_ne hc
        have HC:=Lib.hid hc
        clear hc
        go_wp2_with fail
        refine (wrong_any 380 (y,a) _).mono ?_
        rintro e w4 ⟨rfl,hb4⟩
        go_wp2_with fail
        have hQ:=HQ.out
        simp only [HY.out,if_neg HC.out] at hQ
        subst hQ
        simp only [bodyPost]
        exact ⟨trivial,rfl,grown_low D3 hb4 hz3⟩
theorem kw_cases {x:List UInt8} {k:Nat} (h:kindP x = some k):k≤2∧x = kwS k:=by
  refine ⟨kind_le h,?_⟩
  unfold kindP at h
  split at h
  · next e=>cases h;exact e
  · split at h
    · next e=>cases h;exact e
    · split at h
      · next e=>cases h;exact e
      · cases h
theorem kw_none {x:List UInt8} (h:kindP x = none):¬ x = sSeq∧¬ x = sTick∧¬ x = sSize:=by
  unfold kindP at h
  split at h
  · cases h
  · next h1 =>
    split at h
    · cases h
    · next h2 =>
      split at h
      · cases h
      · next h3=>exact ⟨h1,h2,h3⟩
set_option maxRecDepth 100000 in
set_option maxHeartbeats 8000000 in
theorem factor_any (g:Nat) (en:Int) (f:Nat) (hF:Reads g en 52 f 0) (hS:Reads g en 16 f 2):Reads g en 52 (f + 1) 0:=by
  intro l sz dp w h hno
  rw [pG] at hno ⊢
  obtain ⟨Q,hQ⟩:∃ Q,facS en (fun l sz dp=>pG en f 0 [] l sz dp) (fun l sz dp=>pG en f 2 [] l sz dp) l sz dp = Q:=⟨_,rfl⟩
  rw [hQ] at hno ⊢
  have hgl:=h.lt
  have NX:=next_any g en l sz dp w h
  have HQ:=Lib.hid hQ
  clear hQ
  obtain ⟨⟨x,a⟩,hx⟩:∃ z,hdW en l = z:=⟨_,rfl⟩
  rw [hx] at NX
  have HX:=Lib.hid hx
  clear hx h
  go_enter Tryz.func52,Tryz.ntmps52
  go_wp2_with fail
  refine NX.mono ?_
  clear NX
  rintro e w1 ⟨rfl,T1,D1⟩
  have g2:=Blk.new w1 57 #[str x,.int .i64 a]
  have HA2:=(Below.refl w1.heap.size w1).alloc (Nat.le_refl _) (.cells #[str x,.int .i64 a] 57)
  have T2:=T1.below HA2
  have D2:w.grownBy (w1.alloc (.cells #[str x,.int .i64 a] 57)) (some g):=grown_low D1 HA2 D1.size
  have hs1g:g < w1.heap.size:=T1.lt
  have hz1:=D1.size
  obtain ⟨s1,hs1'⟩:∃ s1,w1.heap.size = s1:=⟨_,rfl⟩
  rw [hs1'] at g2 hs1g hz1
  obtain ⟨w2,hw2⟩:∃ w2,w1.alloc (.cells #[str x,.int .i64 a] 57) = w2:=⟨_,rfl⟩
  rw [hw2] at g2 T2 D2
  have hz2:=D2.size
  have hsw2:=g2.lt
  have hsg:s1 ≠ g:=by omega
  have hsg2:g ≠ s1:=by omega
  have hszl:=T2.szl
  clear T1 D1 HA2
  obtain ⟨d0,d1,_,_,_⟩:=blk2 g2
  obtain ⟨ko,hko⟩:∃ ko,kindP x = ko:=⟨_,rfl⟩
  cases ko with
  | some k =>
    obtain ⟨k2,rfl⟩:=kw_cases hko
    have hQ:(if 100≤sz then PR.err 3 a else match numsP (hdW en l.tail).1 with
      | some (a,b)=>.ok (.within k a b) l.tail.tail (sz + 1) dp
      | none=>.err 380 (hdW en l.tail).2) = Q:=by
      have:=HQ.out
      rw [facS,HX.out,hko] at this
      exact this
    rw [tail_drop,tail_drop,List.drop_drop] at hQ
    have HQ2:=Lib.hid hQ
    clear hQ HQ hko
    have k3:k = 0 ∨ k = 1 ∨ k = 2:=by omega
    have HC:∀ (P:Prop),P → P:=fun _ h=>h
    by_cases hs:100≤sz
    · rcases k3 with rfl | rfl | rfl
      all_goals
        go_wp2_with fail
        refine (counted_no g en (l.drop 1) sz dp (_,a) _ T2 hs).mono ?_
        rintro e w3 ⟨rfl,G3⟩
        go_wp2_with fail
        have hQ:=HQ2.out
        rw [if_pos hs] at hQ
        subst hQ
        simp only [bodyPost]
        exact ⟨trivial,rfl,grown_then D2 G3⟩
    · obtain ⟨r,hr⟩:∃ r,numsP (hdW en (l.drop 1)).1 = r:=⟨_,rfl⟩
      have HS0:=Lib.hid hs
      cases r with
      | none =>
        rcases k3 with rfl | rfl | rfl
        · go_wp2_with fail
          refine (counted_ok g en (l.drop 1) sz dp (_,a) _ T2 (by omega)).mono ?_
          rintro e w3 ⟨rfl,T3,G3⟩
          have g3:=g2.grown G3 (by simp;omega)
          have D3:=grown_then D2 G3
          obtain ⟨e0,e1,_,_,_⟩:=blk2 g3
          go_wp2_with fail
          refine wp_region_held_drew (S:=(fun w'=>w'.cell? ⟨s1,0,none⟩ = some (str (kwS 0)))) (by kernel_rfl) ?_ (fun hHeld=>?_)
          · (try dsimp only);exact g3.cell_ 0 rfl
          refine take_op (v:=?vu1x0) 0 (Op.fieldAddr 57 (Operand.tmp 3) 0) 0 rfl rfl rfl rfl rfl (by kernel_rfl) (by kernel_rfl) (by kernel_rfl) (fun _ _ _ h=>h) ?yu1x0 (by assumption) ?ru1x0
          case yu1x0=>(intro w' hSw;(try dsimp only at hSw);go_simp;try (with_reducible rfl))
          simp only [zSa,zSb,zSc]
          refine take_op (v:=?vu1x1) 1 (Op.load 9 (Operand.tmp 15)) 9 rfl rfl rfl rfl rfl (by kernel_rfl) (by kernel_rfl) (by kernel_rfl) (fun _ _ _ h=>h) ?yu1x1 (by assumption) ?ru1x1
          case yu1x1=>(intro w' hSw;(try dsimp only at hSw);go_simp;try (with_reducible rfl))
          simp only [zSa,zSb,zSc]
          refine take_movev (v:=?vu1x2) 2 (Operand.tmp 0) rfl rfl (by first | exact .inl rfl | exact .inr rfl) rfl (by kernel_rfl) (by kernel_rfl) (by kernel_rfl) (fun _ _ _ h=>h) (by assumption) ?yu1x2 ?ru1x2
          case yu1x2=>(go_simp;try (with_reducible rfl))
          simp only [zSa,zSb,zSc]
          refine wpAnyH_ready (rs:=[3]) (by kernel_rfl) (by simp) (AllReadyH.cons rfl (fun K3 hK3=>?ku1x3) AllReadyH.nil)
          refine take_callp 3 76 [Operand.tmp 17] #[47] rfl (by kernel_rfl) (fun args w=>run_enter Tryz.func76 (by kernel_rfl) rfl args w) ?_
          refine (numbers_no g en (l.drop 1) (sz + 1) dp _ (T3.below (Below.refl _ _).drew) hr).mono ?_
          rintro e w3 ⟨rfl,G4⟩
          refine ⟨_,rfl,?_⟩
          have hQ:=HQ2.out
          rw [if_neg HS0.out,hr] at hQ
          subst hQ
          simp only [bodyPost]
          exact ⟨rfl,rfl,grown_then (grown_low D3 (Below.refl _ _).drew D3.size) G4⟩
        · go_wp2_with fail
          refine (counted_ok g en (l.drop 1) sz dp (_,a) _ T2 (by omega)).mono ?_
          rintro e w3 ⟨rfl,T3,G3⟩
          have g3:=g2.grown G3 (by simp;omega)
          have D3:=grown_then D2 G3
          obtain ⟨e0,e1,_,_,_⟩:=blk2 g3
          go_wp2_with fail
          refine wp_region_held_drew (S:=(fun w'=>w'.cell? ⟨s1,0,none⟩ = some (str (kwS 1)))) (by kernel_rfl) ?_ (fun hHeld=>?_)
          · (try dsimp only);exact g3.cell_ 0 rfl
          refine take_op (v:=?vu2x0) 0 (Op.fieldAddr 57 (Operand.tmp 3) 0) 0 rfl rfl rfl rfl rfl (by kernel_rfl) (by kernel_rfl) (by kernel_rfl) (fun _ _ _ h=>h) ?yu2x0 (by assumption) ?ru2x0
          case yu2x0=>(intro w' hSw;(try dsimp only at hSw);go_simp;try (with_reducible rfl))
          simp only [zSa,zSb,zSc]
          refine take_op (v:=?vu2x1) 1 (Op.load 9 (Operand.tmp 15)) 9 rfl rfl rfl rfl rfl (by kernel_rfl) (by kernel_rfl) (by kernel_rfl) (fun _ _ _ h=>h) ?yu2x1 (by assumption) ?ru2x1
          case yu2x1=>(intro w' hSw;(try dsimp only at hSw);go_simp;try (with_reducible rfl))
          simp only [zSa,zSb,zSc]
          refine take_movev (v:=?vu2x2) 2 (Operand.tmp 0) rfl rfl (by first | exact .inl rfl | exact .inr rfl) rfl (by kernel_rfl) (by kernel_rfl) (by kernel_rfl) (fun _ _ _ h=>h) (by assumption) ?yu2x2 ?ru2x2
          case yu2x2=>(go_simp;try (with_reducible rfl))
          simp only [zSa,zSb,zSc]
          refine wpAnyH_ready (rs:=[3]) (by kernel_rfl) (by simp) (AllReadyH.cons rfl (fun K3 hK3=>?ku2x3) AllReadyH.nil)
          refine take_callp 3 76 [Operand.tmp 17] #[47] rfl (by kernel_rfl) (fun args w=>run_enter Tryz.func76 (by kernel_rfl) rfl args w) ?_
          refine (numbers_no g en (l.drop 1) (sz + 1) dp _ (T3.below (Below.refl _ _).drew) hr).mono ?_
          rintro e w3 ⟨rfl,G4⟩
          refine ⟨_,rfl,?_⟩
          have hQ:=HQ2.out
          rw [if_neg HS0.out,hr] at hQ
          subst hQ
          simp only [bodyPost]
          exact ⟨rfl,rfl,grown_then (grown_low D3 (Below.refl _ _).drew D3.size) G4⟩
        · go_wp2_with fail
          refine (counted_ok g en (l.drop 1) sz dp (_,a) _ T2 (by omega)).mono ?_
          rintro e w3 ⟨rfl,T3,G3⟩
          have g3:=g2.grown G3 (by simp;omega)
          have D3:=grown_then D2 G3
          obtain ⟨e0,e1,_,_,_⟩:=blk2 g3
          go_wp2_with fail
          refine wp_region_held_drew (S:=(fun w'=>w'.cell? ⟨s1,0,none⟩ = some (str (kwS 2)))) (by kernel_rfl) ?_ (fun hHeld=>?_)
          · (try dsimp only);exact g3.cell_ 0 rfl
          refine take_op (v:=?vu3x0) 0 (Op.fieldAddr 57 (Operand.tmp 3) 0) 0 rfl rfl rfl rfl rfl (by kernel_rfl) (by kernel_rfl) (by kernel_rfl) (fun _ _ _ h=>h) ?yu3x0 (by assumption) ?ru3x0
          case yu3x0=>(intro w' hSw;(try dsimp only at hSw);go_simp;try (with_reducible rfl))
          simp only [zSa,zSb,zSc]
          refine take_op (v:=?vu3x1) 1 (Op.load 9 (Operand.tmp 15)) 9 rfl rfl rfl rfl rfl (by kernel_rfl) (by kernel_rfl) (by kernel_rfl) (fun _ _ _ h=>h) ?yu3x1 (by assumption) ?ru3x1
          case yu3x1=>(intro w' hSw;(try dsimp only at hSw);go_simp;try (with_reducible rfl))
          simp only [zSa,zSb,zSc]
          refine take_movev (v:=?vu3x2) 2 (Operand.tmp 0) rfl rfl (by first | exact .inl rfl | exact .inr rfl) rfl (by kernel_rfl) (by kernel_rfl) (by kernel_rfl) (fun _ _ _ h=>h) (by assumption) ?yu3x2 ?ru3x2
          case yu3x2=>(go_simp;try (with_reducible rfl))
          simp only [zSa,zSb,zSc]
          refine wpAnyH_ready (rs:=[3]) (by kernel_rfl) (by simp) (AllReadyH.cons rfl (fun K3 hK3=>?ku3x3) AllReadyH.nil)
          refine take_callp 3 76 [Operand.tmp 17] #[47] rfl (by kernel_rfl) (fun args w=>run_enter Tryz.func76 (by kernel_rfl) rfl args w) ?_
          refine (numbers_no g en (l.drop 1) (sz + 1) dp _ (T3.below (Below.refl _ _).drew) hr).mono ?_
          rintro e w3 ⟨rfl,G4⟩
          refine ⟨_,rfl,?_⟩
          have hQ:=HQ2.out
          rw [if_neg HS0.out,hr] at hQ
          subst hQ
          simp only [bodyPost]
          exact ⟨rfl,rfl,grown_then (grown_low D3 (Below.refl _ _).drew D3.size) G4⟩
      | some r =>
        obtain ⟨b1,b2⟩:=r
        rcases k3 with rfl | rfl | rfl
        · go_wp2_with fail
          refine (counted_ok g en (l.drop 1) sz dp (_,a) _ T2 (by omega)).mono ?_
          rintro e w3 ⟨rfl,T3,G3⟩
          have g3:=g2.grown G3 (by simp;omega)
          have D3:=grown_then D2 G3
          obtain ⟨e0,e1,_,_,_⟩:=blk2 g3
          go_wp2_with fail
          refine wp_region_held_drew (S:=(fun w'=>w'.cell? ⟨s1,0,none⟩ = some (str (kwS 0)))) (by kernel_rfl) ?_ (fun hHeld=>?_)
          · (try dsimp only);first | exact g4.cell_ 0 rfl | exact g3.cell_ 0 rfl
          refine take_op (v:=?vu4x0) 0 (Op.fieldAddr 57 (Operand.tmp 3) 0) 0 rfl rfl rfl rfl rfl (by kernel_rfl) (by kernel_rfl) (by kernel_rfl) (fun _ _ _ h=>h) ?yu4x0 (by assumption) ?ru4x0
          case yu4x0=>(intro w' hSw;(try dsimp only at hSw);go_simp;try (with_reducible rfl))
          simp only [zSa,zSb,zSc]
          refine take_op (v:=?vu4x1) 1 (Op.load 9 (Operand.tmp 15)) 9 rfl rfl rfl rfl rfl (by kernel_rfl) (by kernel_rfl) (by kernel_rfl) (fun _ _ _ h=>h) ?yu4x1 (by assumption) ?ru4x1
          case yu4x1=>(intro w' hSw;(try dsimp only at hSw);go_simp;try (with_reducible rfl))
          simp only [zSa,zSb,zSc]
          refine take_movev (v:=?vu4x2) 2 (Operand.tmp 0) rfl rfl (by first | exact .inl rfl | exact .inr rfl) rfl (by kernel_rfl) (by kernel_rfl) (by kernel_rfl) (fun _ _ _ h=>h) (by assumption) ?yu4x2 ?ru4x2
          case yu4x2=>(go_simp;try (with_reducible rfl))
          simp only [zSa,zSb,zSc]
          refine wpAnyH_ready (rs:=[3]) (by kernel_rfl) (by simp) (AllReadyH.cons rfl (fun K3 hK3=>?ku4x3) AllReadyH.nil)
          refine take_calls 3 76 [Operand.tmp 17] #[47] rfl rfl (by kernel_rfl) (fun args w=>run_enter Tryz.func76 (by kernel_rfl) rfl args w) ?_
          refine (numbers_ok g en (l.drop 1) (sz + 1) dp _ (T3.below (Below.refl _ _).drew) b1 b2 hr).mono ?_
          rintro e w3 ⟨rfl,T4,G4⟩
          have g4:=(g3.drew).grown G4 (by simp;omega)
          refine ⟨_,rfl,?_⟩
          refine hK3.out _ _ ?su4x3 (fun hHeld=>?ru4x3)
          case su4x3=>((try dsimp only);first | exact g4.cell_ 0 rfl | exact g3.cell_ 0 rfl)
          try simp only [zSa,zSb,zSc]
          refine take_op (v:=?vu4x4) 4 (Op.build 95 #[(0,Operand.tmp 16),(1,Operand.tmp 18)]) 95 rfl rfl rfl rfl rfl (by kernel_rfl) (by kernel_rfl) (by kernel_rfl) (fun _ _ _ h=>h) ?yu4x4 (by assumption) ?ru4x4
          case yu4x4=>(intro w' hSw;(try dsimp only at hSw);go_simp;try (with_reducible rfl))
          simp only [zSa,zSb,zSc]
          refine take_op (v:=?vu4x5) 5 (Op.makeInterface 95 (Operand.tmp 19)) 53 rfl rfl rfl rfl rfl (by kernel_rfl) (by kernel_rfl) (by kernel_rfl) (fun _ _ _ h=>h) ?yu4x5 (by assumption) ?ru4x5
          case yu4x5=>(intro w' hSw;(try dsimp only at hSw);go_simp;try (with_reducible rfl))
          simp only [zSa,zSb,zSc]
          refine take_op (v:=?vu4x6) 6 (Op.assign (Operand.tmp 20)) 53 rfl rfl rfl rfl rfl (by kernel_rfl) (by kernel_rfl) (by kernel_rfl) (fun _ _ _ h=>h) ?yu4x6 (by assumption) ?ru4x6
          case yu4x6=>(intro w' hSw;(try dsimp only at hSw);go_simp;try (with_reducible rfl))
          simp only [zSa,zSb,zSc]
          refine wpAnyH_done (by kernel_rfl) ?_ _
          have D4:=grown_then (grown_low D3 (Below.refl _ _).drew D3.size) G4
          go_wp2_with fail
          go_ret
          have hQ:=HQ2.out
          rw [if_neg HS0.out,hr] at hQ
          subst hQ
          rw [List.drop_drop] at T4
          exact ⟨_,rfl,⟨by omega,rfl⟩,T4,D4⟩
        · go_wp2_with fail
          refine (counted_ok g en (l.drop 1) sz dp (_,a) _ T2 (by omega)).mono ?_
          rintro e w3 ⟨rfl,T3,G3⟩
          have g3:=g2.grown G3 (by simp;omega)
          have D3:=grown_then D2 G3
          obtain ⟨e0,e1,_,_,_⟩:=blk2 g3
          go_wp2_with fail
          refine wp_region_held_drew (S:=(fun w'=>w'.cell? ⟨s1,0,none⟩ = some (str (kwS 1)))) (by kernel_rfl) ?_ (fun hHeld=>?_)
          · (try dsimp only);first | exact g4.cell_ 0 rfl | exact g3.cell_ 0 rfl
          refine take_op (v:=?vu5x0) 0 (Op.fieldAddr 57 (Operand.tmp 3) 0) 0 rfl rfl rfl rfl rfl (by kernel_rfl) (by kernel_rfl) (by kernel_rfl) (fun _ _ _ h=>h) ?yu5x0 (by assumption) ?ru5x0
          case yu5x0=>(intro w' hSw;(try dsimp only at hSw);go_simp;try (with_reducible rfl))
          simp only [zSa,zSb,zSc]
          refine take_op (v:=?vu5x1) 1 (Op.load 9 (Operand.tmp 15)) 9 rfl rfl rfl rfl rfl (by kernel_rfl) (by kernel_rfl) (by kernel_rfl) (fun _ _ _ h=>h) ?yu5x1 (by assumption) ?ru5x1
          case yu5x1=>(intro w' hSw;(try dsimp only at hSw);go_simp;try (with_reducible rfl))
          simp only [zSa,zSb,zSc]
          refine take_movev (v:=?vu5x2) 2 (Operand.tmp 0) rfl rfl (by first | exact .inl rfl | exact .inr rfl) rfl (by kernel_rfl) (by kernel_rfl) (by kernel_rfl) (fun _ _ _ h=>h) (by assumption) ?yu5x2 ?ru5x2
          case yu5x2=>(go_simp;try (with_reducible rfl))
          simp only [zSa,zSb,zSc]
          refine wpAnyH_ready (rs:=[3]) (by kernel_rfl) (by simp) (AllReadyH.cons rfl (fun K3 hK3=>?ku5x3) AllReadyH.nil)
          refine take_calls 3 76 [Operand.tmp 17] #[47] rfl rfl (by kernel_rfl) (fun args w=>run_enter Tryz.func76 (by kernel_rfl) rfl args w) ?_
          refine (numbers_ok g en (l.drop 1) (sz + 1) dp _ (T3.below (Below.refl _ _).drew) b1 b2 hr).mono ?_
          rintro e w3 ⟨rfl,T4,G4⟩
          have g4:=(g3.drew).grown G4 (by simp;omega)
          refine ⟨_,rfl,?_⟩
          refine hK3.out _ _ ?su5x3 (fun hHeld=>?ru5x3)
          case su5x3=>((try dsimp only);first | exact g4.cell_ 0 rfl | exact g3.cell_ 0 rfl)
          try simp only [zSa,zSb,zSc]
          refine take_op (v:=?vu5x4) 4 (Op.build 95 #[(0,Operand.tmp 16),(1,Operand.tmp 18)]) 95 rfl rfl rfl rfl rfl (by kernel_rfl) (by kernel_rfl) (by kernel_rfl) (fun _ _ _ h=>h) ?yu5x4 (by assumption) ?ru5x4
          case yu5x4=>(intro w' hSw;(try dsimp only at hSw);go_simp;try (with_reducible rfl))
          simp only [zSa,zSb,zSc]
          refine take_op (v:=?vu5x5) 5 (Op.makeInterface 95 (Operand.tmp 19)) 53 rfl rfl rfl rfl rfl (by kernel_rfl) (by kernel_rfl) (by kernel_rfl) (fun _ _ _ h=>h) ?yu5x5 (by assumption) ?ru5x5
          case yu5x5=>(intro w' hSw;(try dsimp only at hSw);go_simp;try (with_reducible rfl))
          simp only [zSa,zSb,zSc]
          refine take_op (v:=?vu5x6) 6 (Op.assign (Operand.tmp 20)) 53 rfl rfl rfl rfl rfl (by kernel_rfl) (by kernel_rfl) (by kernel_rfl) (fun _ _ _ h=>h) ?yu5x6 (by assumption) ?ru5x6
          case yu5x6=>(intro w' hSw;(try dsimp only at hSw);go_simp;try (with_reducible rfl))
          simp only [zSa,zSb,zSc]
          refine wpAnyH_done (by kernel_rfl) ?_ _
          have D4:=grown_then (grown_low D3 (Below.refl _ _).drew D3.size) G4
          go_wp2_with fail
          go_ret
          have hQ:=HQ2.out
          rw [if_neg HS0.out,hr] at hQ
          subst hQ
          rw [List.drop_drop] at T4
          exact ⟨_,rfl,⟨by omega,rfl⟩,T4,D4⟩
        · go_wp2_with fail
          refine (counted_ok g en (l.drop 1) sz dp (_,a) _ T2 (by omega)).mono ?_
          rintro e w3 ⟨rfl,T3,G3⟩
          have g3:=g2.grown G3 (by simp;omega)
          have D3:=grown_then D2 G3
          obtain ⟨e0,e1,_,_,_⟩:=blk2 g3
          go_wp2_with fail
          refine wp_region_held_drew (S:=(fun w'=>w'.cell? ⟨s1,0,none⟩ = some (str (kwS 2)))) (by kernel_rfl) ?_ (fun hHeld=>?_)
          · (try dsimp only);first | exact g4.cell_ 0 rfl | exact g3.cell_ 0 rfl
          refine take_op (v:=?vu6x0) 0 (Op.fieldAddr 57 (Operand.tmp 3) 0) 0 rfl rfl rfl rfl rfl (by kernel_rfl) (by kernel_rfl) (by kernel_rfl) (fun _ _ _ h=>h) ?yu6x0 (by assumption) ?ru6x0
          case yu6x0=>(intro w' hSw;(try dsimp only at hSw);go_simp;try (with_reducible rfl))
          simp only [zSa,zSb,zSc]
          refine take_op (v:=?vu6x1) 1 (Op.load 9 (Operand.tmp 15)) 9 rfl rfl rfl rfl rfl (by kernel_rfl) (by kernel_rfl) (by kernel_rfl) (fun _ _ _ h=>h) ?yu6x1 (by assumption) ?ru6x1
          case yu6x1=>(intro w' hSw;(try dsimp only at hSw);go_simp;try (with_reducible rfl))
          simp only [zSa,zSb,zSc]
          refine take_movev (v:=?vu6x2) 2 (Operand.tmp 0) rfl rfl (by first | exact .inl rfl | exact .inr rfl) rfl (by kernel_rfl) (by kernel_rfl) (by kernel_rfl) (fun _ _ _ h=>h) (by assumption) ?yu6x2 ?ru6x2
          case yu6x2=>(go_simp;try (with_reducible rfl))
          simp only [zSa,zSb,zSc]
          refine wpAnyH_ready (rs:=[3]) (by kernel_rfl) (by simp) (AllReadyH.cons rfl (fun K3 hK3=>?ku6x3) AllReadyH.nil)
          refine take_calls 3 76 [Operand.tmp 17] #[47] rfl rfl (by kernel_rfl) (fun args w=>run_enter Tryz.func76 (by kernel_rfl) rfl args w) ?_
          refine (numbers_ok g en (l.drop 1) (sz + 1) dp _ (T3.below (Below.refl _ _).drew) b1 b2 hr).mono ?_
          rintro e w3 ⟨rfl,T4,G4⟩
          have g4:=(g3.drew).grown G4 (by simp;omega)
          refine ⟨_,rfl,?_⟩
          refine hK3.out _ _ ?su6x3 (fun hHeld=>?ru6x3)
          case su6x3=>((try dsimp only);first | exact g4.cell_ 0 rfl | exact g3.cell_ 0 rfl)
          try simp only [zSa,zSb,zSc]
          refine take_op (v:=?vu6x4) 4 (Op.build 95 #[(0,Operand.tmp 16),(1,Operand.tmp 18)]) 95 rfl rfl rfl rfl rfl (by kernel_rfl) (by kernel_rfl) (by kernel_rfl) (fun _ _ _ h=>h) ?yu6x4 (by assumption) ?ru6x4
          case yu6x4=>(intro w' hSw;(try dsimp only at hSw);go_simp;try (with_reducible rfl))
          simp only [zSa,zSb,zSc]
          refine take_op (v:=?vu6x5) 5 (Op.makeInterface 95 (Operand.tmp 19)) 53 rfl rfl rfl rfl rfl (by kernel_rfl) (by kernel_rfl) (by kernel_rfl) (fun _ _ _ h=>h) ?yu6x5 (by assumption) ?ru6x5
          case yu6x5=>(intro w' hSw;(try dsimp only at hSw);go_simp;try (with_reducible rfl))
          simp only [zSa,zSb,zSc]
          refine take_op (v:=?vu6x6) 6 (Op.assign (Operand.tmp 20)) 53 rfl rfl rfl rfl rfl (by kernel_rfl) (by kernel_rfl) (by kernel_rfl) (fun _ _ _ h=>h) ?yu6x6 (by assumption) ?ru6x6
          case yu6x6=>(intro w' hSw;(try dsimp only at hSw);go_simp;try (with_reducible rfl))
          simp only [zSa,zSb,zSc]
          refine wpAnyH_done (by kernel_rfl) ?_ _
          have D4:=grown_then (grown_low D3 (Below.refl _ _).drew D3.size) G4
          go_wp2_with fail
          go_ret
          have hQ:=HQ2.out
          rw [if_neg HS0.out,hr] at hQ
          subst hQ
          rw [List.drop_drop] at T4
          exact ⟨_,rfl,⟨by omega,rfl⟩,T4,D4⟩
  | none =>
    obtain ⟨n1,n2,n3⟩:=kw_none hko
    have hQ:=HQ.out
    rw [facS,HX.out,hko] at hQ
    dsimp only at hQ
    clear HQ
    obtain ⟨p1,p1'⟩:=str_ne n1
    obtain ⟨p2,p2'⟩:=str_ne n2
    obtain ⟨p3,p3'⟩:=str_ne n3
    unfold sSeq at p1 p1'
    unfold sTick at p2 p2'
    unfold sSize at p3 p3'
    clear n1 n2 n3
    by_cases c1:x = sHas
    · subst c1
      rw [if_pos rfl] at hQ
      rw [tail_drop,tail_drop,List.drop_drop] at hQ
      have HQ2:=Lib.hid hQ
      clear hQ p1 p1' p2 p2' p3 p3' hko
      by_cases hs:100≤sz
      · go_wp2_with fail
        refine (counted_no g en (l.drop 1) sz dp (_,a) _ T2 hs).mono ?_
        rintro e w3 ⟨rfl,G3⟩
        go_wp2_with fail
        have hQ:=HQ2.out
        rw [if_pos hs] at hQ
        subst hQ
        simp only [bodyPost]
        exact ⟨by first | trivial | rfl,rfl,grown_then D2 G3⟩
      · have HS0:=Lib.hid hs
        obtain ⟨r,hr⟩:∃ r,bytesP (hdW en (l.drop 1)).1 = r:=⟨_,rfl⟩
        have HR:=Lib.hid hr
        clear hr
        go_wp2_with fail
        refine (counted_ok g en (l.drop 1) sz dp (_,a) _ T2 (by omega)).mono ?_
        rintro e w3 ⟨rfl,T3,G3⟩
        have D3:=grown_then D2 G3
        go_wp2_with fail
        cases r with
        | none =>
          refine (bytes_no g en (l.drop 1) (sz + 1) dp _ T3 HR.out).mono ?_
          rintro e w4 ⟨rfl,G4⟩
          go_wp2_with fail
          have hQ:=HQ2.out
          rw [if_neg HS0.out,HR.out] at hQ
          subst hQ
          simp only [bodyPost]
          exact ⟨by first | trivial | rfl,by first | rfl | rw [tail_drop],grown_then D3 G4⟩
        | some b =>
          refine (bytes_ok g en (l.drop 1) (sz + 1) dp _ T3 b HR.out).mono ?_
          rintro e w4 ⟨rfl,T4,G4⟩
          go_wp2_with fail
          go_ret
          have hQ:=HQ2.out
          rw [if_neg HS0.out,HR.out] at hQ
          subst hQ
          rw [List.drop_drop] at T4
          exact ⟨_,rfl,rfl,T4,grown_then D3 G4⟩
    rw [if_neg c1] at hQ
    obtain ⟨p4,p4'⟩:=str_ne c1
    unfold sHas at p4 p4'
    clear c1
    by_cases c1:x = sAll
    · subst c1
      rw [if_pos rfl] at hQ
      rw [tail_drop] at hQ
      have HQ2:=Lib.hid hQ
      clear hQ p1 p1' p2 p2' p3 p3' p4 p4' hko
      by_cases hs:100≤sz
      · go_wp2_with fail
        refine (counted_no g en (l.drop 1) sz dp (_,a) _ T2 hs).mono ?_
        rintro e w3 ⟨rfl,G3⟩
        go_wp2_with fail
        have hQ:=HQ2.out
        rw [if_pos hs] at hQ
        subst hQ
        simp only [bodyPost]
        exact ⟨by first | trivial | rfl,rfl,grown_then D2 G3⟩
      · have HS0:=Lib.hid hs
        go_wp2_with fail
        refine (counted_ok g en (l.drop 1) sz dp (_,a) _ T2 (by omega)).mono ?_
        rintro e w3 ⟨rfl,T3,G3⟩
        have D3:=grown_then D2 G3
        go_wp2_with fail
        go_ret
        have hQ:=HQ2.out
        rw [if_neg HS0.out] at hQ
        subst hQ
        exact ⟨_,rfl,rfl,T3,D3⟩
    rw [if_neg c1] at hQ
    obtain ⟨p5,p5'⟩:=str_ne c1
    unfold sAll at p5 p5'
    clear c1
    by_cases c1:x = sNot
    · subst c1
      rw [if_pos rfl] at hQ
      rw [tail_drop] at hQ
      have HQ2:=Lib.hid hQ
      clear hQ p1 p1' p2 p2' p3 p3' p4 p4' p5 p5' hko
      by_cases hs:100≤sz
      · go_wp2_with fail
        refine (counted_no g en (l.drop 1) sz dp (_,a) _ T2 hs).mono ?_
        rintro e w3 ⟨rfl,G3⟩
        go_wp2_with fail
        have hQ:=HQ2.out
        rw [if_pos hs] at hQ
        subst hQ
        simp only [bodyPost]
        exact ⟨by first | trivial | rfl,rfl,grown_then D2 G3⟩
      · have HS0:=Lib.hid hs
        have hQ:=HQ2.out
        rw [if_neg hs] at hQ
        obtain ⟨R,hR⟩:∃ R,pG en f 0 [] (l.drop 1) (sz + 1) dp = R:=⟨_,rfl⟩
        rw [hR] at hQ
        have HQ3:=Lib.hid hQ
        have hRn:R ≠ .out:=by intro e;rw [e] at hQ;exact hno hQ.symm
        have C:=fun w h=>hF (l.drop 1) (sz + 1) dp w h (by rw [hR];exact hRn)
        rw [hR] at C
        have HCC:=Lib.hid C
        clear C hR hRn
        clear hQ
        go_wp2_with fail
        refine (counted_ok g en (l.drop 1) sz dp (_,a) _ T2 (by omega)).mono ?_
        rintro e w3 ⟨rfl,T3,G3⟩
        have D3:=grown_then D2 G3
        go_wp2_with fail
        refine (HCC.out _ T3).mono ?_
        rintro e w4 hP
        cases R with
        | out=>exact hP.elim
        | err er at_ =>
          obtain ⟨rfl,G4⟩:=hP
          go_wp2_with fail
          have hQ:PR.err er at_ = Q:=HQ3.out
          subst hQ
          simp only [bodyPost]
          exact ⟨by first | trivial | rfl,rfl,grown_then D3 G4⟩
        | ok n l2 s2 d2 =>
          obtain ⟨v,rfl,V4,T4,G4⟩:=hP
          obtain ⟨tv,xv,rfl⟩:=V4.iface
          go_wp2_with fail
          go_ret
          have hQ:PR.ok (.not n) l2 s2 d2 = Q:=HQ3.out
          subst hQ
          have hz3:=D3.size
          exact ⟨_,rfl,⟨_,rfl,V4.keep (fun b hb _=>⟨rfl,by omega⟩) _ _⟩,T4,grown_then D3 G4⟩
    rw [if_neg c1] at hQ
    obtain ⟨p6,p6'⟩:=str_ne c1
    unfold sNot at p6 p6'
    clear c1
    by_cases c1:x = [40]
    · subst c1
      rw [if_pos rfl] at hQ
      have hI:innerR en (fun l sz dp=>pG en f 2 [] l sz dp) ([40],a) (l.drop 1) sz dp = Q:=by
        rw [← hQ,tail_drop]
        rfl
      have C:=inner_any g en f hS ([40],a) (l.drop 1) sz dp _ T2 Q hI hno
      clear hQ hI p1 p1' p2 p2' p3 p3' p4 p4' p5 p5' p6 p6' hko
      go_wp2_with fail
      refine C.mono ?_
      clear C
      rintro e w3 hP
      cases Q with
      | out=>exact hP.elim
      | err er at_ =>
        obtain ⟨rfl,G4⟩:=hP
        go_wp2_with fail
        simp only [bodyPost]
        exact ⟨by first | trivial | rfl,rfl,grown_then D2 G4⟩
      | ok n l2 s2 d2 =>
        obtain ⟨v,rfl,V4,T4,G4⟩:=hP
        go_wp2_with fail
        go_ret
        exact ⟨v,rfl,V4.keep (fun b hb _=>⟨rfl,by omega⟩) _ _,T4,grown_then D2 G4⟩
    rw [if_neg c1] at hQ
    obtain ⟨p7,p7'⟩:=str_ne c1
    have HQ2:=Lib.hid hQ
    clear c1 hQ hko
    go_wp2_with fail
    refine (wrong_any 380 (x,a) _).mono ?_
    rintro e w3 ⟨rfl,hb3⟩
    go_wp2_with fail
    have hQ:=HQ2.out
    subst hQ
    simp only [bodyPost]
    exact ⟨by first | trivial | rfl,rfl,grown_low D2 hb3 hz2⟩
end SieW
end Go.Proofs.YtnpncpoiiikafaaGreatDoor
