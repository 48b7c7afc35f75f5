/- SpanD -/
import Derived.Test.YtnpncpoiiikafaaGreatDoorSieHQs
import Derived.Test.YtnpncpoiiikafaaGreatDoorSieQQs
import Derived.Test.YtnpncpoiiikafaaGreatDoorMemQs
import Derived.Test.YtnpncpoiiikafaaGreatDoorKmpPQs
import Derived.Test.YtnpncpoiiikafaaGreatDoorAppQs
set_option linter.unusedVariables false
set_option linter.unusedSimpArgs false
set_option linter.unnecessarySimpa false
namespace Go.Proofs.YtnpncpoiiikafaaGreatDoor
open Go.RowKit
namespace SpanW
theorem rd_two {w:World} {g:Nat} {p q:R} (h:Blk w g 93 #[.int .i64 p.1,.int .i64 p.2,.int .i64 q.1,.int .i64 q.2]):Rd w (g + 1) 2 (some ⟨g,0,none⟩) 2 (cells [p,q]):=Rd.of_blk (cs:=cells [p,q]) h rfl
def meetsB (p q:R):Bool:=let c:=foldR narrow [p,q];!emptyB c.1 c.2
def withinB (p q:R):Bool:=emptyB p.1 p.2 || decide (q.1≤p.1) && decide (p.2≤q.2)
set_option maxHeartbeats 400000 in
theorem meets_any (p q:R) (w:World) :
    Calls Tryz.prog 46 #[rv p,rv q] w fun e w'=>e = .returned (.bool (meetsB p q))∧Below w.heap.size w w':=by
  go_enter Tryz.func46,Tryz.ntmps46
  go_wp2_with fail
  refine (both_any _ 2 2 [p,q] _ ?_ (Nat.le_refl _) (by omega)).mono ?_
  · exact (rd_two (by simpa using Blk.new (World.alloc (World.alloc w _) _) _ _)).more (by simp)
  rintro e w1 ⟨rfl,hb1⟩
  have HB:Below w.heap.size w w1:=(Below.trans (by first | exact Below.refl _ _ | (repeat (first | exact Below.refl _ _ | assumption | refine Below.drew ?_ | refine Below.drewN_ ?_ _ | refine Below.alloc ?_ (by first | exact Nat.le_refl _ | (simp;done) | (simp;omega) | omega) _ | refine Below.setCell ?_ (by first | exact Nat.le_refl _ | (simp;done) | (simp;omega) | omega) _ | (refine Below.trans ?_ (Below.mono (by assumption) (by first | exact Nat.le_refl _ | (simp;done) | (simp;omega) | omega)))))) (Below.mono hb1 (by first | exact Nat.le_refl _ | (simp only [World.size_alloc,World.size_setCell,World.size_drew];omega) | (simp;done) | (simp;omega) | omega)))
  go_wp2_with fail
  refine (empty_any _ _ _).mono ?_
  rintro e w2 ⟨rfl,hb2⟩
  have HB2:Below w.heap.size w w2:=HB.trans (hb2.mono HB.size)
  go_wp2
  go_ret
  exact ⟨rfl,HB2⟩
theorem within_any (p q:R) (w:World) :
    Calls Tryz.prog 47 #[rv p,rv q] w fun e w'=>e = .returned (.bool (withinB p q))∧Below w.heap.size w w':=by
  unfold withinB
  cases hp:emptyB p.1 p.2
  all_goals
    go_enter Tryz.func47,Tryz.ntmps47
    go_wp2_with fail
    refine (empty_any _ _ _).mono ?_
    rintro e w1 ⟨rfl,hb1⟩
    have HB:Below w.heap.size w w1:=(Below.trans (by first | exact Below.refl _ _ | (repeat (first | exact Below.refl _ _ | assumption | refine Below.drew ?_ | refine Below.drewN_ ?_ _ | refine Below.alloc ?_ (by first | exact Nat.le_refl _ | (simp;done) | (simp;omega) | omega) _ | refine Below.setCell ?_ (by first | exact Nat.le_refl _ | (simp;done) | (simp;omega) | omega) _ | (refine Below.trans ?_ (Below.mono (by assumption) (by first | exact Nat.le_refl _ | (simp;done) | (simp;omega) | omega)))))) (Below.mono hb1 (by first | exact Nat.le_refl _ | (simp only [World.size_alloc,World.size_setCell,World.size_drew];omega) | (simp;done) | (simp;omega) | omega)))
    have g1:Blk w1 w.heap.size 93 #[.int .i64 p.1,.int .i64 p.2]:=Blk.below (blk_eq (by repeat (first | with_reducible assumption | with_reducible exact Blk.new _ _ _ | with_reducible apply Blk.drewN | with_reducible apply Blk.drew | with_reducible apply Blk.alloc | with_reducible apply Blk.set | (with_reducible apply Blk.far;rotate_left;focus (first | (simp;done) | (simp;omega) | omega)))) rfl) hb1 (by first | exact Nat.le_refl _ | (simp only [World.size_alloc,World.size_setCell,World.size_drew];omega) | (simp;done) | (simp;omega) | omega)
    have g2:Blk w1 (w.heap.size + 1) 93 #[.int .i64 q.1,.int .i64 q.2]:=by
      refine Blk.below ?_ hb1 (by first | exact Nat.le_refl _ | (simp only [World.size_alloc,World.size_setCell,World.size_drew];omega) | (simp;done) | (simp;omega) | omega)
      simpa using Blk.new (World.alloc w _) _ _
    obtain ⟨c0,c1,f0,f1,z0⟩:=blk2 g1
    obtain ⟨d0,d1,k0,k1,z1⟩:=blk2 g2
    go_wp2
    all_goals
      go_ret
      exact ⟨ret_bool (by simp [*];try omega),(by first | exact Below.refl _ _ | (repeat (first | exact Below.refl _ _ | assumption | refine Below.drew ?_ | refine Below.drewN_ ?_ _ | refine Below.alloc ?_ (by first | exact Nat.le_refl _ | (simp;done) | (simp;omega) | omega) _ | refine Below.setCell ?_ (by first | exact Nat.le_refl _ | (simp;done) | (simp;omega) | omega) _ | (refine Below.trans ?_ (Below.mono (by assumption) (by first | exact Nat.le_refl _ | (simp;done) | (simp;omega) | omega))))))⟩
end SpanW
end Go.Proofs.YtnpncpoiiikafaaGreatDoor
namespace Go.Proofs.YtnpncpoiiikafaaGreatDoor
open Go.RowKit
namespace SieW
open SpanW (meetsB withinB)
mutual
def mayN (sq tk:SpanW.R):Nd → Bool → Bool
  | .within k lo hi,yes=>if k = 2 then true else if yes then meetsB (if k = 0 then sq else tk) (lo,hi) else !withinB (if k = 0 then sq else tk) (lo,hi)
  | .has _,_=>true
  | .all,yes=>yes
  | .not n,yes=>mayN sq tk n (!yes)
  | .row o l,yes=>mayL sq tk o l yes
def mayL (sq tk:SpanW.R) (o:Bool):List Nd → Bool → Bool
  | [],yes=>!(o == yes)
  | a :: l,yes=>if mayN sq tk a yes = (o == yes) then (o == yes) else mayL sq tk o l yes
end
structure RP where
  word:List UInt8
  lo:Int
  hi:Int
  what:List UInt8
  of_:List Nat
mutual
def Rep (ps:List RP):Nd → Nat → Prop
  | .within kk lo hi,k=>ps[k]? = some ⟨kwS kk,lo,hi,[],[]⟩
  | .has s,k=>ps[k]? = some ⟨sHas,0,0,s,[]⟩
  | .all,k=>ps[k]? = some ⟨sAll,0,0,[],[]⟩
  | .not n,k=>∃ j,ps[k]? = some ⟨sNot,0,0,[],[j]⟩∧j < k∧Rep ps n j
  | .row o l,k=>∃ js,ps[k]? = some ⟨byW o,0,0,[],js⟩∧(∀ j ∈ js,j < k)∧Reps ps l js
def Reps (ps:List RP):List Nd → List Nat → Prop
  | [],js=>js = []
  | a :: l,js=>∃ j r,js = j :: r∧Rep ps a j∧Reps ps l r
end
theorem get_app {α:Type} {ps qs:List α} {k:Nat} {x:α} (h:ps[k]? = some x):(ps ++ qs)[k]? = some x:=by
  rw [List.getElem?_append_left (List.getElem?_eq_some_iff.1 h).1,h]
mutual
theorem Rep.more (ps qs:List RP):∀ (n:Nd) (k:Nat),Rep ps n k → Rep (ps ++ qs) n k
  | .within _ _ _,k,h=>get_app h
  | .has _,k,h=>get_app h
  | .all,k,h=>get_app h
  | .not n,k,h=>by
    obtain ⟨j,h1,h2,h3⟩:=h
    exact ⟨j,get_app h1,h2,Rep.more ps qs n j h3⟩
  | .row o l,k,h=>by
    obtain ⟨js,h1,h2,h3⟩:=h
    exact ⟨js,get_app h1,h2,Reps.more ps qs l js h3⟩
theorem Reps.more (ps qs:List RP):∀ (l:List Nd) (js:List Nat),Reps ps l js → Reps (ps ++ qs) l js
  | [],js,h=>h
  | a :: l,js,h=>by
    obtain ⟨j,r,h1,h2,h3⟩:=h
    exact ⟨j,r,h1,Rep.more ps qs a j h2,Reps.more ps qs l r h3⟩
end
theorem Reps.app {ps:List RP}:∀ {a b:List Nd} {js ks:List Nat},Reps ps a js → Reps ps b ks → Reps ps (a ++ b) (js ++ ks)
  | [],b,js,ks,h,h2=>by have e:js = []:=h;subst e;exact h2
  | x :: a,b,js,ks,h,h2=>by
    obtain ⟨j,r,rfl,h3,h4⟩:=h
    exact ⟨j,r ++ ks,rfl,h3,h4.app h2⟩
theorem Reps.len {ps:List RP}:∀ {a:List Nd} {js:List Nat},Reps ps a js → js.length = a.length
  | [],js,h=>by have e:js = []:=h;subst e;rfl
  | x :: a,js,h=>by
    obtain ⟨j,r,rfl,h3,h4⟩:=h
    simp [h4.len]
theorem Reps.at_ {ps:List RP}:∀ {a:List Nd} {js:List Nat},Reps ps a js → ∀ i (h1:i < a.length) (h2:i < js.length),Rep ps a[i] js[i]
  | [],js,h,i,h1,h2=>by simp at h1
  | x :: a,js,h,i,h1,h2=>by
    obtain ⟨j,r,rfl,h3,h4⟩:=h
    cases i with
    | zero=>exact h3
    | succ i=>exact h4.at_ i (by simp at h1;omega) (by simp at h2;omega)
theorem Rep.lt {ps:List RP} {n:Nd} {k:Nat} (h:Rep ps n k):k < ps.length:=by
  cases n with
  | within _ _ _=>exact (List.getElem?_eq_some_iff.1 h).1
  | has _=>exact (List.getElem?_eq_some_iff.1 h).1
  | all=>exact (List.getElem?_eq_some_iff.1 h).1
  | not n=>obtain ⟨j,h1,_⟩:=h;exact (List.getElem?_eq_some_iff.1 h1).1
  | row o l=>obtain ⟨j,h1,_⟩:=h;exact (List.getElem?_eq_some_iff.1 h1).1
def flatR (ps:List RP) (o:Bool) (k:Nat):List Nat:=if ((ps[k]?.map (·.word)).getD [] = byW o) then (ps[k]?.map (·.of_)).getD [] else [k]
theorem Rep.word {ps:List RP} {n:Nd} {k:Nat} (h:Rep ps n k) (o:Bool):((ps[k]?.map (·.word)).getD [] = byW o) ↔ ∃ l,n = .row o l:=by
  cases n with
  | within kk _ _=>
    rw [show ps[k]? = _ from h]
    simp only [Option.map_some,Option.getD_some]
    constructor
    · intro e
      exfalso
      revert e
      unfold kwS
      split
      · cases o <;> decide
      · split <;> cases o <;> decide
    · rintro ⟨l,e⟩;cases e
  | has _ =>
    rw [show ps[k]? = _ from h]
    simp only [Option.map_some,Option.getD_some]
    constructor
    · intro e;exfalso;revert e;cases o <;> decide
    · rintro ⟨l,e⟩;cases e
  | all =>
    rw [show ps[k]? = _ from h]
    simp only [Option.map_some,Option.getD_some]
    constructor
    · intro e;exfalso;revert e;cases o <;> decide
    · rintro ⟨l,e⟩;cases e
  | not n =>
    obtain ⟨j,h1,_⟩:=h
    rw [h1]
    simp only [Option.map_some,Option.getD_some]
    constructor
    · intro e;exfalso;revert e;cases o <;> decide
    · rintro ⟨l,e⟩;cases e
  | row o2 l =>
    obtain ⟨j,h1,_⟩:=h
    rw [h1]
    simp only [Option.map_some,Option.getD_some]
    constructor
    · intro e
      have:o2 = o:=by revert e;cases o2 <;> cases o <;> first | (intro _;rfl) | (intro e;exact absurd e (by decide))
      subst this;exact ⟨l,rfl⟩
    · rintro ⟨l',e⟩;cases e;rfl
theorem Rep.flat {ps:List RP} {n:Nd} {k:Nat} (h:Rep ps n k) (o:Bool):Reps ps (flat o n) (flatR ps o k)∧∀ j ∈ flatR ps o k,j≤k:=by
  have hw:=h.word o
  unfold flatR
  by_cases c:((ps[k]?.map (·.word)).getD [] = byW o)
  · rw [if_pos c]
    obtain ⟨l,rfl⟩:=hw.1 c
    obtain ⟨js,h1,h2,h3⟩:=h
    rw [h1]
    simp only [SieW.flat,if_true,Option.map_some,Option.getD_some]
    exact ⟨h3,fun j hj=>by have:=h2 j hj;omega⟩
  · rw [if_neg c]
    have hn:notRow o n:=by
      cases n with
      | row o2 l=>intro e;subst e;exact c (hw.2 ⟨l,rfl⟩)
      | _=>trivial
    rw [flat_not o n hn]
    exact ⟨⟨k,[],rfl,h,rfl⟩,fun j hj=>by simp at hj;omega⟩
end SieW
end Go.Proofs.YtnpncpoiiikafaaGreatDoor
namespace Go.Proofs.YtnpncpoiiikafaaGreatDoor
open Go.RowKit
namespace SkpW
structure Qy where
  s1:Int
  s2:Int
  t1:Int
  t2:Int
  find:List UInt8
  limit:Int
  frm:Int
abbrev qc (q:Qy):Array Value:=#[.int .i64 q.s1,.int .i64 q.s2,.int .i64 q.t1,.int .i64 q.t2,str q.find,.int .i64 q.limit,.int .i64 q.frm]
theorem blk7 {w:World} {g:Nat} {t:TypeId} {a0 a1 a2 a3 a4 a5 a6:Value} (h:Blk w g t #[a0,a1,a2,a3,a4,a5,a6]) :
    w.cell? ⟨g,0,none⟩ = some a0∧w.cell? ⟨g,1,none⟩ = some a1∧w.cell? ⟨g,2,none⟩ = some a2∧w.cell? ⟨g,3,none⟩ = some a3∧w.cell? ⟨g,4,none⟩ = some a4∧w.cell? ⟨g,5,none⟩ = some a5∧w.cell? ⟨g,6,none⟩ = some a6 :=
  ⟨h.cell_ 0 rfl,h.cell_ 1 rfl,h.cell_ 2 rfl,h.cell_ 3 rfl,h.cell_ 4 rfl,h.cell_ 5 rfl,h.cell_ 6 rfl⟩
end SkpW
end Go.Proofs.YtnpncpoiiikafaaGreatDoor
namespace Go.Proofs.YtnpncpoiiikafaaGreatDoor
open Go.RowKit
namespace SkpW
open SpanW (R rv hasB)
theorem results_row1 {P:Program} {fn:Func} {p:Tmp} {ty:TypeId} (h:fn.results = #[.cell p ty]) (tmps:Array Value) (w:World) (g:Nat) (t:TypeId) (cs:Array Value) (fr:Nat × Nat) (d:TypeDesc)
    (hp:tmps.getD p undef = .pointer (some ⟨g,0,none⟩)) (hg:w.heap[g]? = some (.cells cs t fr))
    (hu:P.underlying ty = some d) (hd:(match d with | .struct _ | .array _ _=>true | _=>false) = true) (hi:(P.info? ty).map (·.size) = some cs.size) :
    (results fn tmps).run P w = .ok (.agg cs) w:=by
  have hp':tmps[p]?.getD undef = .pointer (some ⟨g,0,none⟩):=by simpa using hp
  simp [results,h,hp',asAddr,run_loadVar_row w g t ty cs fr d hg hu hd hi]
abbrev ac (a:Qy × R):Array Value:=#[.int .i64 a.1.s1,.int .i64 a.1.s2,.int .i64 a.1.t1,.int .i64 a.1.t2,str a.1.find,.int .i64 a.1.limit,.int .i64 a.1.frm,.int .i64 a.2.1,.int .i64 a.2.2]
abbrev av (a:Qy × R):Value:=.agg (ac a)
end SkpW
end Go.Proofs.YtnpncpoiiikafaaGreatDoor
namespace Go.Proofs.YtnpncpoiiikafaaGreatDoor
open Go.RowKit
namespace SkpW
open SpanW (R rv)
structure Me where
  at_:Int
  size:Int
  raw:Int
  count:Int
  first:Int
  early:Int
  late:Int
abbrev mc (m:Me):Array Value:=#[.int .i64 m.at_,.int .i64 m.size,.int .i64 m.raw,.int .i64 m.count,.int .i64 m.first,.int .i64 m.early,.int .i64 m.late]
def sM (c f:Int):R:=if c < 1 then (1,0) else if 9223372036854775807 - (c - 1) < f then (f,9223372036854775807) else (f,f + (c - 1))
def tM (c a b:Int):R:=if c < 1 then (1,0) else (a,b)
theorem new2 (w:World) (o:Obj) (t:TypeId) (a b:Value):Blk ((w.alloc o).alloc (.cells #[a,b] t)) (w.heap.size + 1) t #[a,b]:=by
  have:=Blk.new (w.alloc o) t #[a,b]
  rwa [World.size_alloc] at this
theorem hb2 (w:World) (o p:Obj):Below w.heap.size w ((w.alloc o).alloc p):=((Below.refl _ w).alloc (Nat.le_refl _) _).alloc (by simp) _
set_option maxRecDepth 100000 in
set_option maxHeartbeats 2000000 in
theorem ticks_any (m:Me) (w:World) :
    Calls Tryz.prog 44 #[.agg (mc m)] w fun e w'=>e = .returned (rv (tM m.count m.early m.late))∧Below w.heap.size w w':=by
  obtain ⟨m0,m1,m2,co,fi,ea,la⟩:=m
  have b0:=(Blk.new w 32 (mc ⟨m0,m1,m2,co,fi,ea,la⟩)).alloc (.cells #[.int .i64 0,.int .i64 0] 93)
  by_cases h:co < 1
  · rw [show tM co ea la = (1,0) from by unfold tM;rw [if_pos h]]
    go_enter Tryz.func44,Tryz.ntmps44
    go_wp2_with fail
    refine bodyPost_ret (results_row1 rfl _ _ (w.heap.size + 1) 93 #[.int .i64 1,.int .i64 0] (0,0) _ rfl (new2 _ _ _ _ _) Tryz.underlying93 rfl (by kernel_rfl)) rfl ?_
    exact ⟨rfl,hb2 _ _ _⟩
  · rw [show tM co ea la = (ea,la) from by unfold tM;rw [if_neg h]]
    go_enter Tryz.func44,Tryz.ntmps44
    go_wp2_with fail
    refine bodyPost_ret (results_row1 rfl _ _ (w.heap.size + 1) 93 #[.int .i64 ea,.int .i64 la] (0,0) _ rfl (new2 _ _ _ _ _) Tryz.underlying93 rfl (by kernel_rfl)) rfl ?_
    exact ⟨rfl,hb2 _ _ _⟩
theorem bseqs_cases (c f:Int) (hc:I64 c) (hf:I64 f):(c < 1∧sM c f = (1,0)) ∨ (¬ c < 1∧9223372036854775807 - (c - 1) < f∧sM c f = (f,9223372036854775807)) ∨ (¬ c < 1∧¬ 9223372036854775807 - (c - 1) < f∧sM c f = (f,f + (c - 1))∧wrap64 (f + (c - 1)) = f + (c - 1)):=by
  obtain ⟨_,_⟩:=hc
  obtain ⟨_,_⟩:=hf
  unfold sM
  by_cases h1:c < 1
  · exact .inl ⟨h1,if_pos h1⟩
  · by_cases h2:9223372036854775807 - (c - 1) < f
    · exact .inr (.inl ⟨h1,h2,by rw [if_neg h1,if_pos h2]⟩)
    · exact .inr (.inr ⟨h1,h2,by rw [if_neg h1,if_neg h2],by unfold wrap64;omega⟩)
set_option maxRecDepth 100000 in
set_option maxHeartbeats 2000000 in
theorem bseqs_any (m:Me) (w:World) (hc:I64 m.count) (hf:I64 m.first) :
    Calls Tryz.prog 45 #[.agg (mc m)] w fun e w'=>e = .returned (rv (sM m.count m.first))∧Below w.heap.size w w':=by
  obtain ⟨m0,m1,m2,co,fi,ea,la⟩:=m
  have b0:=(Blk.new w 32 (mc ⟨m0,m1,m2,co,fi,ea,la⟩)).alloc (.cells #[.int .i64 0,.int .i64 0] 93)
  dsimp only at hc hf
  rcases bseqs_cases co fi hc hf with ⟨h,hs⟩ | ⟨h,h2,hs⟩ | ⟨h,h2,hs,hw⟩
  · obtain ⟨_,_⟩:=hc
    rw [hs]
    go_enter Tryz.func45,Tryz.ntmps45
    go_wp2_with fail
    refine bodyPost_ret (results_row1 rfl _ _ (w.heap.size + 1) 93 #[.int .i64 1,.int .i64 0] (0,0) _ rfl (new2 _ _ _ _ _) Tryz.underlying93 rfl (by kernel_rfl)) rfl ?_
    exact ⟨rfl,hb2 _ _ _⟩
  · obtain ⟨hc1,hc2⟩:=hc
    have hw1:wrap64 (co - 1) = co - 1:=by unfold wrap64;omega
    have hw2:wrap64 (9223372036854775807 - (co - 1)) = 9223372036854775807 - (co - 1):=by unfold wrap64;omega
    rw [hs]
    go_enter Tryz.func45,Tryz.ntmps45
    go_wp2_with fail
    refine bodyPost_ret (results_row1 rfl _ _ (w.heap.size + 1) 93 #[.int .i64 fi,.int .i64 9223372036854775807] (0,0) _ rfl (new2 _ _ _ _ _) Tryz.underlying93 rfl (by kernel_rfl)) rfl ?_
    exact ⟨rfl,hb2 _ _ _⟩
  · obtain ⟨hc1,hc2⟩:=hc
    have hw1:wrap64 (co - 1) = co - 1:=by unfold wrap64;omega
    have hw2:wrap64 (9223372036854775807 - (co - 1)) = 9223372036854775807 - (co - 1):=by unfold wrap64;omega
    rw [hs]
    go_enter Tryz.func45,Tryz.ntmps45
    go_wp2_with fail
    refine bodyPost_ret (results_row1 rfl _ _ (w.heap.size + 1) 93 #[.int .i64 fi,.int .i64 (fi + (co - 1))] (0,0) _ rfl (new2 _ _ _ _ _) Tryz.underlying93 rfl (by kernel_rfl)) rfl ?_
    exact ⟨rfl,hb2 _ _ _⟩
end SkpW
end Go.Proofs.YtnpncpoiiikafaaGreatDoor
