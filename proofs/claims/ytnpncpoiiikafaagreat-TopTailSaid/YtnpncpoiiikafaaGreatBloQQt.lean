/- BloQ -/
import Derived.Test.YtnpncpoiiikafaaGreatBloKQt
import Derived.Laws.EntriesVeiled
set_option linter.unusedVariables false
set_option linter.unusedSimpArgs false
set_option linter.unnecessarySimpa false
set_option maxRecDepth 100000
set_option maxHeartbeats 32000000
namespace Go.Proofs.YtnpncpoiiikafaaGreat
open Go.RowKit
namespace BloW
open TakW (tk flt Kept new_any caughtK_no caughtK_ok Fell)
theorem getV_three (b:List UInt8) (p:Nat):(∃ (v:Int) (q:Nat),getV b (p:Nat) = (v,((q:Nat):Int),0)) ∨ (∃ v q er:Int,getV b (p:Nat) = (v,q,er)∧er ≠ 0):=by
 obtain ⟨x,hx⟩:∃ x,getV b (p:Nat) = x:=⟨_,rfl⟩
 obtain ⟨v,q,er⟩:=x
 by_cases h:er = 0
 ·subst h
  have:=getV_ok (s:=b) (a:=(p:Nat)) (by rw [hx])
  rw [hx] at this
  dsimp only at this
  obtain ⟨q',rfl⟩:=Int.eq_ofNat_of_zero_le (show 0≤q by omega)
  exact .inl ⟨v,q',hx⟩
 ·exact .inr ⟨v,q,er,hx,h⟩
theorem peek1_any (b:List UInt8) (bT bH bN g:Nat) (w:World) (I:PkI w w bT bH bN g b 0 (hcs 0 0 0 0 0 0 0 0 [])) (hs:b.length≤1000000) :
 Calls Tryz.prog 104 #[.pointer (some ⟨bT,0,none⟩),.pointer (some ⟨bH,0,none⟩),.pointer (some ⟨bN,0,none⟩)] w fun e w'=>PkEnd b w bT bH bN g e w':=by
 by_cases hb:b = []
 ·exact peek_none b bT bH bN g w I hs hb
 ·rcases getV_three b 1 with ⟨v1,q1,h1⟩ | ⟨v,q,er,hx,her⟩
  ·rcases getV_three b q1 with ⟨v2,q2,h2⟩ | ⟨v,q,er,hx,her⟩
   ·rcases getV_three b q2 with ⟨v3,q3,h3⟩ | ⟨v,q,er,hx,her⟩
    ·rcases getV_three b q3 with ⟨v4,q4,h4⟩ | ⟨v,q,er,hx,her⟩
     ·rcases getV_three b q4 with ⟨v5,q5,h5⟩ | ⟨v,q,er,hx,her⟩
      ·exact peek_good b bT bH bN g w I hs v1 v2 v3 v4 v5 q1 q2 q3 q4 q5 hb h1 h2 h3 h4 h5
      ·exact peek_bad5 b bT bH bN g w I hs v1 v2 v3 v4 q1 q2 q3 q4 hb h1 h2 h3 h4 v q er hx her
     ·exact peek_bad4 b bT bH bN g w I hs v1 v2 v3 q1 q2 q3 hb h1 h2 h3 v q er hx her
    ·exact peek_bad3 b bT bH bN g w I hs v1 v2 q1 q2 hb h1 h2 v q er hx her
   ·exact peek_bad2 b bT bH bN g w I hs v1 q1 hb h1 v q er hx her
  ·exact peek_bad1 b bT bH bN g w I hs hb v q er hx her
theorem blk9h {w:World} {g:Nat} {t:TypeId} {a0 a1 m r c f e l:Int} {b:List UInt8} (h:Blk w g t (hcs a0 a1 m r c f e l b)) :
 w.cell? ⟨g,0,none⟩ = some (.int .i64 a0)∧w.cell? ⟨g,1,none⟩ = some (.int .i64 a1)∧w.cell? ⟨g,2,none⟩ = some (.int .i64 r)∧w.cell? ⟨g,3,none⟩ = some (.int .i64 c)∧w.cell? ⟨g,4,none⟩ = some (.int .i64 f)∧w.cell? ⟨g,5,none⟩ = some (.int .i64 e)∧w.cell? ⟨g,6,none⟩ = some (.int .i64 l)∧w.cell? ⟨g,7,none⟩ = some (.int .i64 m)∧w.cell? ⟨g,8,none⟩ = some (str b) :=
 ⟨h.cell_ 0 rfl,h.cell_ 1 rfl,h.cell_ 2 rfl,h.cell_ 3 rfl,h.cell_ 4 rfl,h.cell_ 5 rfl,h.cell_ 6 rfl,h.cell_ 7 rfl,h.cell_ 8 rfl⟩
theorem mayB_iff (h:Hd):mayB h = true ↔ ((h.mode = 0 ∨ h.mode = 1)∧h.raw≤20000∧1≤h.cnt∧h.cnt≤h.raw∧1≤h.frst∧h.frst≤1000000001 - h.cnt∧h.early≤1000000000∧h.late≤1000000000):=by
 simp only [mayB,Bool.and_eq_true,decide_eq_true_eq]
 constructor
 ·rintro ⟨h1,h2,h3⟩;exact ⟨h1,by omega,by omega,by omega,by omega,by omega,by omega,by omega⟩
 ·rintro ⟨h1,h2,h3,h4,h5,h6,h7,h8⟩;exact ⟨h1,⟨by omega,by omega,by omega⟩,by omega,by omega,by omega,by omega⟩
theorem mayB_no (h:Hd) (hn:¬ ((h.mode = 0 ∨ h.mode = 1)∧h.raw≤20000∧1≤h.cnt∧h.cnt≤h.raw∧1≤h.frst∧h.frst≤1000000001 - h.cnt∧h.early≤1000000000∧h.late≤1000000000)):mayB h = false:=by
 rw [← Bool.not_eq_true,mayB_iff];exact hn
theorem may_any (x y m r c f e l:Int) (b:List UInt8) (w:World) (v:Bool) (hv:mayB ⟨m,r,c,f,e,l,b⟩ = v) :
 Calls Tryz.prog 106 #[.agg (hcs x y m r c f e l b)] w fun e' w'=>e' = .returned (.bool v)∧Below w.heap.size w w':=by
 have B:=Blk.new w 93 (hcs x y m r c f e l b)
 have HB:Below w.heap.size w (w.alloc (.cells (hcs x y m r c f e l b) 93)):=(Below.refl w.heap.size w).alloc (Nat.le_refl _) _
 obtain ⟨c0,c1,c2,c3,c4,c5,c6,c7,c8⟩:=blk9h B
 have HY:Hid (((m = 0 ∨ m = 1)∧r≤20000∧1≤c∧c≤r∧1≤f∧f≤1000000001 - c∧e≤1000000000∧l≤1000000000) → v = true):=Lib.hid (fun h=>hv.symm.trans ((mayB_iff _).2 h))
 have HN:Hid (¬ ((m = 0 ∨ m = 1)∧r≤20000∧1≤c∧c≤r∧1≤f∧f≤1000000001 - c∧e≤1000000000∧l≤1000000000) → v = false):=Lib.hid (fun h=>hv.symm.trans (mayB_no _ h))
 clear hv B c0 c1
 rcases (show (¬ m = 0∧¬ m = 1) ∨ m = 0 ∨ m = 1 by omega) with ⟨m0,m1⟩ | rfl | rfl
 ·have hvv:=HN.out (by omega)
  subst hvv
  go_enter Tryz.func106,Tryz.ntmps106
  go_wp2_with fail
  go_ret
  exact ⟨rfl,HB⟩
 all_goals
  rcases (show 20000 < r ∨ (¬ 20000 < r∧c < 1) ∨ (¬ 20000 < r∧¬ c < 1∧r < c) ∨ (¬ 20000 < r∧¬ c < 1∧¬ r < c∧f < 1) ∨ (¬ 20000 < r∧¬ c < 1∧¬ r < c∧¬ f < 1∧1000000001 - c < f) ∨ (¬ 20000 < r∧¬ c < 1∧¬ r < c∧¬ f < 1∧¬ 1000000001 - c < f∧1000000000 < e) ∨
   (¬ 20000 < r∧¬ c < 1∧¬ r < c∧¬ f < 1∧¬ 1000000001 - c < f∧¬ 1000000000 < e∧1000000000 < l) ∨ (¬ 20000 < r∧¬ c < 1∧¬ r < c∧¬ f < 1∧¬ 1000000001 - c < f∧¬ 1000000000 < e∧¬ 1000000000 < l) by omega) with
   d1 | ⟨d1,d2⟩ | ⟨d1,d2,d3⟩ | ⟨d1,d2,d3,d4⟩ | ⟨d1,d2,d3,d4,d5⟩ | ⟨d1,d2,d3,d4,d5,d6⟩ | ⟨d1,d2,d3,d4,d5,d6,d7⟩ | ⟨d1,d2,d3,d4,d5,d6,d7⟩
  all_goals
   (try have hw:IntKind.i64.wrap (1000000001 - c) = 1000000001 - c:=by rw [IntKind.wrap_i64];omega)
   first
   | (have hvv:=HN.out (by omega))
   | (have hvv:=HY.out (by omega))
   subst hvv
   clear HN HY
   go_enter Tryz.func106,Tryz.ntmps106
   go_wp2_with fail
   go_ret
   first | exact ⟨rfl,HB⟩ | exact ⟨ret_bool (by simp;omega),HB⟩
theorem results_head {P:Program} {fn:Func} {p q:Tmp} {ty:TypeId} (h:fn.results = #[.cell p ty,.tmp q]) (tmps:Array Value) (w:World) (g:Nat) (t:TypeId) (cs:Array Value) (fr:Nat × Nat) (d:TypeDesc)
 (hp:tmps.getD p undef = .pointer (some ⟨g,0,none⟩)) (hg:w.heap[g]? = some (.cells cs t fr))
 (hu:P.underlying ty = some d) (hd:(match d with | .struct _ | .array _ _=>true | _=>false) = true) (hi:(P.info? ty).map (·.size) = some cs.size) :
 (results fn tmps).run P w = .ok (.tuple #[.agg cs,tmps.getD q undef]) w:=by
 have hp':tmps[p]?.getD undef = .pointer (some ⟨g,0,none⟩):=by simpa using hp
 simp [results,h,hp',asAddr,run_loadVar_row w g t ty cs fr d hg hu hd hi]
def hdA (h:Hd):Array Value:=hcs 0 0 h.mode h.raw h.cnt h.frst h.early h.late h.body
def setH (w:World) (g:Nat) (h:Hd):World:=((((((((w.setCell ⟨g,0,none⟩ (.int .i64 0)).setCell ⟨g,1,none⟩ (.int .i64 0)).setCell ⟨g,2,none⟩ (.int .i64 h.raw)).setCell ⟨g,3,none⟩ (.int .i64 h.cnt)).setCell ⟨g,4,none⟩ (.int .i64 h.frst)).setCell ⟨g,5,none⟩ (.int .i64 h.early)).setCell ⟨g,6,none⟩ (.int .i64 h.late)).setCell ⟨g,7,none⟩ (.int .i64 h.mode)).setCell ⟨g,8,none⟩ (str h.body)
theorem setH_blk {w:World} {g:Nat} {t:TypeId} {b:Hd} (h:Hd) (hb:Blk w g t (hdA b)):Blk (setH w g h) g t (hdA h):=by
 have:=((((((((hb.set 0 (.int .i64 0)).set 1 (.int .i64 0)).set 2 (.int .i64 h.raw)).set 3 (.int .i64 h.cnt)).set 4 (.int .i64 h.frst)).set 5 (.int .i64 h.early)).set 6 (.int .i64 h.late)).set 7 (.int .i64 h.mode)).set 8 (str h.body)
 exact blk_eq this (by simp [hdA,hcs])
theorem setH_below {w0 w:World} {g B:Nat} (h:Hd) (hb:Below B w0 w) (hg:B≤g):Below B w0 (setH w g h) :=
 ((((((((hb.setCell (p:=⟨g,0,none⟩) hg _).setCell (p:=⟨g,1,none⟩) hg _).setCell (p:=⟨g,2,none⟩) hg _).setCell (p:=⟨g,3,none⟩) hg _).setCell (p:=⟨g,4,none⟩) hg _).setCell (p:=⟨g,5,none⟩) hg _).setCell (p:=⟨g,6,none⟩) hg _).setCell (p:=⟨g,7,none⟩) hg _).setCell (p:=⟨g,8,none⟩) hg _
def wPk (b:List UInt8) (w:World):World:=((((w.alloc (.cells (hcs 0 0 0 0 0 0 0 0 []) 93)).alloc (.cells (tk b 0) 145)).alloc (.cells #[.pointer (some ⟨w.heap.size + 1,0,none⟩)] 78)).alloc (.cells #[numV (w.heap.size + 1)] 80)).alloc (.cells (hcs 0 0 0 0 0 0 0 0 []) 93)
theorem wPk_size (b:List UInt8) (w:World):(wPk b w).heap.size = w.heap.size + 5:=by simp [wPk]
theorem wPk_below (b:List UInt8) (w:World):Below w.heap.size w (wPk b w) :=
 (((((Below.refl w.heap.size w).alloc (Nat.le_refl _) _).alloc (by simp) _).alloc (by simp;omega) _).alloc (by simp;omega) _).alloc (by simp;omega) _
theorem blk_at {w0:World} {g:Nat} (t:TypeId) (cs:Array Value) (h:w0.heap.size = g):Blk (w0.alloc (.cells cs t)) g t cs:=h ▸ Blk.new w0 t cs
theorem wPk_I (b:List UInt8) (w:World) :
 PkI (((wPk b w).alloc (.cells #[.int .i64 0] 26)).alloc (.cells #[.int .i64 0] 3)) (((wPk b w).alloc (.cells #[.int .i64 0] 26)).alloc (.cells #[.int .i64 0] 3)) (w.heap.size + 2) (w.heap.size + 4) (w.heap.size + 3) (w.heap.size + 1) b 0 (hcs 0 0 0 0 0 0 0 0 []):=by
 refine ⟨Blk.alloc (Blk.alloc (Blk.alloc (Blk.alloc (blk_at _ _ ?_) _) _) _) _,Blk.alloc (Blk.alloc (blk_at _ _ ?_) _) _,Blk.alloc (Blk.alloc (Blk.alloc (blk_at _ _ ?_) _) _) _,Blk.alloc (Blk.alloc (Blk.alloc (Blk.alloc (Blk.alloc (blk_at _ _ ?_) _) _) _) _) _,Kept.refl _ _ _,?_,?_,?_,?_,?_,?_,?_⟩
 all_goals (first | omega | (simp only [World.size_alloc,wPk_size] <;> omega) | (simp;done))
theorem wPk_res (b:List UInt8) (w:World):Blk (wPk b w) w.heap.size 93 (hcs 0 0 0 0 0 0 0 0 []) :=
 Blk.alloc (Blk.alloc (Blk.alloc (Blk.alloc (blk_at _ _ rfl) _) _) _) _
def PkOut (b:List UInt8) (w:World) (hv:Array Value) (w':World):Prop:=Blk w' (w.heap.size + 4) 93 hv∧Blk w' w.heap.size 93 (hcs 0 0 0 0 0 0 0 0 [])∧Below w.heap.size w w'
theorem pk_out (b:List UInt8) (w w1 w':World) (q er at_:Int) (hv:Array Value)
 (I:PkI (((wPk b w).alloc (.cells #[.int .i64 0] 26)).alloc (.cells #[.int .i64 0] 3)) w1 (w.heap.size + 2) (w.heap.size + 4) (w.heap.size + 3) (w.heap.size + 1) b q hv)
 (F:Fell w1 w' (wPk b w).heap.size ((wPk b w).heap.size + 1) er at_):PkOut b w hv w':=by
 have hz:=wPk_size b w
 have B0:Below w.heap.size w (((wPk b w).alloc (.cells #[.int .i64 0] 26)).alloc (.cells #[.int .i64 0] 3)):=((wPk_below b w).alloc (by omega) _).alloc (by simp;omega) _
 have hz2:(((wPk b w).alloc (.cells #[.int .i64 0] 26)).alloc (.cells #[.int .i64 0] 3)).heap.size = w.heap.size + 7:=by simp [hz]
 have K:=I.kept
 have B1:Below w.heap.size w w1:=B0.trans (K.below (by omega) (by omega) (by omega))
 have hz1:=B1.size
 refine ⟨F.blk I.fH (by omega) (by omega),F.blk (K.blk (((wPk_res b w).alloc _).alloc _) (by omega) (by omega)) (by omega) (by omega),F.below B1 (by omega) (by omega) (by omega)⟩
theorem pk_hR (b:List UInt8) (w w1:World) (q:Int) (hv:Array Value)
 (I:PkI (((wPk b w).alloc (.cells #[.int .i64 0] 26)).alloc (.cells #[.int .i64 0] 3)) w1 (w.heap.size + 2) (w.heap.size + 4) (w.heap.size + 3) (w.heap.size + 1) b q hv) :
 Blk w1 (wPk b w).heap.size 26 #[.int .i64 0]∧Blk w1 ((wPk b w).heap.size + 1) 3 #[.int .i64 0]:=by
 have hz:=wPk_size b w
 have hs:=I.kept.size
 exact ⟨I.kept.blk ((Blk.new (wPk b w) _ _).alloc _) (by omega) (by omega),I.kept.blk (blk_at _ _ (by simp)) (by omega) (by omega)⟩
theorem hcf_peek:∀ args w,(callFunc 104 args).run Tryz.prog w = .ok (.enter 104 args) w:=fun args w=>run_enter Tryz.func104 (by kernel_rfl) rfl args w
theorem pk_yes (b:List UInt8) (w:World) (hs:b.length≤1000000) (h0:(takeV b).2 = 0) :
 Calls Tryz.prog 37 #[.func (.func 104) #[] #[.pointer (some ⟨w.heap.size + 2,0,none⟩),.pointer (some ⟨w.heap.size + 4,0,none⟩),.pointer (some ⟨w.heap.size + 3,0,none⟩)]] (wPk b w) fun e w'=>e = .returned (.tuple #[.int .i64 0,.int .i64 0])∧PkOut b w (hdA (takeV b).1) w':=by
 have C:=peek1_any b (w.heap.size + 2) (w.heap.size + 4) (w.heap.size + 3) (w.heap.size + 1) _ (wPk_I b w) hs
 have C2:=caughtK_ok 104 hcf_peek _ (wPk b w) (fun w1=>∃ q,PkI _ w1 _ _ _ _ b q (hdA (takeV b).1)) (fun w1 ⟨q,h⟩=>pk_hR b w w1 q _ h) (C.mono fun e w1 h=>by
  rcases h with ⟨_,h2,h3⟩ | ⟨h1,_⟩
  ·exact ⟨h2,h3⟩
  ·exact absurd h0 h1)
 exact C2.mono fun e w' ⟨h1,w1,⟨q,I⟩,F⟩=>⟨h1,pk_out b w w1 w' q 0 0 _ I F⟩
theorem pk_no (b:List UInt8) (w:World) (hs:b.length≤1000000) (h0:(takeV b).2 ≠ 0) :
 Calls Tryz.prog 37 #[.func (.func 104) #[] #[.pointer (some ⟨w.heap.size + 2,0,none⟩),.pointer (some ⟨w.heap.size + 4,0,none⟩),.pointer (some ⟨w.heap.size + 3,0,none⟩)]] (wPk b w) fun e w'=>∃ at_ hv,e = .returned (.tuple #[.int .i64 (takeV b).2,.int .i64 at_])∧PkOut b w hv w':=by
 have C:=peek1_any b (w.heap.size + 2) (w.heap.size + 4) (w.heap.size + 3) (w.heap.size + 1) _ (wPk_I b w) hs
 have C2:=caughtK_no 104 hcf_peek _ (takeV b).2 (wPk b w) (fun w1=>∃ q hv,PkI _ w1 _ _ _ _ b q hv) (fun w1 ⟨q,hv,h⟩=>pk_hR b w w1 q hv h) (C.mono fun e w1 h=>by
  rcases h with ⟨h1,_⟩ | ⟨_,a,h2,h3⟩
  ·exact absurd h1 h0
  ·exact ⟨a,h2,h3⟩)
 exact C2.mono fun e w' ⟨a,h1,w1,⟨q,hv,I⟩,F⟩=>⟨a,hv,h1,pk_out b w w1 w' q _ a hv I F⟩
theorem peek_any (b:List UInt8) (w:World) (hs:b.length≤1000000) (x:Hd × Int) (hx:peekV b = x) :
 Calls Tryz.prog 44 #[str b] w fun e w'=>e = .returned (.tuple #[.agg (hdA x.1),.int .i64 x.2])∧Below w.heap.size w w':=by
 have hmf:∀ (fn:Fn) (first cap:Array Value) (w:World),(Instr.makeFunc fn first cap).run Tryz.prog w = .ok (.func fn first cap) w:=fun _ _ _ _=>rfl
 have HX:=Lib.hid hx
 clear hx
 go_enter Tryz.func44,Tryz.ntmps44
 go_wp2_with fail
 refine (new_any b _).mono ?_
 rintro e w1 ⟨rfl,rfl⟩
 go_wp2_with fail
 by_cases h0:(takeV b).2 = 0
 ·refine (pk_yes b w hs h0).mono ?_
  rintro e w2 ⟨rfl,bH,bR,HB⟩
  have hpk:=peek_take b
  rw [if_pos h0,HX.out] at hpk
  have HP:=Lib.hid hpk
  clear h0 hpk
  obtain ⟨h,hh⟩:∃ h,(takeV b).1 = h:=⟨_,rfl⟩
  rw [hh] at HP bH
  clear hh
  obtain ⟨c0,c1,c2,c3,c4,c5,c6,c7,c8⟩:=blk9h bH
  obtain ⟨d0,d1,d2,d3,d4,d5,d6,d7,d8⟩:=blk9h bR
  have fz:=fun i=>bR.frozen i
  have lR:=bR.lt
  have C:=may_any 0 0 h.mode h.raw h.cnt h.frst h.early h.late h.body w2 _ rfl
  go_wp2_with fail
  refine C.mono ?_
  clear C c0 c1 c2 c3 c4 c5 c6 c7 c8 d0 d1 d2 d3 d4 d5 d6 d7 d8 fz lR
  rintro e w3 ⟨rfl,hb3⟩
  replace bH:=bH.below hb3 bH.lt
  replace bR:=bR.below hb3 bR.lt
  replace HB:=HB.trans (hb3.mono HB.size)
  clear hb3
  obtain ⟨c0,c1,c2,c3,c4,c5,c6,c7,c8⟩:=blk9h bH
  obtain ⟨d0,d1,d2,d3,d4,d5,d6,d7,d8⟩:=blk9h bR
  have fz:=fun i=>bR.frozen i
  have lR:=bR.lt
  by_cases hm:mayB h = true
  ·have HM:=Lib.hid hm
   have hx2:x = (h,0):=by rw [HP.out,if_pos hm]
   subst hx2
   have hm':mayB ⟨h.mode,h.raw,h.cnt,h.frst,h.early,h.late,h.body⟩ = true:=hm
   rw [hm']
   clear hm hm'
   go_wp2_with fail
   refine bodyPost_ret (results_head rfl _ _ w.heap.size 93 (hdA h) (0,0) _ rfl (setH_blk (b:=hdZ) h bR) Tryz.underlying93 rfl (by kernel_rfl)) rfl ?_
   exact ⟨rfl,setH_below h HB (Nat.le_refl _)⟩
  ·have hm2:mayB h = false:=by simpa using hm
   have hx2:x = (hdZ,170):=by rw [HP.out,if_neg hm]
   subst hx2
   have hm':mayB ⟨h.mode,h.raw,h.cnt,h.frst,h.early,h.late,h.body⟩ = false:=hm2
   rw [hm']
   clear hm hm' hm2
   go_wp2_with fail
   refine bodyPost_ret (results_head rfl _ _ w.heap.size 93 (hdA hdZ) (0,0) _ rfl (setH_blk (b:=hdZ) hdZ bR) Tryz.underlying93 rfl (by kernel_rfl)) rfl ?_
   exact ⟨rfl,setH_below hdZ HB (Nat.le_refl _)⟩
 ·refine (pk_no b w hs h0).mono ?_
  rintro e w2 ⟨a,hv,rfl,bH,bR,HB⟩
  have hpk:=peek_take b
  rw [if_neg h0,HX.out] at hpk
  obtain ⟨er,her⟩:∃ er,(takeV b).2 = er:=⟨_,rfl⟩
  rw [her] at hpk h0
  rw [her]
  subst hpk
  clear her bH
  obtain ⟨d0,d1,d2,d3,d4,d5,d6,d7,d8⟩:=blk9h bR
  have fz:=fun i=>bR.frozen i
  have lR:=bR.lt
  go_wp2_with fail
  refine bodyPost_ret (results_head rfl _ _ w.heap.size 93 (hdA hdZ) (0,0) _ rfl (setH_blk (b:=hdZ) hdZ bR) Tryz.underlying93 rfl (by kernel_rfl)) rfl ?_
  exact ⟨rfl,setH_below hdZ HB (Nat.le_refl _)⟩
def mcs (h:Hd):Array Value:=#[.int .i64 0,.int .i64 0,.int .i64 h.raw,.int .i64 h.cnt,.int .i64 h.frst,.int .i64 h.early,.int .i64 h.late]
def setM (w:World) (g:Nat) (h:Hd):World:=((((((w.setCell ⟨g,0,none⟩ (.int .i64 0)).setCell ⟨g,1,none⟩ (.int .i64 0)).setCell ⟨g,2,none⟩ (.int .i64 h.raw)).setCell ⟨g,3,none⟩ (.int .i64 h.cnt)).setCell ⟨g,4,none⟩ (.int .i64 h.frst)).setCell ⟨g,5,none⟩ (.int .i64 h.early)).setCell ⟨g,6,none⟩ (.int .i64 h.late)
theorem setM_blk {w:World} {g:Nat} {t:TypeId} {b:Hd} (h:Hd) (hb:Blk w g t (mcs b)):Blk (setM w g h) g t (mcs h):=by
 have:=((((((hb.set 0 (.int .i64 0)).set 1 (.int .i64 0)).set 2 (.int .i64 h.raw)).set 3 (.int .i64 h.cnt)).set 4 (.int .i64 h.frst)).set 5 (.int .i64 h.early)).set 6 (.int .i64 h.late)
 exact blk_eq this (by simp [mcs])
theorem setM_below {w0 w:World} {g B:Nat} (h:Hd) (hb:Below B w0 w) (hg:B≤g):Below B w0 (setM w g h) :=
 ((((((hb.setCell (p:=⟨g,0,none⟩) hg _).setCell (p:=⟨g,1,none⟩) hg _).setCell (p:=⟨g,2,none⟩) hg _).setCell (p:=⟨g,3,none⟩) hg _).setCell (p:=⟨g,4,none⟩) hg _).setCell (p:=⟨g,5,none⟩) hg _).setCell (p:=⟨g,6,none⟩) hg _
theorem Peek_any (b:List UInt8) (w:World) (hs:b.length≤1000000) (x:Hd × Int) (hx:peekV b = x) :
 Calls Tryz.prog 24 #[str b] w fun e w'=>e = .returned (.tuple #[.agg (mcs x.1),.int .i64 x.2])∧Below w.heap.size w w':=by
 obtain ⟨w0,hw0⟩:∃ w0,w.alloc (.cells (mcs hdZ) 33) = w0:=⟨_,rfl⟩
 have bR:Blk w0 w.heap.size 33 (mcs hdZ):=by rw [← hw0];exact Blk.new _ _ _
 have HB:Below w.heap.size w w0:=by rw [← hw0];exact (Below.refl w.heap.size w).alloc (Nat.le_refl _) _
 have C:=peek_any b w0 hs x hx
 clear hx
 obtain ⟨h,er⟩:=x
 dsimp only at C
 go_enter Tryz.func24,Tryz.ntmps24
 go_wp2_with fail
 have hw0':w.alloc (.cells #[.int .i64 0,.int .i64 0,.int .i64 0,.int .i64 0,.int .i64 0,.int .i64 0,.int .i64 0] 33) = w0:=hw0
 rw [hw0']
 refine C.mono ?_
 clear C hw0 hw0'
 rintro e w1 ⟨rfl,hb1⟩
 replace bR:=bR.below hb1 bR.lt
 replace HB:=HB.trans (hb1.mono HB.size)
 clear hb1
 obtain ⟨w2,hw2⟩:∃ w2,w1.alloc (.cells (hdA h) 93) = w2:=⟨_,rfl⟩
 have bH:Blk w2 w1.heap.size 93 (hdA h):=by rw [← hw2];exact Blk.new _ _ _
 have bR2:Blk w2 w.heap.size 33 (mcs hdZ):=by rw [← hw2];exact bR.alloc _
 have HB2:Below w.heap.size w w2:=by rw [← hw2];exact HB.alloc HB.size _
 have hw2':w1.alloc (.cells #[.int .i64 0,.int .i64 0,.int .i64 h.raw,.int .i64 h.cnt,.int .i64 h.frst,.int .i64 h.early,.int .i64 h.late,.int .i64 h.mode,str h.body] 93) = w2:=hw2
 obtain ⟨c0,c1,c2,c3,c4,c5,c6,c7,c8⟩:=blk9h bH
 have d0:=bR2.cell_ 0 rfl
 have d1:=bR2.cell_ 1 rfl
 have d2:=bR2.cell_ 2 rfl
 have d3:=bR2.cell_ 3 rfl
 have d4:=bR2.cell_ 4 rfl
 have d5:=bR2.cell_ 5 rfl
 have d6:=bR2.cell_ 6 rfl
 have fz:=fun i=>bR2.frozen i
 have lR:=bR2.lt
 clear hw2 bR HB
 have hag:hdA h = #[.int .i64 0,.int .i64 0,.int .i64 h.raw,.int .i64 h.cnt,.int .i64 h.frst,.int .i64 h.early,.int .i64 h.late,.int .i64 h.mode,str h.body]:=rfl
 rw [hag]
 clear hag
 go_wp2_with fail
 refine bodyPost_ret (results_head rfl _ _ w.heap.size 33 (mcs h) (0,0) _ rfl (setM_blk (b:=hdZ) h bR2) Tryz.underlying33 rfl (by kernel_rfl)) rfl ?_
 exact ⟨rfl,setM_below h HB2 (Nat.le_refl _)⟩
end BloW
end Go.Proofs.YtnpncpoiiikafaaGreat
