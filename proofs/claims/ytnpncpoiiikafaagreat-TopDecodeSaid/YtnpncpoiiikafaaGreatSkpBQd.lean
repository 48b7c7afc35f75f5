/- SkpB -/
import Derived.Test.YtnpncpoiiikafaaGreatRecQQd
import Derived.Test.YtnpncpoiiikafaaGreatZruPQd
import Derived.Test.YtnpncpoiiikafaaGreatReg2Qd
import Derived.Laws.EntriesVeiled
import Derived.Test.YtnpncpoiiikafaaGreatRecKQd
import Derived.Test.YtnpncpoiiikafaaGreatMemQd
import Derived.ProofKit
import Derived.OpenShut
import Derived.Deep.Slices
import Derived.Lib.SmallJoins
import Derived.Deep.Strs
import Derived.Deep.CutRange
import Derived.Test.YtnpncpoiiikafaaGreatNumPQd
import Derived.Test.YtnpncpoiiikafaaGreatBldQd
import Derived.Test.YtnpncpoiiikafaaGreatAppQd
import Derived.Test.YtnpncpoiiikafaaGreatSuWQd
set_option linter.unusedVariables false
set_option linter.unusedSimpArgs false
set_option linter.unnecessarySimpa false
set_option maxRecDepth 100000
set_option maxHeartbeats 32000000
namespace Go.Proofs.YtnpncpoiiikafaaGreat
open Go.RowKit
namespace SkpW
open SpanW (R rv)
structure Me where
 at_:Int
 size:Int
 raw:Int
 count:Int
 first:Int
 early:Int
 late:Int
abbrev mc (m:Me):Array Value:=#[.int .i64 m.at_,.int .i64 m.size,.int .i64 m.raw,.int .i64 m.count,.int .i64 m.first,.int .i64 m.early,.int .i64 m.late]
def sM (c f:Int):R:=if c < 1 then (1,0) else if 9223372036854775807 - (c - 1) < f then (f,9223372036854775807) else (f,f + (c - 1))
theorem new2 (w:World) (o:Obj) (t:TypeId) (a b:Value):Blk ((w.alloc o).alloc (.cells #[a,b] t)) (w.heap.size + 1) t #[a,b]:=by
 have:=Blk.new (w.alloc o) t #[a,b]
 rwa [World.size_alloc] at this
theorem hb2 (w:World) (o p:Obj):Below w.heap.size w ((w.alloc o).alloc p):=((Below.refl _ w).alloc (Nat.le_refl _) _).alloc (by simp) _
theorem bseqs_cases (c f:Int) (hc:I64 c) (hf:I64 f):(c < 1∧sM c f = (1,0)) ∨ (¬ c < 1∧9223372036854775807 - (c - 1) < f∧sM c f = (f,9223372036854775807)) ∨ (¬ c < 1∧¬ 9223372036854775807 - (c - 1) < f∧sM c f = (f,f + (c - 1))∧wrap64 (f + (c - 1)) = f + (c - 1)):=by
 obtain ⟨_,_⟩:=hc
 obtain ⟨_,_⟩:=hf
 unfold sM
 by_cases h1:c < 1
 ·exact .inl ⟨h1,if_pos h1⟩
 ·by_cases h2:9223372036854775807 - (c - 1) < f
  ·exact .inr (.inl ⟨h1,h2,by rw [if_neg h1,if_pos h2]⟩)
  ·exact .inr (.inr ⟨h1,h2,by rw [if_neg h1,if_neg h2],by unfold wrap64;omega⟩)
theorem bseqs_any (m:Me) (w:World) (hc:I64 m.count) (hf:I64 m.first) :
 Calls Tryz.prog 73 #[.agg (mc m)] w fun e w'=>e = .returned (rv (sM m.count m.first))∧Below w.heap.size w w':=by
 obtain ⟨m0,m1,m2,co,fi,ea,la⟩:=m
 have b0:=(Blk.new w 33 (mc ⟨m0,m1,m2,co,fi,ea,la⟩)).alloc (.cells #[.int .i64 0,.int .i64 0] 56)
 dsimp only at hc hf
 rcases bseqs_cases co fi hc hf with ⟨h,hs⟩ | ⟨h,h2,hs⟩ | ⟨h,h2,hs,hw⟩
 ·obtain ⟨_,_⟩:=hc
  rw [hs]
  go_enter Tryz.func73,Tryz.ntmps73
  go_wp2_with fail
  refine bodyPost_ret (results_row1 rfl _ _ (w.heap.size + 1) 56 #[.int .i64 1,.int .i64 0] (0,0) _ rfl (new2 _ _ _ _ _) Tryz.underlying56 rfl (by kernel_rfl)) rfl ?_
  exact ⟨rfl,hb2 _ _ _⟩
 ·obtain ⟨hc1,hc2⟩:=hc
  have hw1:wrap64 (co - 1) = co - 1:=by unfold wrap64;omega
  have hw2:wrap64 (9223372036854775807 - (co - 1)) = 9223372036854775807 - (co - 1):=by unfold wrap64;omega
  rw [hs]
  go_enter Tryz.func73,Tryz.ntmps73
  go_wp2_with fail
  refine bodyPost_ret (results_row1 rfl _ _ (w.heap.size + 1) 56 #[.int .i64 fi,.int .i64 9223372036854775807] (0,0) _ rfl (new2 _ _ _ _ _) Tryz.underlying56 rfl (by kernel_rfl)) rfl ?_
  exact ⟨rfl,hb2 _ _ _⟩
 ·obtain ⟨hc1,hc2⟩:=hc
  have hw1:wrap64 (co - 1) = co - 1:=by unfold wrap64;omega
  have hw2:wrap64 (9223372036854775807 - (co - 1)) = 9223372036854775807 - (co - 1):=by unfold wrap64;omega
  rw [hs]
  go_enter Tryz.func73,Tryz.ntmps73
  go_wp2_with fail
  refine bodyPost_ret (results_row1 rfl _ _ (w.heap.size + 1) 56 #[.int .i64 fi,.int .i64 (fi + (co - 1))] (0,0) _ rfl (new2 _ _ _ _ _) Tryz.underlying56 rfl (by kernel_rfl)) rfl ?_
  exact ⟨rfl,hb2 _ _ _⟩
end SkpW
end Go.Proofs.YtnpncpoiiikafaaGreat
namespace Go.Proofs.YtnpncpoiiikafaaGreat
open Go.RowKit
namespace SkpW
open SpanW (R rv)
structure En where
 id:Int
 gen:Int
 frst:Int
 shut:Bool
 count:Int
 blocks:Int
 early:Int
 late:Int
 bytes:Int
abbrev hc (e:En):Array Value:=#[.int .i64 e.id,.int .i64 e.gen,.int .i64 e.frst]
abbrev ec (e:En):Array Value:=#[.int .i64 e.id,.int .i64 e.gen,.int .i64 e.frst,.bool e.shut,.int .i64 e.count,.int .i64 e.blocks,.int .i64 e.early,.int .i64 e.late,.int .i64 e.bytes]
def headB (e:En):Bool:=decide (1≤e.id∧e.id≤999999) && (decide (1≤e.gen∧e.gen≤999999) && decide (1≤e.frst∧e.frst≤1000000000))
def chkH (e:En):Int:=if headB e then 0 else 210
def sealB (e:En):Bool:=decide (1≤e.blocks∧e.blocks≤1000∧e.blocks≤e.count∧e.count≤1000000000∧e.frst≤1000000001 - e.count) && decide (0≤e.early∧e.early≤e.late∧e.late≤1000000000∧1≤e.bytes∧e.bytes≤1000000)
def zeroB (e:En):Bool:=decide (e.count = 0∧e.blocks = 0∧e.early = 0∧e.late = 0∧e.bytes = 0)
def chkE (e:En):Int:=if headB e && (if e.shut then sealB e else zeroB e) then 0 else 240
theorem within_any (n a b:Int) (v:Bool) (hv:decide (a≤n∧n≤b) = v) (w:World) :
 Calls Tryz.prog 111 #[.int .i64 n,.int .i64 a,.int .i64 b] w fun e w'=>e = .returned (.bool v)∧w' = w:=by
 subst hv
 by_cases h1:a≤n
 ·by_cases h2:n≤b
  ·rw [decide_eq_true (And.intro h1 h2)]
   go_enter Tryz.func111,Tryz.ntmps111
   go_wp2_with fail
   go_ret
   exact ⟨rfl,rfl⟩
  ·rw [decide_eq_false (fun h=>h2 h.2)]
   go_enter Tryz.func111,Tryz.ntmps111
   go_wp2_with fail
   go_ret
   exact ⟨rfl,rfl⟩
 ·rw [decide_eq_false (fun h=>h1 h.1)]
  go_enter Tryz.func111,Tryz.ntmps111
  go_wp2_with fail
  go_ret
  exact ⟨rfl,rfl⟩
theorem hcheck_any (e0:En) (v:Int) (hv:chkH e0 = v) (w:World) :
 Calls Tryz.prog 50 #[.agg (hc e0)] w fun e w'=>e = .returned (.int .i64 v)∧Below w.heap.size w w':=by
 obtain ⟨i,g,f,s,m1,m2,m3,m4,m5⟩:=e0
 subst hv
 unfold chkH headB
 dsimp only
 have C1:=fun w=>within_any i 1 999999 _ rfl w
 have C2:=fun w=>within_any g 1 999999 _ rfl w
 have C3:=fun w=>within_any f 1 1000000000 _ rfl w
 generalize decide (1≤i∧i≤999999) = x at *
 generalize decide (1≤g∧g≤999999) = y at *
 generalize decide (1≤f∧f≤1000000000) = z at *
 have b0:=Blk.new w 23 #[.int .i64 i,.int .i64 g,.int .i64 f]
 obtain ⟨k0,k1,k2,_,_,_,_⟩:=blk3 b0
 have HB:Below w.heap.size w (w.alloc (.cells #[.int .i64 i,.int .i64 g,.int .i64 f] 23)):=(Below.refl _ w).alloc (Nat.le_refl _) _
 clear b0
 go_enter Tryz.func50,Tryz.ntmps50
 go_wp2_with fail
 refine (C1 _).mono ?_
 rintro e w1 ⟨rfl,rfl⟩
 cases x with
 | false =>
  go_wp2_with fail
  go_ret
  exact ⟨rfl,HB⟩
 | true =>
  go_wp2_with fail
  refine (C2 _).mono ?_
  rintro e w1 ⟨rfl,rfl⟩
  cases y with
  | false =>
   go_wp2_with fail
   go_ret
   exact ⟨rfl,HB⟩
  | true =>
   go_wp2_with fail
   refine (C3 _).mono ?_
   rintro e w1 ⟨rfl,rfl⟩
   cases z with
   | false =>
    go_wp2_with fail
    go_ret
    exact ⟨rfl,HB⟩
   | true =>
    go_wp2_with fail
    go_ret
    exact ⟨rfl,HB⟩
theorem seal_cases (e:En):(sealB e = false∧(e.blocks < 1 ∨ (¬ e.blocks < 1∧1000 < e.blocks) ∨ (¬ e.blocks < 1∧¬ 1000 < e.blocks∧e.count < e.blocks) ∨ (¬ e.blocks < 1∧¬ 1000 < e.blocks∧¬ e.count < e.blocks∧1000000000 < e.count) ∨
 ((¬ e.blocks < 1∧¬ 1000 < e.blocks∧¬ e.count < e.blocks∧¬ 1000000000 < e.count)∧1000000001 - e.count < e.frst) ∨
 ((¬ e.blocks < 1∧¬ 1000 < e.blocks∧¬ e.count < e.blocks∧¬ 1000000000 < e.count∧¬ 1000000001 - e.count < e.frst)∧(¬ 0≤e.early ∨ (0≤e.early∧¬ e.early≤e.late) ∨ (0≤e.early∧e.early≤e.late∧¬ e.late≤1000000000) ∨
  (0≤e.early∧e.early≤e.late∧e.late≤1000000000∧¬ 1≤e.bytes) ∨ (0≤e.early∧e.early≤e.late∧e.late≤1000000000∧1≤e.bytes∧¬ e.bytes≤1000000))))) ∨
 (sealB e = true∧(¬ e.blocks < 1∧¬ 1000 < e.blocks∧¬ e.count < e.blocks∧¬ 1000000000 < e.count∧¬ 1000000001 - e.count < e.frst)∧0≤e.early∧e.early≤e.late∧e.late≤1000000000∧1≤e.bytes∧e.bytes≤1000000):=by
 by_cases h:sealB e = true
 ·refine .inr ⟨h,?_⟩
  unfold sealB at h
  simp only [Bool.and_eq_true,decide_eq_true_eq] at h
  omega
 ·refine .inl ⟨by simpa using h,?_⟩
  unfold sealB at h
  simp only [Bool.and_eq_true,decide_eq_true_eq] at h
  omega
theorem sealed_any (e0:En) (v:Bool) (hv:sealB e0 = v) (w:World) :
 Calls Tryz.prog 163 #[.agg (ec e0)] w fun e w'=>e = .returned (.bool v)∧Below w.heap.size w w':=by
 have HC:=seal_cases e0
 rw [hv] at HC
 clear hv
 have b0:=Blk.new w 238 (ec e0)
 obtain ⟨i,g,f,s,co,bl,ea,la,bs⟩:=e0
 dsimp only at HC
 obtain ⟨⟨c0,c1,c2,c3,c4,c5,c6,c7,c8⟩,_⟩:=blk9 b0
 have HB:Below w.heap.size w (w.alloc (.cells (ec ⟨i,g,f,s,co,bl,ea,la,bs⟩) 238)):=(Below.refl _ w).alloc (Nat.le_refl _) _
 clear b0
 rcases HC with ⟨rfl,h | ⟨h1,h⟩ | ⟨h1,h2,h⟩ | ⟨h1,h2,h3,h⟩ | ⟨⟨h1,h2,h3,h4⟩,h5⟩ | ⟨⟨h1,h2,h3,h4,h5⟩,h | ⟨g1,h⟩ | ⟨g1,g2,h⟩ | ⟨g1,g2,g3,h⟩ | ⟨g1,g2,g3,g4,h⟩⟩⟩ | ⟨rfl,⟨h1,h2,h3,h4,h5⟩,g1,g2,g3,g4,h⟩
 iterate 4
  ·go_enter Tryz.func163,Tryz.ntmps163
   go_wp2_with fail
   go_ret
   exact ⟨rfl,HB⟩
 all_goals
  have hw1:wrap64 (1000000001 - co) = 1000000001 - co:=by unfold wrap64;omega
  go_enter Tryz.func163,Tryz.ntmps163
  go_wp2_with fail
  go_ret
  exact ⟨rfl,HB⟩
end SkpW
end Go.Proofs.YtnpncpoiiikafaaGreat
namespace Go.Proofs.YtnpncpoiiikafaaGreat
open Go.RowKit
namespace SkpW
open SpanW (R rv)
theorem echeck_any (e0:En) (v:Int) (hv:chkE e0 = v) (w:World) :
 Calls Tryz.prog 117 #[.agg (ec e0)] w fun e w'=>e = .returned (.int .i64 v)∧Below w.heap.size w w':=by
 unfold chkE at hv
 have C0:=fun w=>hcheck_any e0 _ rfl w
 have C1:=fun w=>sealed_any e0 _ rfl w
 have HZ:zeroB e0 = decide (e0.count = 0∧e0.blocks = 0∧e0.early = 0∧e0.late = 0∧e0.bytes = 0):=rfl
 unfold chkH at C0
 generalize headB e0 = hd at *
 generalize sealB e0 = sl at *
 generalize zeroB e0 = zr at *
 obtain ⟨i,g,f,s,co,bl,ea,la,bs⟩:=e0
 dsimp only at hv HZ
 have b0:=(Blk.new w 107 (ec ⟨i,g,f,s,co,bl,ea,la,bs⟩)).alloc (.cells (ec ⟨i,g,f,s,co,bl,ea,la,bs⟩) 238)
 have b1:=Blk.new (w.alloc (.cells (ec ⟨i,g,f,s,co,bl,ea,la,bs⟩) 107)) 238 (ec ⟨i,g,f,s,co,bl,ea,la,bs⟩)
 rw [World.size_alloc] at b1
 have HB:Below w.heap.size w ((w.alloc (.cells (ec ⟨i,g,f,s,co,bl,ea,la,bs⟩) 107)).alloc (.cells (ec ⟨i,g,f,s,co,bl,ea,la,bs⟩) 238)):=hb2 w _ _
 have b1':=b1
 obtain ⟨⟨c0,c1,c2,c3,c4,c5,c6,c7,c8⟩,_⟩:=blk9 b1'
 clear b1' b0
 go_enter Tryz.func117,Tryz.ntmps117
 go_wp2_with fail
 refine (C0 _).mono ?_
 clear C0
 rintro e w1 ⟨rfl,hb1⟩
 replace b1:=b1.below hb1 b1.lt
 replace HB:=HB.trans (hb1.mono HB.size)
 clear hb1 c0 c1 c2 c3 c4 c5 c6 c7 c8
 have b1':=b1
 obtain ⟨⟨c0,c1,c2,c3,c4,c5,c6,c7,c8⟩,_⟩:=blk9 b1'
 clear b1'
 cases hd with
 | false =>
  subst hv
  go_wp2_with fail
  go_ret
  exact ⟨rfl,HB⟩
 | true =>
  cases s with
  | true =>
   go_wp2_with fail
   refine (C1 _).mono ?_
   clear C1
   rintro e w2 ⟨rfl,hb2⟩
   replace HB:=HB.trans (hb2.mono HB.size)
   replace b1:=b1.below hb2 b1.lt
   clear hb2 c0 c1 c2 c3 c4 c5 c6 c7 c8
   have b1':=b1
   obtain ⟨⟨c0,c1,c2,c3,c4,c5,c6,c7,c8⟩,_⟩:=blk9 b1'
   clear b1'
   cases sl with
   | false =>
    subst hv
    go_wp2_with fail
    go_ret
    exact ⟨rfl,HB⟩
   | true =>
    subst hv
    go_wp2_with fail
    go_ret
    exact ⟨rfl,HB⟩
  | false =>
   cases zr with
   | true =>
    subst hv
    obtain ⟨rfl,rfl,rfl,rfl,rfl⟩:=of_decide_eq_true HZ.symm
    clear HZ
    go_wp2_with fail
    go_ret
    exact ⟨rfl,HB⟩
   | false =>
    subst hv
    have HN:=of_decide_eq_false HZ.symm
    clear HZ
    go_wp2_with fail
    all_goals
     first
      | (go_ret;exact ⟨rfl,HB⟩)
      | (exfalso;apply HN;simp [*];done)
end SkpW
end Go.Proofs.YtnpncpoiiikafaaGreat
namespace Go.Proofs.YtnpncpoiiikafaaGreat
open Go.RowKit
namespace SkpW
open SpanW (R rv)
theorem chkE_le (e:En) (hs:e.shut = true) (h:chkE e = 0):1≤e.count∧e.count≤1000000000∧1≤e.frst∧e.frst≤1000000000:=by
 unfold chkE at h
 rw [if_pos hs] at h
 by_cases hb:(headB e && sealB e) = true
 ·simp only [headB,sealB,Bool.and_eq_true,decide_eq_true_eq] at hb
  omega
 ·rw [if_neg hb] at h
  omega
theorem blk7f {w:World} {g:Nat} {t:TypeId} {a0 a1 a2 a3 a4 a5 a6:Value} (h:Blk w g t #[a0,a1,a2,a3,a4,a5,a6]) :
 (w.cell? ⟨g,0,none⟩ = some a0∧w.cell? ⟨g,1,none⟩ = some a1∧w.cell? ⟨g,2,none⟩ = some a2∧w.cell? ⟨g,3,none⟩ = some a3∧w.cell? ⟨g,4,none⟩ = some a4∧w.cell? ⟨g,5,none⟩ = some a5∧w.cell? ⟨g,6,none⟩ = some a6) ∧
 w.frozen? ⟨g,0,none⟩ = false∧w.frozen? ⟨g,1,none⟩ = false∧w.frozen? ⟨g,2,none⟩ = false∧w.frozen? ⟨g,3,none⟩ = false∧w.frozen? ⟨g,4,none⟩ = false∧w.frozen? ⟨g,5,none⟩ = false∧w.frozen? ⟨g,6,none⟩ = false :=
 ⟨blk7 h,h.frozen 0,h.frozen 1,h.frozen 2,h.frozen 3,h.frozen 4,h.frozen 5,h.frozen 6⟩
theorem set7 {w:World} {g:Nat} {t:TypeId} {c0 c1 c2 c3 c4 c5 c6:Value} (h:Blk w g t #[c0,c1,c2,c3,c4,c5,c6]) (a0 a1 a2 a3 a4 a5 a6:Value) :
 Blk (((((((w.setCell ⟨g,0,none⟩ a0).setCell ⟨g,1,none⟩ a1).setCell ⟨g,2,none⟩ a2).setCell ⟨g,3,none⟩ a3).setCell ⟨g,4,none⟩ a4).setCell ⟨g,5,none⟩ a5).setCell ⟨g,6,none⟩ a6) g t #[a0,a1,a2,a3,a4,a5,a6] :=
 blk_eq (((((((h.set 0 a0).set 1 a1).set 2 a2).set 3 a3).set 4 a4).set 5 a5).set 6 a6) (by simp)
end SkpW
end Go.Proofs.YtnpncpoiiikafaaGreat
namespace Go.Proofs.YtnpncpoiiikafaaGreat
open Go.RowKit
namespace SkpW
open RecW (sameR_any)
theorem same_self (A1 A2:Option Addr) (n1 c1 n2 c2:Nat) (l:List Rc) (w:World) (h1:Rd w w.heap.size 3 A1 n1 (rcells l)) (h2:Rd w w.heap.size 3 A2 n2 (rcells l)) (hl:l.length≤1000000) :
 Calls Tryz.prog 14 #[.slice A1 n1 c1,.slice A2 n2 c2] w fun e w'=>e = .returned (.bool true)∧Below w.heap.size w w':=by
 have:=sameR_any A1 A2 n1 c1 n2 c2 l l w h1 h2 (by have:=rd_rlen h1;omega) (by have:=rd_rlen h2;omega)
 rwa [decide_eq_true (rfl:l = l)] at this
end SkpW
end Go.Proofs.YtnpncpoiiikafaaGreat
namespace Go.Proofs.YtnpncpoiiikafaaGreat
open VarW
namespace HedW
open SkpW (Me)
theorem lput_app (a b:List Int):lput (a ++ b) = lput a ++ lput b:=by simp [lput]
theorem lput_cons (n:Int) (l:List Int):lput (n :: l) = vbytes n.toNat ++ lput l:=by simp [lput]
def inB (n a b:Int):Bool:=decide (a≤n∧n≤b)
def headB (i g f:Int):Bool:=inB i 1 999999 && (inB g 1 999999 && inB f 1 1000000000)
def at3 (l:List Int) (i:Nat):Int:=l[i]?.getD 0
def takeH (b:List UInt8):List Int × Int :=
 if (numsV b 3 0).2.2 = 0 then (if (numsV b 3 0).2.1 = b.length then ((numsV b 3 0).1,0) else ([0,0,0],6)) else ([0,0,0],(numsV b 3 0).2.2)
def getH (b:List UInt8):List Int × Int :=
 if (takeH b).2 = 0 then (if headB (at3 (takeH b).1 0) (at3 (takeH b).1 1) (at3 (takeH b).1 2) = true then ((takeH b).1,0) else ([0,0,0],210)) else ([0,0,0],(takeH b).2)
theorem three {l:List Int} (h:l.length = 3):l = [at3 l 0,at3 l 1,at3 l 2]:=by
 obtain ⟨a,b,c,rfl⟩:∃ a b c,l = [a,b,c]:=by
  match l,h with
  | [a,b,c],_=>exact ⟨a,b,c,rfl⟩
 rfl
theorem getH_back {b:List UInt8} (h:(getH b).2 = 0):headB (at3 (getH b).1 0) (at3 (getH b).1 1) (at3 (getH b).1 2) = true∧lput [at3 (getH b).1 0,at3 (getH b).1 1,at3 (getH b).1 2] = b∧(getH b).1.length = 3:=by
 unfold getH at h ⊢
 by_cases h1:(takeH b).2 = 0
 ·rw [if_pos h1] at h ⊢
  by_cases h2:headB (at3 (takeH b).1 0) (at3 (takeH b).1 1) (at3 (takeH b).1 2) = true
  ·rw [if_pos h2]
   refine ⟨h2,?_,?_⟩
   all_goals
    dsimp only
    unfold takeH at h1 ⊢
    by_cases h3:(numsV b 3 0).2.2 = 0
    ·rw [if_pos h3] at h1 ⊢
     by_cases h4:(numsV b 3 0).2.1 = b.length
     ·rw [if_pos h4]
      have hl:=numsV_len h3
      have hi:=numsV_inv h3 (by omega) (by omega)
      first
      | exact hl
      | (rw [← three hl,hi,h4]
         simp)
     ·rw [if_neg h4] at h1;simp at h1
    ·rw [if_neg h3] at h1;exact absurd h1 h3
  ·rw [if_neg h2] at h;simp at h
 ·rw [if_neg h1] at h;exact absurd h h1
def aloneB (m:Me):Bool:=inB m.at_ 0 1000000 && (inB m.size 10 60009 && (inB m.raw 1 20000 && (inB m.count 1 m.raw && (inB m.first 1 (1000000001 - m.count) && (decide (0≤m.early) && inB m.late m.early 1000000000)))))
theorem aloneB_iff (m:Me):aloneB m = true ↔ 0≤m.at_∧m.at_≤1000000∧10≤m.size∧m.size≤60009∧1≤m.raw∧m.raw≤20000∧1≤m.count∧m.count≤m.raw∧1≤m.first∧m.first≤1000000001 - m.count∧0≤m.early∧m.early≤m.late∧m.late≤1000000000:=by
 simp only [aloneB,inB,Bool.and_eq_true,decide_eq_true_eq]
 constructor
 ·rintro ⟨⟨h1,h2⟩,⟨h3,h4⟩,⟨h5,h6⟩,⟨h7,h8⟩,⟨h9,h10⟩,h11,h12,h13⟩
  exact ⟨h1,h2,h3,h4,h5,h6,h7,h8,h9,h10,h11,h12,h13⟩
 ·rintro ⟨h1,h2,h3,h4,h5,h6,h7,h8,h9,h10,h11,h12,h13⟩
  exact ⟨⟨h1,h2⟩,⟨h3,h4⟩,⟨h5,h6⟩,⟨h7,h8⟩,⟨h9,h10⟩,h11,h12,h13⟩
def nextM (a b:Me):Bool:=decide (b.at_ = a.at_ + a.size) && (decide (b.first = a.first + a.count) && decide (a.late≤b.early))
def rowM:Option Me → List Me → Bool
 | _,[]=>true
 | none,m :: l=>aloneB m && rowM (some m) l
 | some a,m :: l=>aloneB m && (nextM a m && rowM (some m) l)
def blocksV (l:List Me):Int:=if 1000 < l.length then 211 else if rowM none l = true then 0 else 211
theorem rowM_alone:∀ (l:List Me) (p:Option Me),rowM p l = true → ∀ m ∈ l,aloneB m = true
 | [],_,_,m,hm=>by simp at hm
 | a :: l,none,h,m,hm=>by
  simp only [rowM,Bool.and_eq_true] at h
  rcases List.mem_cons.1 hm with rfl | hm
  ·exact h.1
  ·exact rowM_alone l _ h.2 m hm
 | a :: l,some q,h,m,hm=>by
  simp only [rowM,Bool.and_eq_true] at h
  rcases List.mem_cons.1 hm with rfl | hm
  ·exact h.1
  ·exact rowM_alone l _ h.2.2 m hm
theorem blocksV_ok {l:List Me} (h:blocksV l = 0):l.length≤1000∧rowM none l = true∧∀ m ∈ l,aloneB m = true:=by
 unfold blocksV at h
 by_cases h1:1000 < l.length
 ·rw [if_pos h1] at h;simp at h
 ·rw [if_neg h1] at h
  by_cases h2:rowM none l = true
  ·exact ⟨by omega,h2,rowM_alone l _ h2⟩
  ·rw [if_neg h2] at h;simp at h
def numM (m:Me):List Int:=[m.at_,m.size,m.raw,m.count,m.first,m.early,m.late - m.early]
def lateV (e g:Int):Int:=if g≤9223372036854775807 - e then e + g else 9223372036854775807
def meOf (l:List Int):Me:=⟨at3 l 0,at3 l 1,at3 l 2,at3 l 3,at3 l 4,at3 l 5,lateV (at3 l 5) (at3 l 6)⟩
theorem seven {l:List Int} (h:l.length = 7):l = [at3 l 0,at3 l 1,at3 l 2,at3 l 3,at3 l 4,at3 l 5,at3 l 6]:=by
 obtain ⟨a,b,c,d,e,f,g,rfl⟩:∃ a b c d e f g,l = [a,b,c,d,e,f,g]:=by
  match l,h with
  | [a,b,c,d,e,f,g],_=>exact ⟨a,b,c,d,e,f,g,rfl⟩
 rfl
theorem numM_meOf {l:List Int} (h:l.length = 7) (ha:aloneB (meOf l) = true):numM (meOf l) = l:=by
 rw [aloneB_iff] at ha
 conv=>rhs;rw [seven h]
 unfold numM
 have e:(meOf l).late - (meOf l).early = at3 l 6:=by
  have h1:=ha.2.2.2.2.2.2.2.2.2.2.2.2
  show lateV (at3 l 5) (at3 l 6) - at3 l 5 = at3 l 6
  have h2:lateV (at3 l 5) (at3 l 6)≤1000000000:=h1
  unfold lateV at h2 ⊢
  split at h2
  ·next hc=>rw [if_pos hc];omega
  ·omega
 rw [e]
 rfl
def metsV (b:List UInt8):Nat → Int → List Me × Int × Int
 | 0,p=>([],p,0)
 | k + 1,p=>if (numsV b 7 p).2.2 = 0 then (meOf (numsV b 7 p).1 :: (metsV b k (numsV b 7 p).2.1).1,(metsV b k (numsV b 7 p).2.1).2) else ([],p,(numsV b 7 p).2.2)
theorem metsV_yes {b:List UInt8} {k:Nat} {p tz:Int} {l:List Int} (h:numsV b 7 p = (l,tz,0)):metsV b (k + 1) p = (meOf l :: (metsV b k tz).1,(metsV b k tz).2):=by rw [metsV,h];rfl
theorem metsV_no {b:List UInt8} {k:Nat} {p tz e:Int} {l:List Int} (h:numsV b 7 p = (l,tz,e)) (he:e ≠ 0):metsV b (k + 1) p = ([],p,e):=by rw [metsV,h];exact if_neg he
theorem metsV_ok {b : List UInt8} : ∀ {k : Nat} {p : Int}, (metsV b k p).2.2 = 0 → 0 ≤ p → p ≤ b.length → p ≤ (metsV b k p).2.1 ∧ (metsV b k p).2.1 ≤ b.length ∧ (metsV b k p).1.length = k ∧
      ((∀ m ∈ (metsV b k p).1,aloneB m = true) → lput ((metsV b k p).1.flatMap numM) = (b.drop p.toNat).take ((metsV b k p).2.1 - p).toNat)
 | 0,p,_,h0,h1=>⟨by simp [metsV],h1,rfl,fun _=>by simp [metsV,lput]⟩
 | k + 1,p,h,h0,h1=>by
  rw [metsV] at h ⊢
  split at h
  ·next hn =>
   rw [if_pos hn]
   have hl:=numsV_len hn
   obtain ⟨n1,n2,_⟩:=numsV_ok hn h0 h1
   have hi:=numsV_inv hn h0 h1
   obtain ⟨i1,i2,i3,i4⟩:=metsV_ok h (by omega) n2
   dsimp only
   refine ⟨by omega,i2,by rw [List.length_cons,i3],fun ha=>?_⟩
   have ha1:=ha _ (List.mem_cons_self ..)
   have ih:=i4 (fun m hm=>ha m (List.mem_cons_of_mem _ hm))
   rw [List.flatMap_cons,lput_app,numM_meOf hl ha1,hi,ih]
   generalize (numsV b 7 p).2.1 = q at *
   generalize (metsV b k q).2.1 = z at *
   have e1:b.drop q.toNat = (b.drop p.toNat).drop (q - p).toNat:=by rw [List.drop_drop];congr 1;omega
   have e2:(z - p).toNat = (q - p).toNat + (z - q).toNat:=by omega
   show _ = List.take ((z - p).toNat) _
   rw [e1,e2,List.take_add]
  ·next hn=>exact absurd h hn
def takeF (b:List UInt8):List Me × Int :=
 if (getV b 0).2.2 = 0 then
  (if 1000 < (getV b 0).1 then ([],3) else
   if (metsV b (getV b 0).1.toNat (getV b 0).2.1).2.2 = 0 then
    (if (metsV b (getV b 0).1.toNat (getV b 0).2.1).2.1 = b.length then ((metsV b (getV b 0).1.toNat (getV b 0).2.1).1,0) else ([],6))
   else ([],(metsV b (getV b 0).1.toNat (getV b 0).2.1).2.2))
 else ([],(getV b 0).2.2)
def getF (b:List UInt8):List Me × Int :=
 if (takeF b).2 = 0 then (if blocksV (takeF b).1 = 0 then ((takeF b).1,0) else ([],blocksV (takeF b).1)) else ([],(takeF b).2)
theorem numM_in {m:Me} (h:aloneB m = true):∀ n ∈ numM m,0≤n∧n≤9223372036854775807:=by
 rw [aloneB_iff] at h
 obtain ⟨h1,h2,h3,h4,h5,h6,h7,h8,h9,h10,h11,h12,h13⟩:=h
 intro n hn
 simp only [numM,List.mem_cons,List.not_mem_nil,or_false] at hn
 rcases hn with rfl | rfl | rfl | rfl | rfl | rfl | rfl <;> omega
theorem getF_back {b:List UInt8} (h:(getF b).2 = 0):blocksV (getF b).1 = 0∧lput (((getF b).1.length:Int) :: (getF b).1.flatMap numM) = b:=by
 unfold getF at h ⊢
 by_cases h1:(takeF b).2 = 0
 ·rw [if_pos h1] at h ⊢
  by_cases h2:blocksV (takeF b).1 = 0
  ·rw [if_pos h2]
   refine ⟨h2,?_⟩
   dsimp only
   have ha:=(blocksV_ok h2).2.2
   unfold takeF at h1 ha ⊢
   by_cases h3:(getV b 0).2.2 = 0
   ·rw [if_pos h3] at h1 ha ⊢
    by_cases h4:1000 < (getV b 0).1
    ·rw [if_pos h4] at h1;simp at h1
    ·rw [if_neg h4] at h1 ha ⊢
     by_cases h5:(metsV b (getV b 0).1.toNat (getV b 0).2.1).2.2 = 0
     ·rw [if_pos h5] at h1 ha ⊢
      by_cases h6:(metsV b (getV b 0).1.toNat (getV b 0).2.1).2.1 = b.length
      ·rw [if_pos h6] at ha ⊢
       dsimp only at ha ⊢
       obtain ⟨g1,g2,g3,g4,g5⟩:=getV_ok h3
       have iv:=getV_inv h3
       obtain ⟨i1,i2,i3,i4⟩:=metsV_ok h5 (by omega) g3
       rw [i3,lput_cons,i4 ha,h6]
       have e0:(((getV b 0).1.toNat:Nat):Int).toNat = (getV b 0).1.toNat:=Int.toNat_natCast _
       have e1:List.drop (0:Int).toNat b = b:=by simp
       have e2:((getV b 0).2.1 - 0).toNat = (getV b 0).2.1.toNat:=by rw [Int.sub_zero]
       rw [e0,iv,e1,e2,List.take_of_length_le (l:=List.drop (getV b 0).2.1.toNat b) (by rw [List.length_drop];omega),List.take_append_drop]
      ·rw [if_neg h6] at h1;simp at h1
     ·rw [if_neg h5] at h1;exact absurd h1 h5
   ·rw [if_neg h3] at h1;exact absurd h1 h3
  ·rw [if_neg h2] at h;exact absurd h h2
 ·rw [if_neg h1] at h;exact absurd h h1
end HedW
end Go.Proofs.YtnpncpoiiikafaaGreat
namespace Go.Proofs.YtnpncpoiiikafaaGreat
open Go.RowKit
namespace HedW
open SkpW (Me En hc hcheck_any chkH)
open SufW (w64s)
theorem lput_ne {l:List Int} (h:0 < l.length):lput l ≠ []:=by
 match l,h with
 | n :: l,_ =>
  rw [lput_cons]
  intro e
  have:=congrArg List.length e
  have h1:=vlen_pos n.toNat
  rw [List.length_append,vbytes_len,List.length_nil] at this
  omega
theorem numbers_any (A:Option Addr) (n c:Nat) (l:List Int) (w:World) (h:Rd w w.heap.size 1 A n (ints l)) (hn:n≤100000) (hl:∀ x ∈ l,0≤x∧x≤9223372036854775807) (h0:0 < n) :
 Calls Tryz.prog 51 #[.slice A n c] w fun e w'=>e = .returned (.tuple #[str (lput l),.int .i64 0])∧Below w.heap.size w w':=by
 have hln:l.length = n:=rd_len h
 have HL:=Lib.hid hl
 have HN:=Lib.hid hln
 clear hl hln
 go_enter Tryz.func51,Tryz.ntmps51
 go_wp2_with fail
 have hBl:=Bld.Bl.fresh w
 have HB:=(Below.refl w.heap.size w).alloc (Nat.le_refl _) (.cells #[.pointer none,.slice none 0 0] 112)
 obtain ⟨bb,hbb⟩:∃ bb,w.heap.size = bb:=⟨_,rfl⟩
 have zb:w.heap.size≤bb:=by omega
 rw [hbb] at hBl
 rw [hbb]
 generalize w.alloc (.cells #[.pointer none,.slice none 0 0] 112) = w0 at *
 clear hbb
 go_loopw [11] (fun i wr=>∃ k:Nat,i = .int .i64 k∧k≤n∧(lput (l.take k)).length≤9 * k∧Bld.Bl bb bb (lput (l.take k)) wr∧Below w.heap.size w wr) (fun i _=>n - (intOf i).toNat)
 case atStart=>exact ⟨0,rfl,by omega,by simp [lput],hBl,HB⟩
 case round =>
  clear hBl HB
  obtain ⟨k,rfl,hk,hlk,hB,hbw⟩:=hrel
  have hsz:=hbw.size
  have hbl:=hB.lt
  by_cases hlt:k < n
  ·have hkl:k < l.length:=by rw [HN.out];exact hlt
   obtain ⟨b,o,rfl,hb,hcc⟩:=(h.below hbw).at_ (by omega)
   obtain ⟨v,hv⟩:∃ v:Nat,l[k] = (v:Int):=⟨l[k].toNat,by have:=HL.out l[k] (List.getElem_mem hkl);omega⟩
   have hvb:v≤9223372036854775807:=by have:=HL.out l[k] (List.getElem_mem hkl);omega
   have cx:wr.cell? ⟨b,o + k,none⟩ = some (.int .i64 (v:Nat)):=by
    rw [hcc k (by rw [ints_len];exact hkl)]
    simp [ints,hv]
   have HS:=Lib.hid (lput_snoc l k hkl)
   rw [hv,Int.toNat_natCast] at HS
   have hkI:(k:Int) < (n:Int):=by omega
   have hk0:(0:Int)≤(k:Int):=by omega
   have hk1:IntKind.i64.wrap ((k:Int) + 1) = (k:Int) + 1:=w64s (by omega) (by omega)
   have hvl:(vbytes v).length≤9:=by rw [vbytes_len];exact vlen_le v
   have C:=VarW.put_yes v wr hvb
   generalize lput (l.take k) = fl at *
   clear hcc hv hvb
   go_wp2_with fail
   refine C.mono ?_
   clear C
   rintro e w2 ⟨rfl,hb2⟩
   replace hB:=hB.below hb2
   replace hbw:=hbw.trans (hb2.mono hsz)
   have hbl2:=hB.lt
   clear hb2 cx
   go_wp2_with fail
   refine (Bld.write_any bb bb fl (vbytes v) w2 hB (by omega) (Nat.le_of_lt hB.lt)).mono ?_
   rintro e w5 ⟨rfl,hB5,hb5⟩
   go_wp2_with fail
   go_roundw
   case rel=>exact ⟨k + 1,by go_num,by omega,by rw [HS.out,List.length_append];omega,by rw [HS.out];exact hB5,hbw.trans (hb5.mono zb)⟩
   case measure=>simp [intOf];omega
  ·have hkI:¬ (k:Int) < (n:Int):=by omega
   have hz:=Lib.hid (show l.take k = l from List.take_of_length_le (by rw [HN.out];omega))
   rw [hz.out] at hB
   have C:=Bld.text_any bb bb _ wr hB (lput_ne (by rw [HN.out];exact h0))
   obtain ⟨fl,hfl⟩:∃ fl,lput l = fl:=⟨_,rfl⟩
   rw [hfl] at C
   have HF:=Lib.hid hfl
   clear hfl hz hB
   go_wp2_with fail
   refine C.mono ?_
   clear C
   rintro e w6 ⟨rfl,hb6⟩
   go_wp2_with fail
   go_ret2
   exact ⟨by rw [HF.out];rfl,hbw.trans (hb6.mono zb)⟩
def enH (i g f:Int):En:=⟨i,g,f,false,0,0,0,0,0⟩
theorem Check_any (i g f v:Int) (hv:(if headB i g f then 0 else 210) = v) (w:World) :
 Calls Tryz.prog 50 #[.agg #[.int .i64 i,.int .i64 g,.int .i64 f]] w fun e w'=>e = .returned (.int .i64 v)∧Below w.heap.size w w' :=
 hcheck_any (enH i g f) v hv w
theorem headB_in {i g f:Int} (h:headB i g f = true):1≤i∧i≤999999∧1≤g∧g≤999999∧1≤f∧f≤1000000000:=by
 simp only [headB,inB,Bool.and_eq_true,decide_eq_true_eq] at h
 omega
theorem Put_yes (i g f:Int) (w:World) (hh:headB i g f = true) :
 Calls Tryz.prog 16 #[.agg #[.int .i64 i,.int .i64 g,.int .i64 f]] w fun e w'=>e = .returned (.tuple #[str (lput [i,g,f]),.int .i64 0])∧Below w.heap.size w w':=by
 have C:=fun w=>Check_any i g f 0 (by rw [hh];rfl) w
 have hin:=headB_in hh
 have HC:=Lib.hid C
 have HI:=Lib.hid hin
 clear C hin hh
 have B:=Blk.new w 23 #[.int .i64 i,.int .i64 g,.int .i64 f]
 have HB:Below w.heap.size w (w.alloc (.cells #[.int .i64 i,.int .i64 g,.int .i64 f] 23)):=(Below.refl w.heap.size w).alloc (Nat.le_refl _) _
 obtain ⟨c0,c1,c2,_,_,_,_⟩:=blk3 B
 go_enter Tryz.func16,Tryz.ntmps16
 go_wp2_with fail
 refine (HC.out _).mono ?_
 clear HC c0 c1 c2
 rintro e w1 ⟨rfl,hb1⟩
 replace B:=B.below hb1 B.lt
 replace HB:=HB.trans (hb1.mono HB.size)
 clear hb1
 obtain ⟨c0,c1,c2,_,_,_,_⟩:=blk3 B
 have R:=rd_new (W0:=w1) (t:=3) (g:=w1.heap.size) (m:=3) (size:=1) (cs:=ints [i,g,f]) rfl rfl
 have HB2:=HB.alloc HB.size (.cells (ints [i,g,f]).toArray 3)
 have hsz:w1.heap.size + 1 = (w1.alloc (.cells (ints [i,g,f]).toArray 3)).heap.size:=by simp
 rw [hsz] at R
 have C:=numbers_any _ 3 3 [i,g,f] _ R (by omega) (by have:=HI.out;intro x hx;simp only [List.mem_cons,List.not_mem_nil,or_false] at hx;rcases hx with rfl | rfl | rfl <;> omega) (by omega)
 clear R hsz HI
 go_wp2_with fail
 refine C.mono ?_
 clear C
 rintro e w2 ⟨rfl,hb2⟩
 replace HB2:=HB2.trans (hb2.mono HB2.size)
 go_wp2_with fail
 go_ret2
 exact ⟨rfl,HB2⟩
end HedW
end Go.Proofs.YtnpncpoiiikafaaGreat
