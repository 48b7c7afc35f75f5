/- KmpP -/
import Derived.Test.YtnpncpoiiikafaaGreatMemQt
import Derived.ScopeJumps
import Derived.Test.YtnpncpoiiikafaaGreatLenBQt
import Derived.Deep.OwnRows
import Derived.Laws.EntriesVeiled
import Derived.Test.YtnpncpoiiikafaaGreatSqUQt
import Derived.Test.YtnpncpoiiikafaaGreatVarFQt
import Derived.Lib.Builder
import Derived.Lib.AppendStr
import Derived.Lib.UnsafeStr
import Derived.Lib.MakeNoZero
import Derived.Lib.Strings
import Derived.Lib.Slices
import Derived.Lib.Walk
import Derived.Laws.Externs
import Derived.Laws.IdiomCopy
import Derived.Laws.BitsLemmas
import Derived.RegionTactic
import Derived.Test.YtnpncpoiiikafaaGreatAppQt
import Derived.Test.YtnpncpoiiikafaaGreatSuWQt
set_option linter.unusedVariables false
set_option linter.unusedSimpArgs false
set_option linter.unnecessarySimpa false
set_option maxRecDepth 100000
set_option maxHeartbeats 32000000
namespace Go.Proofs.YtnpncpoiiikafaaGreat
open Go.RowKit
namespace KmpW
def mx (p t:List UInt8):Nat → Nat
 | 0=>0
 | k + 1=>if p.take (k + 1) <:+ t then k + 1 else mx p t k
def M (p t:List UInt8):Nat:=mx p t p.length
theorem mx_le (p t:List UInt8) (k:Nat):mx p t k≤k:=by
 induction k with
 | zero=>exact Nat.le_refl _
 | succ k ih=>rw [mx];split <;> omega
theorem mx_suf (p t:List UInt8) (k:Nat):p.take (mx p t k) <:+ t:=by
 induction k with
 | zero=>rw [mx,List.take_zero];exact List.nil_suffix
 | succ k ih =>
  rw [mx]
  split
  ·assumption
  ·exact ih
theorem mx_max (p t:List UInt8) (n:Nat):∀ k,k≤n → p.take k <:+ t → k≤mx p t n:=by
 induction n with
 | zero=>intro k h _;omega
 | succ n ih =>
  intro k h hs
  rw [mx]
  split
  ·omega
  ·rename_i hn
   rcases Nat.lt_or_ge n k with h1 | h1
   ·obtain rfl:k = n + 1:=by omega
    exact absurd hs hn
   ·exact ih k h1 hs
theorem M_le (p t:List UInt8):M p t≤p.length:=mx_le p t _
theorem M_suf (p t:List UInt8):p.take (M p t) <:+ t:=mx_suf p t _
theorem M_max {p t:List UInt8} {k:Nat} (h:k≤p.length) (hs:p.take k <:+ t):k≤M p t:=mx_max p t _ k h hs
theorem M_eq {p t:List UInt8} {k:Nat} (h:k≤p.length) (hs:p.take k <:+ t) (hm:∀ j,j≤p.length → p.take j <:+ t → j≤k):M p t = k :=
 Nat.le_antisymm (hm _ (M_le p t) (M_suf p t)) (M_max h hs)
def brd (p:List UInt8) (j:Nat):Nat:=M p ((p.drop 1).take j)
theorem brd_iff {p:List UInt8} {s k:Nat} (hs:s < p.length) (hk:k≤p.length):p.take k <:+ (p.drop 1).take s ↔ (p.take k <:+ p.take (s + 1)∧k≤s):=by
 cases p with
 | nil=>simp at hs
 | cons a q =>
  simp only [List.drop_succ_cons,List.drop_zero,List.take_succ_cons]
  rw [List.suffix_cons_iff]
  simp only [List.length_cons] at hs hk
  constructor
  ·intro h
   refine ⟨.inr h,?_⟩
   have:=h.length_le
   rw [List.length_take,List.length_take,List.length_cons] at this
   omega
  ·rintro ⟨h | h,hks⟩
   ·have:=congrArg List.length h
    simp only [List.length_take,List.length_cons] at this
    omega
   ·exact h
structure Inv (p t:List UInt8) (b:UInt8) (s:Nat):Prop where
 le:s≤p.length
 suf:p.take s <:+ t
 max:∀ k,k + 1≤p.length → p.take (k + 1) <:+ t ++ [b] → k≤s
theorem snoc_suf {p t:List UInt8} {b:UInt8} {k:Nat} (h:k < p.length):p.take (k + 1) <:+ t ++ [b] ↔ (p.take k <:+ t∧p[k] = b):=by
 rw [List.take_succ_eq_append_getElem h]
 constructor
 ·rintro ⟨r,hr⟩
  rw [← List.append_assoc] at hr
  have h1:=List.append_inj' hr rfl
  refine ⟨⟨r,h1.1⟩,?_⟩
  have:=h1.2
  simpa using this
 ·rintro ⟨⟨r,hr⟩,rfl⟩
  exact ⟨r,by rw [← List.append_assoc,hr]⟩
theorem Inv.start (p t:List UInt8) (b:UInt8):Inv p t b (M p t) :=
 ⟨M_le p t,M_suf p t,fun k hk hs=>M_max (by omega) ((snoc_suf (by omega)).1 hs).1⟩
theorem Inv.zero {p t:List UInt8} {b:UInt8} (h:Inv p t b 0) (hn:∀ hs:0 < p.length,¬ p[0] = b):M p (t ++ [b]) = 0:=by
 refine M_eq (by omega) (by rw [List.take_zero];exact List.nil_suffix) ?_
 intro j hj hsuf
 cases j with
 | zero=>omega
 | succ j =>
  exfalso
  have h0:=h.max j hj hsuf
  obtain rfl:j = 0:=by omega
  exact hn (by omega) ((snoc_suf (by omega)).1 hsuf).2
theorem Inv.next {p t:List UInt8} {b:UInt8} {s:Nat} (h:Inv p t b (s + 1)) (hn:∀ hs:s + 1 < p.length,¬ p[s + 1] = b):Inv p t b (brd p s):=by
 have hsl:=h.le
 have hb:=(brd_iff (p:=p) (s:=s) (k:=brd p s) (by omega) (M_le _ _)).1 (M_suf _ _)
 refine ⟨M_le _ _,hb.1.trans h.suf,?_⟩
 intro k hk hsuf
 have h1:=h.max k hk hsuf
 obtain ⟨h2,h3⟩:=(snoc_suf (by omega)).1 hsuf
 have hne:k ≠ s + 1:=by
  rintro rfl
  exact hn (by omega) h3
 have hks:k≤s:=by omega
 refine M_max (by omega) ((brd_iff (p:=p) (s:=s) (k:=k) (by omega) (by omega)).2 ⟨?_,hks⟩)
 exact List.suffix_of_suffix_length_le h2 h.suf (by rw [List.length_take,List.length_take];omega)
end KmpW
end Go.Proofs.YtnpncpoiiikafaaGreat
namespace Go.Proofs.YtnpncpoiiikafaaGreat
open Go.RowKit
namespace KmpW
end KmpW
end Go.Proofs.YtnpncpoiiikafaaGreat
namespace Go.Proofs.YtnpncpoiiikafaaGreat
open Go.RowKit
namespace KmpW
end KmpW
end Go.Proofs.YtnpncpoiiikafaaGreat
namespace Go.Proofs.YtnpncpoiiikafaaGreat
open Go.RowKit
namespace KmpW
end KmpW
end Go.Proofs.YtnpncpoiiikafaaGreat
namespace Go.Proofs.YtnpncpoiiikafaaGreat
open Go.RowKit
namespace KmpW
end KmpW
end Go.Proofs.YtnpncpoiiikafaaGreat
namespace Go.Proofs.YtnpncpoiiikafaaGreat
open Go.RowKit
namespace SkpW
theorem blk7 {w:World} {g:Nat} {t:TypeId} {a0 a1 a2 a3 a4 a5 a6:Value} (h:Blk w g t #[a0,a1,a2,a3,a4,a5,a6]) :
 w.cell? ⟨g,0,none⟩ = some a0∧w.cell? ⟨g,1,none⟩ = some a1∧w.cell? ⟨g,2,none⟩ = some a2∧w.cell? ⟨g,3,none⟩ = some a3∧w.cell? ⟨g,4,none⟩ = some a4∧w.cell? ⟨g,5,none⟩ = some a5∧w.cell? ⟨g,6,none⟩ = some a6 :=
 ⟨h.cell_ 0 rfl,h.cell_ 1 rfl,h.cell_ 2 rfl,h.cell_ 3 rfl,h.cell_ 4 rfl,h.cell_ 5 rfl,h.cell_ 6 rfl⟩
end SkpW
end Go.Proofs.YtnpncpoiiikafaaGreat
namespace Go.Proofs.YtnpncpoiiikafaaGreat
open Go.RowKit
namespace SkpW
open SpanW (R rv)
theorem results_row1 {P:Program} {fn:Func} {p:Tmp} {ty:TypeId} (h:fn.results = #[.cell p ty]) (tmps:Array Value) (w:World) (g:Nat) (t:TypeId) (cs:Array Value) (fr:Nat × Nat) (d:TypeDesc)
 (hp:tmps.getD p undef = .pointer (some ⟨g,0,none⟩)) (hg:w.heap[g]? = some (.cells cs t fr))
 (hu:P.underlying ty = some d) (hd:(match d with | .struct _ | .array _ _=>true | _=>false) = true) (hi:(P.info? ty).map (·.size) = some cs.size) :
 (results fn tmps).run P w = .ok (.agg cs) w:=by
 have hp':tmps[p]?.getD undef = .pointer (some ⟨g,0,none⟩):=by simpa using hp
 simp [results,h,hp',asAddr,run_loadVar_row w g t ty cs fr d hg hu hd hi]
end SkpW
end Go.Proofs.YtnpncpoiiikafaaGreat
namespace Go.Proofs.YtnpncpoiiikafaaGreat
open Go.RowKit
namespace SkpW
open SpanW (R rv)
structure Me where
 at_:Int
 size:Int
 raw:Int
 count:Int
 first:Int
 early:Int
 late:Int
abbrev mc (m:Me):Array Value:=#[.int .i64 m.at_,.int .i64 m.size,.int .i64 m.raw,.int .i64 m.count,.int .i64 m.first,.int .i64 m.early,.int .i64 m.late]
def sM (c f:Int):R:=if c < 1 then (1,0) else if 9223372036854775807 - (c - 1) < f then (f,9223372036854775807) else (f,f + (c - 1))
theorem new2 (w:World) (o:Obj) (t:TypeId) (a b:Value):Blk ((w.alloc o).alloc (.cells #[a,b] t)) (w.heap.size + 1) t #[a,b]:=by
 have:=Blk.new (w.alloc o) t #[a,b]
 rwa [World.size_alloc] at this
theorem hb2 (w:World) (o p:Obj):Below w.heap.size w ((w.alloc o).alloc p):=((Below.refl _ w).alloc (Nat.le_refl _) _).alloc (by simp) _
theorem bseqs_cases (c f:Int) (hc:I64 c) (hf:I64 f):(c < 1∧sM c f = (1,0)) ∨ (¬ c < 1∧9223372036854775807 - (c - 1) < f∧sM c f = (f,9223372036854775807)) ∨ (¬ c < 1∧¬ 9223372036854775807 - (c - 1) < f∧sM c f = (f,f + (c - 1))∧wrap64 (f + (c - 1)) = f + (c - 1)):=by
 obtain ⟨_,_⟩:=hc
 obtain ⟨_,_⟩:=hf
 unfold sM
 by_cases h1:c < 1
 ·exact .inl ⟨h1,if_pos h1⟩
 ·by_cases h2:9223372036854775807 - (c - 1) < f
  ·exact .inr (.inl ⟨h1,h2,by rw [if_neg h1,if_pos h2]⟩)
  ·exact .inr (.inr ⟨h1,h2,by rw [if_neg h1,if_neg h2],by unfold wrap64;omega⟩)
theorem bseqs_any (m:Me) (w:World) (hc:I64 m.count) (hf:I64 m.first) :
 Calls Tryz.prog 73 #[.agg (mc m)] w fun e w'=>e = .returned (rv (sM m.count m.first))∧Below w.heap.size w w':=by
 obtain ⟨m0,m1,m2,co,fi,ea,la⟩:=m
 have b0:=(Blk.new w 33 (mc ⟨m0,m1,m2,co,fi,ea,la⟩)).alloc (.cells #[.int .i64 0,.int .i64 0] 56)
 dsimp only at hc hf
 rcases bseqs_cases co fi hc hf with ⟨h,hs⟩ | ⟨h,h2,hs⟩ | ⟨h,h2,hs,hw⟩
 ·obtain ⟨_,_⟩:=hc
  rw [hs]
  go_enter Tryz.func73,Tryz.ntmps73
  go_wp2_with fail
  refine bodyPost_ret (results_row1 rfl _ _ (w.heap.size + 1) 56 #[.int .i64 1,.int .i64 0] (0,0) _ rfl (new2 _ _ _ _ _) Tryz.underlying56 rfl (by kernel_rfl)) rfl ?_
  exact ⟨rfl,hb2 _ _ _⟩
 ·obtain ⟨hc1,hc2⟩:=hc
  have hw1:wrap64 (co - 1) = co - 1:=by unfold wrap64;omega
  have hw2:wrap64 (9223372036854775807 - (co - 1)) = 9223372036854775807 - (co - 1):=by unfold wrap64;omega
  rw [hs]
  go_enter Tryz.func73,Tryz.ntmps73
  go_wp2_with fail
  refine bodyPost_ret (results_row1 rfl _ _ (w.heap.size + 1) 56 #[.int .i64 fi,.int .i64 9223372036854775807] (0,0) _ rfl (new2 _ _ _ _ _) Tryz.underlying56 rfl (by kernel_rfl)) rfl ?_
  exact ⟨rfl,hb2 _ _ _⟩
 ·obtain ⟨hc1,hc2⟩:=hc
  have hw1:wrap64 (co - 1) = co - 1:=by unfold wrap64;omega
  have hw2:wrap64 (9223372036854775807 - (co - 1)) = 9223372036854775807 - (co - 1):=by unfold wrap64;omega
  rw [hs]
  go_enter Tryz.func73,Tryz.ntmps73
  go_wp2_with fail
  refine bodyPost_ret (results_row1 rfl _ _ (w.heap.size + 1) 56 #[.int .i64 fi,.int .i64 (fi + (co - 1))] (0,0) _ rfl (new2 _ _ _ _ _) Tryz.underlying56 rfl (by kernel_rfl)) rfl ?_
  exact ⟨rfl,hb2 _ _ _⟩
end SkpW
end Go.Proofs.YtnpncpoiiikafaaGreat
namespace Go.Proofs.YtnpncpoiiikafaaGreat
open Go.RowKit
namespace SkpW
open SpanW (R rv)
structure En where
 id:Int
 gen:Int
 frst:Int
 shut:Bool
 count:Int
 blocks:Int
 early:Int
 late:Int
 bytes:Int
abbrev hc (e:En):Array Value:=#[.int .i64 e.id,.int .i64 e.gen,.int .i64 e.frst]
def headB (e:En):Bool:=decide (1≤e.id∧e.id≤999999) && (decide (1≤e.gen∧e.gen≤999999) && decide (1≤e.frst∧e.frst≤1000000000))
def chkH (e:En):Int:=if headB e then 0 else 210
theorem within_any (n a b:Int) (v:Bool) (hv:decide (a≤n∧n≤b) = v) (w:World) :
 Calls Tryz.prog 111 #[.int .i64 n,.int .i64 a,.int .i64 b] w fun e w'=>e = .returned (.bool v)∧w' = w:=by
 subst hv
 by_cases h1:a≤n
 ·by_cases h2:n≤b
  ·rw [decide_eq_true (And.intro h1 h2)]
   go_enter Tryz.func111,Tryz.ntmps111
   go_wp2_with fail
   go_ret
   exact ⟨rfl,rfl⟩
  ·rw [decide_eq_false (fun h=>h2 h.2)]
   go_enter Tryz.func111,Tryz.ntmps111
   go_wp2_with fail
   go_ret
   exact ⟨rfl,rfl⟩
 ·rw [decide_eq_false (fun h=>h1 h.1)]
  go_enter Tryz.func111,Tryz.ntmps111
  go_wp2_with fail
  go_ret
  exact ⟨rfl,rfl⟩
theorem hcheck_any (e0:En) (v:Int) (hv:chkH e0 = v) (w:World) :
 Calls Tryz.prog 50 #[.agg (hc e0)] w fun e w'=>e = .returned (.int .i64 v)∧Below w.heap.size w w':=by
 obtain ⟨i,g,f,s,m1,m2,m3,m4,m5⟩:=e0
 subst hv
 unfold chkH headB
 dsimp only
 have C1:=fun w=>within_any i 1 999999 _ rfl w
 have C2:=fun w=>within_any g 1 999999 _ rfl w
 have C3:=fun w=>within_any f 1 1000000000 _ rfl w
 generalize decide (1≤i∧i≤999999) = x at *
 generalize decide (1≤g∧g≤999999) = y at *
 generalize decide (1≤f∧f≤1000000000) = z at *
 have b0:=Blk.new w 23 #[.int .i64 i,.int .i64 g,.int .i64 f]
 obtain ⟨k0,k1,k2,_,_,_,_⟩:=blk3 b0
 have HB:Below w.heap.size w (w.alloc (.cells #[.int .i64 i,.int .i64 g,.int .i64 f] 23)):=(Below.refl _ w).alloc (Nat.le_refl _) _
 clear b0
 go_enter Tryz.func50,Tryz.ntmps50
 go_wp2_with fail
 refine (C1 _).mono ?_
 rintro e w1 ⟨rfl,rfl⟩
 cases x with
 | false =>
  go_wp2_with fail
  go_ret
  exact ⟨rfl,HB⟩
 | true =>
  go_wp2_with fail
  refine (C2 _).mono ?_
  rintro e w1 ⟨rfl,rfl⟩
  cases y with
  | false =>
   go_wp2_with fail
   go_ret
   exact ⟨rfl,HB⟩
  | true =>
   go_wp2_with fail
   refine (C3 _).mono ?_
   rintro e w1 ⟨rfl,rfl⟩
   cases z with
   | false =>
    go_wp2_with fail
    go_ret
    exact ⟨rfl,HB⟩
   | true =>
    go_wp2_with fail
    go_ret
    exact ⟨rfl,HB⟩
end SkpW
end Go.Proofs.YtnpncpoiiikafaaGreat
namespace Go.Proofs.YtnpncpoiiikafaaGreat
open Go.RowKit
namespace SkpW
open SpanW (R rv)
end SkpW
end Go.Proofs.YtnpncpoiiikafaaGreat
namespace Go.Proofs.YtnpncpoiiikafaaGreat
open Go.RowKit
namespace SkpW
open SpanW (R rv)
theorem blk7f {w:World} {g:Nat} {t:TypeId} {a0 a1 a2 a3 a4 a5 a6:Value} (h:Blk w g t #[a0,a1,a2,a3,a4,a5,a6]) :
 (w.cell? ⟨g,0,none⟩ = some a0∧w.cell? ⟨g,1,none⟩ = some a1∧w.cell? ⟨g,2,none⟩ = some a2∧w.cell? ⟨g,3,none⟩ = some a3∧w.cell? ⟨g,4,none⟩ = some a4∧w.cell? ⟨g,5,none⟩ = some a5∧w.cell? ⟨g,6,none⟩ = some a6) ∧
 w.frozen? ⟨g,0,none⟩ = false∧w.frozen? ⟨g,1,none⟩ = false∧w.frozen? ⟨g,2,none⟩ = false∧w.frozen? ⟨g,3,none⟩ = false∧w.frozen? ⟨g,4,none⟩ = false∧w.frozen? ⟨g,5,none⟩ = false∧w.frozen? ⟨g,6,none⟩ = false :=
 ⟨blk7 h,h.frozen 0,h.frozen 1,h.frozen 2,h.frozen 3,h.frozen 4,h.frozen 5,h.frozen 6⟩
theorem set7 {w:World} {g:Nat} {t:TypeId} {c0 c1 c2 c3 c4 c5 c6:Value} (h:Blk w g t #[c0,c1,c2,c3,c4,c5,c6]) (a0 a1 a2 a3 a4 a5 a6:Value) :
 Blk (((((((w.setCell ⟨g,0,none⟩ a0).setCell ⟨g,1,none⟩ a1).setCell ⟨g,2,none⟩ a2).setCell ⟨g,3,none⟩ a3).setCell ⟨g,4,none⟩ a4).setCell ⟨g,5,none⟩ a5).setCell ⟨g,6,none⟩ a6) g t #[a0,a1,a2,a3,a4,a5,a6] :=
 blk_eq (((((((h.set 0 a0).set 1 a1).set 2 a2).set 3 a3).set 4 a4).set 5 a5).set 6 a6) (by simp)
theorem low7 {w0 w:World} {g:Nat} (h:Below w0.heap.size w0 w) (hg:w0.heap.size≤g) (a0 a1 a2 a3 a4 a5 a6:Value) :
 Below w0.heap.size w0 (((((((w.setCell ⟨g,0,none⟩ a0).setCell ⟨g,1,none⟩ a1).setCell ⟨g,2,none⟩ a2).setCell ⟨g,3,none⟩ a3).setCell ⟨g,4,none⟩ a4).setCell ⟨g,5,none⟩ a5).setCell ⟨g,6,none⟩ a6) :=
 ((((((h.setCell (p:=⟨g,0,none⟩) hg a0).setCell (p:=⟨g,1,none⟩) hg a1).setCell (p:=⟨g,2,none⟩) hg a2).setCell (p:=⟨g,3,none⟩) hg a3).setCell (p:=⟨g,4,none⟩) hg a4).setCell (p:=⟨g,5,none⟩) hg a5).setCell (p:=⟨g,6,none⟩) hg a6
end SkpW
end Go.Proofs.YtnpncpoiiikafaaGreat
namespace Go.Proofs.YtnpncpoiiikafaaGreat
open VarW
namespace HedW
open SkpW (Me)
theorem lput_cons (n:Int) (l:List Int):lput (n :: l) = vbytes n.toNat ++ lput l:=by simp [lput]
def inB (n a b:Int):Bool:=decide (a≤n∧n≤b)
def headB (i g f:Int):Bool:=inB i 1 999999 && (inB g 1 999999 && inB f 1 1000000000)
def aloneB (m:Me):Bool:=inB m.at_ 0 1000000 && (inB m.size 10 60009 && (inB m.raw 1 20000 && (inB m.count 1 m.raw && (inB m.first 1 (1000000001 - m.count) && (decide (0≤m.early) && inB m.late m.early 1000000000)))))
theorem aloneB_iff (m:Me):aloneB m = true ↔ 0≤m.at_∧m.at_≤1000000∧10≤m.size∧m.size≤60009∧1≤m.raw∧m.raw≤20000∧1≤m.count∧m.count≤m.raw∧1≤m.first∧m.first≤1000000001 - m.count∧0≤m.early∧m.early≤m.late∧m.late≤1000000000:=by
 simp only [aloneB,inB,Bool.and_eq_true,decide_eq_true_eq]
 constructor
 ·rintro ⟨⟨h1,h2⟩,⟨h3,h4⟩,⟨h5,h6⟩,⟨h7,h8⟩,⟨h9,h10⟩,h11,h12,h13⟩
  exact ⟨h1,h2,h3,h4,h5,h6,h7,h8,h9,h10,h11,h12,h13⟩
 ·rintro ⟨h1,h2,h3,h4,h5,h6,h7,h8,h9,h10,h11,h12,h13⟩
  exact ⟨⟨h1,h2⟩,⟨h3,h4⟩,⟨h5,h6⟩,⟨h7,h8⟩,⟨h9,h10⟩,h11,h12,h13⟩
def nextM (a b:Me):Bool:=decide (b.at_ = a.at_ + a.size) && (decide (b.first = a.first + a.count) && decide (a.late≤b.early))
def rowM:Option Me → List Me → Bool
 | _,[]=>true
 | none,m :: l=>aloneB m && rowM (some m) l
 | some a,m :: l=>aloneB m && (nextM a m && rowM (some m) l)
def blocksV (l:List Me):Int:=if 1000 < l.length then 211 else if rowM none l = true then 0 else 211
theorem rowM_alone:∀ (l:List Me) (p:Option Me),rowM p l = true → ∀ m ∈ l,aloneB m = true
 | [],_,_,m,hm=>by simp at hm
 | a :: l,none,h,m,hm=>by
  simp only [rowM,Bool.and_eq_true] at h
  rcases List.mem_cons.1 hm with rfl | hm
  ·exact h.1
  ·exact rowM_alone l _ h.2 m hm
 | a :: l,some q,h,m,hm=>by
  simp only [rowM,Bool.and_eq_true] at h
  rcases List.mem_cons.1 hm with rfl | hm
  ·exact h.1
  ·exact rowM_alone l _ h.2.2 m hm
theorem blocksV_ok {l:List Me} (h:blocksV l = 0):l.length≤1000∧rowM none l = true∧∀ m ∈ l,aloneB m = true:=by
 unfold blocksV at h
 by_cases h1:1000 < l.length
 ·rw [if_pos h1] at h;simp at h
 ·rw [if_neg h1] at h
  by_cases h2:rowM none l = true
  ·exact ⟨by omega,h2,rowM_alone l _ h2⟩
  ·rw [if_neg h2] at h;simp at h
end HedW
end Go.Proofs.YtnpncpoiiikafaaGreat
namespace Go.Proofs.YtnpncpoiiikafaaGreat
open Go.RowKit
namespace Bld
theorem sizeBuilder:∃ j,Tryz.prog.info? 112 = some j∧j.size = 2:=by
 have h:(Tryz.prog.info? 112).map (·.size) = some 2:=by kernel_rfl
 exact Option.map_eq_some_iff.1 h
theorem liesBuilder:liesAt Tryz.prog Tryz.prog.depth 112 (2 / Tryz.prog.cellsOf 112) 0 112 1 = true:=by kernel_rfl
theorem infoByte:(Tryz.prog.info? 5).map (fun i=>(i.zero,i.size,i.bytes)) = some (some (.int .u8 0),1,1):=by kernel_rfl
theorem copyCheck_used (b:Nat) (w:World) (h0:w.cell? ⟨b,0,none⟩ = some (.pointer (some ⟨b,0,none⟩))) :
 Calls Tryz.prog 116 #[.pointer (some ⟨b,0,none⟩)] w fun e w'=>e = .returned (.tuple #[])∧w' = w:=by
 obtain ⟨j,hj,_⟩:=sizeBuilder
 go_enter Tryz.func116,Tryz.ntmps116
 go_wp2_with fail
 rw [Lib.run_neq_ptr_same w _ Tryz.underlying110 hj]
 go_wp2_with fail
 go_end0
 exact ⟨rfl,rfl⟩
theorem copyCheck_fresh (b:Nat) (w:World) (h0:w.cell? ⟨b,0,none⟩ = some (.pointer none)) (hsh:w.shape? b = some (112,2)) (hfz:w.frozen? ⟨b,0,none⟩ = false) :
 Calls Tryz.prog 116 #[.pointer (some ⟨b,0,none⟩)] w fun e w'=>e = .returned (.tuple #[])∧w' = w.setCell ⟨b,0,none⟩ (.pointer (some ⟨b,0,none⟩)):=by
 obtain ⟨j,hj,hjs⟩:=sizeBuilder
 go_enter Tryz.func116,Tryz.ntmps116
 go_wp2_with fail
 rw [Lib.run_to_unsafe w ⟨b,0,none⟩ Tryz.underlying110 Tryz.underlying235 hj (by rw [hjs];decide) hsh (Nat.zero_lt_succ 1)]
 simp only [Result.andThen]
 rw [Oper.upon_value]
 go_wp2_with fail
 rw [run_callFunc_extern Tryz.func162 (by kernel_rfl) (by kernel_rfl) (by kernel_rfl) (e:=Extern.AbiNoEscape.same) (by kernel_rfl)]
 rw [Lib.run_noEscape]
 simp only [Result.andThen]
 rw [Oper.upon_value]
 go_wp2_with fail
 rw [Lib.run_from_unsafe w ⟨b,0,none⟩ Tryz.underlying235 Tryz.underlying110 hj hsh liesBuilder]
 simp only [Result.andThen]
 rw [Oper.upon_value]
 go_wp2_with fail
 go_end0
 exact ⟨rfl,rfl⟩
theorem copyCheck_any (B b:Nat) (bs:List Value) (w:World) (h:Lib.IsBuilder 112 5 B b bs w) :
 Calls Tryz.prog 116 #[.pointer (some ⟨b,0,none⟩)] w fun e w'=>e = .returned (.tuple #[])∧(Lib.BuilderAt 112 5 B b (.pointer (some ⟨b,0,none⟩)) bs w'∧Below B w w'):=by
 rcases h with h | h
 ·refine (copyCheck_fresh b w h.cell0 h.shape h.frozen0).mono ?_
  rintro e w' ⟨rfl,rfl⟩
  exact ⟨rfl,h.used _,(Below.refl B w).setCell (p:=⟨b,0,none⟩) h.1 _⟩
 ·refine (copyCheck_used b w h.cell0).mono ?_
  rintro e w' ⟨rfl,rfl⟩
  exact ⟨rfl,h,Below.refl B _⟩
def Bl (B b:Nat) (l:List UInt8) (w:World):Prop:=Lib.IsBuilder 112 5 B b (byts l) w
theorem Bl.fresh (w:World):Bl w.heap.size w.heap.size [] (w.alloc (.cells #[.pointer none,.slice none 0 0] 112)) :=
 .inl ⟨Nat.le_refl _,_,heap_alloc_new w _,World.ownsRow_nil _ _ _ _,by simp [Value.ownBlock]⟩
theorem Bl.lt {B b:Nat} {l:List UInt8} {w:World} (h:Bl B b l w):b < w.heap.size:=by rcases h with h | h <;> exact h.lt
theorem Bl.below {B b:Nat} {l:List UInt8} {w w':World} (h:Bl B b l w) (hb:Below w.heap.size w w'):Bl B b l w':=by
 have key:∀ p,Lib.BuilderAt 112 5 B b p (byts l) w → Lib.BuilderAt 112 5 B b p (byts l) w':=by
  intro p hp
  have hlt:=hp.lt
  obtain ⟨hB,v,hbk,hown,hne⟩:=hp
  exact ⟨hB,v,(hb.block b hlt).trans hbk,World.ownsRow.kept hown (grown_of_below hb) (by cases v.ownBlock <;> simp),hne⟩
 exact h.elim (fun x=>.inl (key _ x)) (fun x=>.inr (key _ x))
theorem write_any (B b:Nat) (l s:List UInt8) (w:World) (h:Bl B b l w) (hlen:l.length + s.length≤140737488355328) (hBw:B≤w.heap.size) :
 Calls Tryz.prog 57 #[.pointer (some ⟨b,0,none⟩),str s] w fun e w'=>e = .returned (.tuple #[.int .i64 s.length,.nilIface])∧Bl B b (l ++ s) w'∧Below B w w':=by
 obtain ⟨i0,hi,hz0,hz1,hz2⟩:=info_parts infoByte
 go_enter Tryz.func57,Tryz.ntmps57
 go_wp2_with fail
 refine (copyCheck_any B b (byts l) _ h).mono ?_
 rintro e w1 ⟨rfl,h1,hb1⟩
 obtain ⟨hB,v,hbk,hown,hne⟩:=h1
 have hl:(byts l).length = l.length:=by simp [byts]
 rw [hl] at hown
 have c0:w1.cell? ⟨b,0,none⟩ = some (.pointer (some ⟨b,0,none⟩)):=by rw [Lib.cell_of_heap hbk];rfl
 have c1:w1.cell? ⟨b,1,none⟩ = some v:=by rw [Lib.cell_of_heap hbk];rfl
 clear hl
 go_wp2_with (at_builtin;refine Lib.wpList_append_own_string _ rfl _ _ 99 9 rfl B 5 i0 Tryz.underlying99 Tryz.underlying9 hi hz0 hz1 hz2 _ _ _ rfl hown ⟨s.toArray⟩ rfl ?c3 ?c4 ?c5 ?_)
 case c3=>show l.length + s.toArray.size≤maxLen;unfold maxLen;simp;omega
 case c4=>show l.length + s.toArray.size≤_;simp;omega
 case c5=>have:=hb1.size;omega
 intro v' w2 hown' hgrow _
 have hlt:b < w1.heap.size:=by
  rcases Nat.lt_or_ge b w1.heap.size with h' | h'
  ·exact h'
  ·simp [Array.getElem?_eq_none h'] at hbk
 have hb2:w2.heap[b]? = some (.cells #[.pointer (some ⟨b,0,none⟩),v] 112 (0,0)):=by
  rw [hgrow.block b hlt (fun e=>hne e.symm)]
  exact hbk
 have d0:w2.cell? ⟨b,0,none⟩ = some (.pointer (some ⟨b,0,none⟩)):=by rw [Lib.cell_of_heap hb2];rfl
 have d1:w2.cell? ⟨b,1,none⟩ = some v:=by rw [Lib.cell_of_heap hb2];rfl
 have f1:w2.frozen? ⟨b,1,none⟩ = false:=Lib.frozen_of_heap hb2 1
 obtain ⟨ao,n',cap,rfl⟩:∃ ao n' cap,v' = .slice ao n' cap:=by
  rcases hown'.2 with ⟨hv,_⟩ | ⟨g,cap,cur,hv,_⟩
  ·exact ⟨_,_,_,hv⟩
  ·exact ⟨_,_,_,hv⟩
 have hss:byts l ++ Lib.strCells ⟨s.toArray⟩ = byts (l ++ s):=by simp [Lib.strCells,byts,byt]
 have hll:l.length + s.length = (byts (l ++ s)).length:=by simp [byts]
 rw [hss,hll] at hown'
 clear hss hll
 go_wp2_with fail
 go_ret2
 refine ⟨rfl,.inr ?_,?_⟩
 ·exact Lib.BuilderAt.put hB hb2 hown' (by decide)
 ·have hb3:Below B w w2:=Below.grown hb1 hgrow (by have:=hb1.size;omega) (fun k hk=>by
   rcases hown.2 with ⟨rfl,_⟩ | ⟨g,cap,cur,rfl,hg,_⟩
   ·cases hk
   ·simp [Value.ownBlock] at hk;omega)
  exact hb3.setCell (p:=⟨b,1,none⟩) hB _
theorem text_any (B b:Nat) (l:List UInt8) (w:World) (h:Bl B b l w) (h0:l ≠ []) :
 Calls Tryz.prog 58 #[.pointer (some ⟨b,0,none⟩)] w fun e w'=>e = .returned (str l)∧Below B w w':=by
 obtain ⟨p,hB,v,hbk,hown,hne⟩:∃ p,Lib.BuilderAt 112 5 B b p (Lib.byteCells l) w:=by
  rcases h with h | h
  ·exact ⟨_,h⟩
  ·exact ⟨_,h⟩
 have hl0:l.length ≠ 0:=by simpa using h0
 rw [Lib.byteCells_length] at hown
 obtain ⟨g,cap,cur,rfl,hbg,hg,hnc,hcm,hcs,htake⟩:∃ g cap cur,v = .slice (some ⟨g,0,none⟩) l.length cap∧B≤g∧w.heap[g]? = some (.cells cur 5 (0,0))∧l.length≤cap∧cap≤maxLen∧cur.size = cap * 1∧cur.toList.take (l.length * 1) = Lib.byteCells l:=by
  rcases hown.2 with ⟨_,hz⟩ | ⟨g,cap,cur,hv,r⟩
  ·exact absurd hz hl0
  ·exact ⟨g,cap,cur,hv,r⟩
 have c1:w.drew.cell? ⟨b,1,none⟩ = some (.slice (some ⟨g,0,none⟩) l.length cap):=by
  have:w.drew.heap[b]? = some (.cells #[p,.slice (some ⟨g,0,none⟩) l.length cap] 112 (0,0)):=hbk
  rw [Lib.cell_of_heap this];rfl
 have hSD:(Builtin.unsafeSliceData_ #[99] 182 #[.slice (some ⟨g,0,none⟩) l.length cap]).run Tryz.prog w.drew = .ok (.pointer (some ⟨g,0,none⟩)) w.drew :=
  Lib.run_unsafeSliceData_row _ _ _ _ _ _ (by omega)
 have hUS:(Builtin.unsafeString_ #[182,3] 9 #[.pointer (some ⟨g,0,none⟩),.int .i64 l.length]).run Tryz.prog w.drew = .ok (.string ⟨l.toArray⟩) (w.drew.freeze ⟨g,0,none⟩ l.length):=by
  refine Lib.run_unsafeString_row w.drew 182 3 9 5 Tryz.underlying182 (by kernel_rfl) g cur.size (by have hg':w.drew.heap[g]? = some (.cells cur 5 (0,0)):=hg;simp [World.shape?,hg']) l h0 (by omega) (by unfold maxLen at hcm;omega) ?_
  intro j x hx
  have:=hown.cells (g:=g) rfl j (.int .u8 x.toNat) (by simp [Lib.byteCells,hx])
  exact this
 clear hl0 htake hcs hnc hcm hown hbk h
 go_enter Tryz.func58,Tryz.ntmps58
 go_wp2_with fail
 go_region
 all_goals (go_wp2_with fail;go_ret;exact ⟨rfl,Lib.below_freeze (Below.drew (Below.refl B w)) (p:=⟨g,0,none⟩) hbg _⟩)
end Bld
end Go.Proofs.YtnpncpoiiikafaaGreat
namespace Go.Proofs.YtnpncpoiiikafaaGreat
open Go.RowKit
namespace HedW
open SkpW (Me En hc hcheck_any chkH)
open SufW (w64s)
theorem lput_ne {l:List Int} (h:0 < l.length):lput l ≠ []:=by
 match l,h with
 | n :: l,_ =>
  rw [lput_cons]
  intro e
  have:=congrArg List.length e
  have h1:=vlen_pos n.toNat
  rw [List.length_append,vbytes_len,List.length_nil] at this
  omega
theorem numbers_any (A:Option Addr) (n c:Nat) (l:List Int) (w:World) (h:Rd w w.heap.size 1 A n (ints l)) (hn:n≤100000) (hl:∀ x ∈ l,0≤x∧x≤9223372036854775807) (h0:0 < n) :
 Calls Tryz.prog 51 #[.slice A n c] w fun e w'=>e = .returned (.tuple #[str (lput l),.int .i64 0])∧Below w.heap.size w w':=by
 have hln:l.length = n:=rd_len h
 have HL:=Lib.hid hl
 have HN:=Lib.hid hln
 clear hl hln
 go_enter Tryz.func51,Tryz.ntmps51
 go_wp2_with fail
 have hBl:=Bld.Bl.fresh w
 have HB:=(Below.refl w.heap.size w).alloc (Nat.le_refl _) (.cells #[.pointer none,.slice none 0 0] 112)
 obtain ⟨bb,hbb⟩:∃ bb,w.heap.size = bb:=⟨_,rfl⟩
 have zb:w.heap.size≤bb:=by omega
 rw [hbb] at hBl
 rw [hbb]
 generalize w.alloc (.cells #[.pointer none,.slice none 0 0] 112) = w0 at *
 clear hbb
 go_loopw [11] (fun i wr=>∃ k:Nat,i = .int .i64 k∧k≤n∧(lput (l.take k)).length≤9 * k∧Bld.Bl bb bb (lput (l.take k)) wr∧Below w.heap.size w wr) (fun i _=>n - (intOf i).toNat)
 case atStart=>exact ⟨0,rfl,by omega,by simp [lput],hBl,HB⟩
 case round =>
  clear hBl HB
  obtain ⟨k,rfl,hk,hlk,hB,hbw⟩:=hrel
  have hsz:=hbw.size
  have hbl:=hB.lt
  by_cases hlt:k < n
  ·have hkl:k < l.length:=by rw [HN.out];exact hlt
   obtain ⟨b,o,rfl,hb,hcc⟩:=(h.below hbw).at_ (by omega)
   obtain ⟨v,hv⟩:∃ v:Nat,l[k] = (v:Int):=⟨l[k].toNat,by have:=HL.out l[k] (List.getElem_mem hkl);omega⟩
   have hvb:v≤9223372036854775807:=by have:=HL.out l[k] (List.getElem_mem hkl);omega
   have cx:wr.cell? ⟨b,o + k,none⟩ = some (.int .i64 (v:Nat)):=by
    rw [hcc k (by rw [ints_len];exact hkl)]
    simp [ints,hv]
   have HS:=Lib.hid (lput_snoc l k hkl)
   rw [hv,Int.toNat_natCast] at HS
   have hkI:(k:Int) < (n:Int):=by omega
   have hk0:(0:Int)≤(k:Int):=by omega
   have hk1:IntKind.i64.wrap ((k:Int) + 1) = (k:Int) + 1:=w64s (by omega) (by omega)
   have hvl:(vbytes v).length≤9:=by rw [vbytes_len];exact vlen_le v
   have C:=VarW.put_yes v wr hvb
   generalize lput (l.take k) = fl at *
   clear hcc hv hvb
   go_wp2_with fail
   refine C.mono ?_
   clear C
   rintro e w2 ⟨rfl,hb2⟩
   replace hB:=hB.below hb2
   replace hbw:=hbw.trans (hb2.mono hsz)
   have hbl2:=hB.lt
   clear hb2 cx
   go_wp2_with fail
   refine (Bld.write_any bb bb fl (vbytes v) w2 hB (by omega) (Nat.le_of_lt hB.lt)).mono ?_
   rintro e w5 ⟨rfl,hB5,hb5⟩
   go_wp2_with fail
   go_roundw
   case rel=>exact ⟨k + 1,by go_num,by omega,by rw [HS.out,List.length_append];omega,by rw [HS.out];exact hB5,hbw.trans (hb5.mono zb)⟩
   case measure=>simp [intOf];omega
  ·have hkI:¬ (k:Int) < (n:Int):=by omega
   have hz:=Lib.hid (show l.take k = l from List.take_of_length_le (by rw [HN.out];omega))
   rw [hz.out] at hB
   have C:=Bld.text_any bb bb _ wr hB (lput_ne (by rw [HN.out];exact h0))
   obtain ⟨fl,hfl⟩:∃ fl,lput l = fl:=⟨_,rfl⟩
   rw [hfl] at C
   have HF:=Lib.hid hfl
   clear hfl hz hB
   go_wp2_with fail
   refine C.mono ?_
   clear C
   rintro e w6 ⟨rfl,hb6⟩
   go_wp2_with fail
   go_ret2
   exact ⟨by rw [HF.out];rfl,hbw.trans (hb6.mono zb)⟩
def enH (i g f:Int):En:=⟨i,g,f,false,0,0,0,0,0⟩
theorem Check_any (i g f v:Int) (hv:(if headB i g f then 0 else 210) = v) (w:World) :
 Calls Tryz.prog 50 #[.agg #[.int .i64 i,.int .i64 g,.int .i64 f]] w fun e w'=>e = .returned (.int .i64 v)∧Below w.heap.size w w' :=
 hcheck_any (enH i g f) v hv w
theorem headB_in {i g f:Int} (h:headB i g f = true):1≤i∧i≤999999∧1≤g∧g≤999999∧1≤f∧f≤1000000000:=by
 simp only [headB,inB,Bool.and_eq_true,decide_eq_true_eq] at h
 omega
theorem Put_yes (i g f:Int) (w:World) (hh:headB i g f = true) :
 Calls Tryz.prog 16 #[.agg #[.int .i64 i,.int .i64 g,.int .i64 f]] w fun e w'=>e = .returned (.tuple #[str (lput [i,g,f]),.int .i64 0])∧Below w.heap.size w w':=by
 have C:=fun w=>Check_any i g f 0 (by rw [hh];rfl) w
 have hin:=headB_in hh
 have HC:=Lib.hid C
 have HI:=Lib.hid hin
 clear C hin hh
 have B:=Blk.new w 23 #[.int .i64 i,.int .i64 g,.int .i64 f]
 have HB:Below w.heap.size w (w.alloc (.cells #[.int .i64 i,.int .i64 g,.int .i64 f] 23)):=(Below.refl w.heap.size w).alloc (Nat.le_refl _) _
 obtain ⟨c0,c1,c2,_,_,_,_⟩:=blk3 B
 go_enter Tryz.func16,Tryz.ntmps16
 go_wp2_with fail
 refine (HC.out _).mono ?_
 clear HC c0 c1 c2
 rintro e w1 ⟨rfl,hb1⟩
 replace B:=B.below hb1 B.lt
 replace HB:=HB.trans (hb1.mono HB.size)
 clear hb1
 obtain ⟨c0,c1,c2,_,_,_,_⟩:=blk3 B
 have R:=rd_new (W0:=w1) (t:=3) (g:=w1.heap.size) (m:=3) (size:=1) (cs:=ints [i,g,f]) rfl rfl
 have HB2:=HB.alloc HB.size (.cells (ints [i,g,f]).toArray 3)
 have hsz:w1.heap.size + 1 = (w1.alloc (.cells (ints [i,g,f]).toArray 3)).heap.size:=by simp
 rw [hsz] at R
 have C:=numbers_any _ 3 3 [i,g,f] _ R (by omega) (by have:=HI.out;intro x hx;simp only [List.mem_cons,List.not_mem_nil,or_false] at hx;rcases hx with rfl | rfl | rfl <;> omega) (by omega)
 clear R hsz HI
 go_wp2_with fail
 refine C.mono ?_
 clear C
 rintro e w2 ⟨rfl,hb2⟩
 replace HB2:=HB2.trans (hb2.mono HB2.size)
 go_wp2_with fail
 go_ret2
 exact ⟨rfl,HB2⟩
theorem Put_no (i g f:Int) (w:World) (hh:headB i g f = false) :
 Calls Tryz.prog 16 #[.agg #[.int .i64 i,.int .i64 g,.int .i64 f]] w fun e w'=>e = .returned (.tuple #[str [],.int .i64 210])∧Below w.heap.size w w':=by
 have C:=fun w=>Check_any i g f 210 (by rw [hh];rfl) w
 have HC:=Lib.hid C
 clear C hh
 have B:=Blk.new w 23 #[.int .i64 i,.int .i64 g,.int .i64 f]
 have HB:Below w.heap.size w (w.alloc (.cells #[.int .i64 i,.int .i64 g,.int .i64 f] 23)):=(Below.refl w.heap.size w).alloc (Nat.le_refl _) _
 obtain ⟨c0,c1,c2,_,_,_,_⟩:=blk3 B
 go_enter Tryz.func16,Tryz.ntmps16
 go_wp2_with fail
 refine (HC.out _).mono ?_
 clear HC c0 c1 c2
 rintro e w1 ⟨rfl,hb1⟩
 replace HB:=HB.trans (hb1.mono HB.size)
 go_wp2_with fail
 go_ret2
 exact ⟨rfl,HB⟩
end HedW
end Go.Proofs.YtnpncpoiiikafaaGreat
