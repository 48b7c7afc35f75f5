/- TakR -/
import Derived.Test.YtnpncpoiiikafaaGreatSqPQt
import Derived.Test.YtnpncpoiiikafaaGreatVarFQt
import Derived.Test.YtnpncpoiiikafaaGreatAppQt
import Derived.Test.YtnpncpoiiikafaaGreatZruPQt
import Derived.Test.YtnpncpoiiikafaaGreatLenBQt
import Derived.Test.YtnpncpoiiikafaaGreatSufPQt
set_option linter.unusedVariables false
set_option linter.unusedSimpArgs false
set_option linter.unnecessarySimpa false
set_option maxRecDepth 100000
set_option maxHeartbeats 32000000
namespace Go.Proofs.YtnpncpoiiikafaaGreat
open Go.RowKit
namespace TakW
structure Kept (w w':World) (bl g:Nat):Prop where
 os:w'.os = w.os
 tape:w'.tape = w.tape
 output:w'.output = w.output
 size:w.heap.size≤w'.heap.size
 block:∀ k,k < w.heap.size → k ≠ bl → k ≠ g → w'.heap[k]? = w.heap[k]?
theorem Kept.refl (w:World) (bl g:Nat):Kept w w bl g:=⟨rfl,rfl,rfl,Nat.le_refl _,fun _ _ _ _=>rfl⟩
theorem Kept.grown {w w1 w2:World} {bl g:Nat} {row:Option Nat} (h:Kept w w1 bl g) (hg:w1.grownBy w2 row) (hr:∀ k,row = some k → k = bl ∨ k = g ∨ w.heap.size≤k):Kept w w2 bl g :=
 ⟨hg.os.trans h.os,hg.tape.trans h.tape,hg.output.trans h.output,Nat.le_trans h.size hg.size,fun k hk h1 h2 =>
  (hg.block k (Nat.lt_of_lt_of_le hk h.size) (fun e=>by rcases hr k e.symm with e | e | e <;> first | exact h1 e | exact h2 e | omega)).trans (h.block k hk h1 h2)⟩
theorem grown_set (w:World) (g i:Nat) (v:Value):w.grownBy (w.setCell ⟨g,i,none⟩ v) (some g) :=
 ⟨rfl,rfl,rfl,by simp [World.setCell],fun k _ hne=>Below.heap_setCell _ _ _ k (fun e=>hne (by rw [e]))⟩
theorem grown_new (w:World) (o:Obj):w.grownBy (w.alloc o) none:=⟨rfl,rfl,rfl,by simp,fun k hk _=>Below.heap_alloc w o k hk⟩
theorem grown_drew (w:World):w.grownBy w.drew none:=⟨rfl,rfl,rfl,Nat.le_refl _,fun _ _ _=>rfl⟩
theorem Kept.below {w w':World} {bl g B:Nat} (h:Kept w w' bl g) (hB:B≤w.heap.size) (h1:B≤bl) (h2:B≤g):Below B w w' :=
 ⟨h.os,h.tape,h.output,h.size,fun k hk=>h.block k (by omega) (by omega) (by omega)⟩
theorem Kept.blk {w w':World} {bl g b:Nat} {t:TypeId} {cs:Array Value} (h:Kept w w' bl g) (hb:Blk w b t cs) (h1:b ≠ bl) (h2:b ≠ g):Blk w' b t cs:=(h.block b hb.lt h1 h2).trans hb
end TakW
end Go.Proofs.YtnpncpoiiikafaaGreat
namespace Go.Proofs.YtnpncpoiiikafaaGreat
open Go.RowKit
namespace ClW
open TakW (tk flt Fell grown_new grown_drew caughtK_ok caughtK_no)
structure Cl (w wr:World) (c:Nat) (L:List (TypeId × Array Value)):Prop where
 fr:∀ i x,L[i]? = some x → Blk wr (c + i) x.1 x.2
 os:wr.os = w.os
 tape:wr.tape = w.tape
 output:wr.output = w.output
 size:w.heap.size≤wr.heap.size
 block:∀ k,k < w.heap.size → (k < c ∨ c + L.length≤k) → wr.heap[k]? = w.heap[k]?
 hc:c + L.length≤w.heap.size
section
variable {w wr w1:World} {c:Nat} {L:List (TypeId × Array Value)}
theorem Cl.init (h:∀ i x,L[i]? = some x → Blk w (c + i) x.1 x.2) (hc:c + L.length≤w.heap.size):Cl w w c L:=⟨h,rfl,rfl,rfl,Nat.le_refl _,fun _ _ _=>rfl,hc⟩
theorem Cl.drew (h:Cl w wr c L):Cl w wr.drew c L:=⟨fun i x hx=>(h.fr i x hx).drew,h.os,h.tape,h.output,h.size,h.block,h.hc⟩
theorem Cl.drewN (h:Cl w wr c L) (n:Nat):Cl w (wr.drewN n) c L:=⟨fun i x hx=>(h.fr i x hx).drewN n,h.os,h.tape,h.output,h.size,h.block,h.hc⟩
theorem Cl.grown {row:Option Nat} (h:Cl w wr c L) (hg:wr.grownBy w1 row) (hr:∀ k,row = some k → w.heap.size≤k):Cl w w1 c L :=
 ⟨fun i x hx=>(h.fr i x hx).grown hg (fun e=>by
  have h1:=hr _ e.symm
  obtain ⟨h2,_⟩:=List.getElem?_eq_some_iff.1 hx
  have:=h.hc
  omega),hg.os.trans h.os,hg.tape.trans h.tape,hg.output.trans h.output,Nat.le_trans h.size hg.size,fun k hk h1 =>
  (hg.block k (Nat.lt_of_lt_of_le hk h.size) (fun e=>by have:=hr k e.symm;omega)).trans (h.block k hk h1),h.hc⟩
theorem Cl.alloc (h:Cl w wr c L) (o:Obj):Cl w (wr.alloc o) c L:=h.grown (row:=none) (grown_new wr o) (by simp)
theorem Cl.below (h:Cl w wr c L) (hb:Below wr.heap.size wr w1):Cl w w1 c L:=h.grown (grown_of_below hb) (by simp)
theorem Cl.other {i:Nat} {x:TypeId × Array Value} {cs:Array Value} (h:Cl w wr c L) (hi:L[i]? = some x) (hB:Blk w1 (c + i) x.1 cs) (hg:wr.grownBy w1 (some (c + i))):Cl w w1 c (L.set i (x.1,cs)):=by
 obtain ⟨h2,_⟩:=List.getElem?_eq_some_iff.1 hi
 have hc:=h.hc
 refine ⟨fun j y hy=>?_,hg.os.trans h.os,hg.tape.trans h.tape,hg.output.trans h.output,Nat.le_trans h.size hg.size,fun k hk h1=>?_,by rw [List.length_set];exact hc⟩
 ·by_cases e:i = j
  ·subst e
   rw [List.getElem?_set_self h2] at hy
   obtain rfl:=Option.some.inj hy
   exact hB
  ·rw [List.getElem?_set_ne e] at hy
   exact (h.fr j y hy).grown hg (fun e2=>e (by have:=Option.some.inj e2;omega))
 ·rw [List.length_set] at h1
  exact (hg.block k (Nat.lt_of_lt_of_le hk h.size) (fun e=>by have:=Option.some.inj e;omega)).trans (h.block k hk h1)
theorem Cl.set {i:Nat} {x:TypeId × Array Value} (h:Cl w wr c L) (hi:L[i]? = some x) (k:Nat) (v:Value):Cl w (wr.setCell ⟨c + i,k,none⟩ v) c (L.set i (x.1,x.2.setIfInBounds k v)) :=
 h.other hi ((h.fr i x hi).set k v) (TakW.grown_set wr (c + i) k v)
theorem Cl.left {i:Nat} {s:List UInt8} {q q1:Int} (h:Cl w wr c L) (hi:L[i]? = some (145,tk s q)) (hL:TakW.Left wr w1 (c + i) s q1):Cl w w1 c (L.set i (145,tk s q1)) :=
 h.other (x:=(145,tk s q)) hi hL.1 hL.2
theorem Cl.low (h:Cl w wr c L):Below c w wr:=⟨h.os,h.tape,h.output,h.size,fun k hk=>h.block k (by have:=h.hc;omega) (.inl hk)⟩
theorem Cl.blk (h:Cl w wr c L) {g:Nat} {t:TypeId} {cs:Array Value} (hb:Blk w g t cs) (hg:g < c ∨ c + L.length≤g):Blk wr g t cs:=(h.block g hb.lt hg).trans hb
end
theorem Cl.fell {w w1 w':World} {c:Nat} {L:List (TypeId × Array Value)} {er at_:Int} (h:Cl ((w.alloc (.cells #[.int .i64 0] 26)).alloc (.cells #[.int .i64 0] 3)) w1 c L) (hc:c + L.length≤w.heap.size)
 (F:Fell w1 w' w.heap.size (w.heap.size + 1) er at_):(∀ i x,L[i]? = some x → Blk w' (c + i) x.1 x.2)∧Below c w w':=by
 have hz:((w.alloc (.cells #[.int .i64 0] 26)).alloc (.cells #[.int .i64 0] 3)).heap.size = w.heap.size + 2:=by simp
 have B0:Below c w ((w.alloc (.cells #[.int .i64 0] 26)).alloc (.cells #[.int .i64 0] 3)):=((Below.refl c w).alloc (by omega) _).alloc (by simp;omega) _
 have hs:=h.size
 rw [hz] at hs
 refine ⟨fun i x hx=>?_,F.below (B0.trans h.low) (by omega) (by omega) (by omega)⟩
 obtain ⟨h2,_⟩:=List.getElem?_eq_some_iff.1 hx
 exact F.blk (h.fr i x hx) (by omega) (by omega)
theorem Cl.cells {w w1:World} {c:Nat} {L:List (TypeId × Array Value)} (h:Cl ((w.alloc (.cells #[.int .i64 0] 26)).alloc (.cells #[.int .i64 0] 3)) w1 c L) (hc:c + L.length≤w.heap.size) :
 Blk w1 w.heap.size 26 #[.int .i64 0]∧Blk w1 (w.heap.size + 1) 3 #[.int .i64 0]:=by
 refine ⟨h.blk ((Blk.new w _ _).alloc _) (by omega),h.blk ?_ (by omega)⟩
 have:=Blk.new (w.alloc (.cells #[.int .i64 0] 26)) 3 #[.int .i64 0]
 rwa [World.size_alloc] at this
theorem Cl.start {w:World} {c:Nat} {L:List (TypeId × Array Value)} (h:∀ i x,L[i]? = some x → Blk w (c + i) x.1 x.2) (hc:c + L.length≤w.heap.size) :
 Cl ((w.alloc (.cells #[.int .i64 0] 26)).alloc (.cells #[.int .i64 0] 3)) ((w.alloc (.cells #[.int .i64 0] 26)).alloc (.cells #[.int .i64 0] 3)) c L :=
 Cl.init (fun i x hx=>((h i x hx).alloc _).alloc _) (by simp;omega)
def numV (g:Nat):Value:=.func (.func 35) #[.pointer (some ⟨g,0,none⟩)] #[]
end ClW
end Go.Proofs.YtnpncpoiiikafaaGreat
namespace Go.Proofs.YtnpncpoiiikafaaGreat
namespace SufW
def cntK (key:Nat → Nat) (l:List Nat) (k:Nat):Nat:=l.countP fun p=>key p == k
def lessK (key:Nat → Nat) (l:List Nat):Nat → Nat
 | 0=>0
 | k + 1=>lessK key l k + cntK key l k
def rowC (key:Nat → Nat) (most:Nat) (l:List Nat):List Nat:=(List.range (most + 2)).map fun x=>if x = 0 then 0 else cntK key l (x - 1)
def rowS (key:Nat → Nat) (most:Nat) (l:List Nat) (i:Nat):List Nat:=(List.range (most + 2)).map fun x=>if x≤i then lessK key l x else cntK key l (x - 1)
def rowP (key:Nat → Nat) (most:Nat) (l m:List Nat):List Nat:=(List.range (most + 2)).map fun x=>lessK key l x + cntK key m x
def segK (key:Nat → Nat) (l m:List Nat) (k:Nat):List Nat:=(m.filter fun p=>key p == k) ++ List.replicate (cntK key l k - cntK key m k) 0
def outC (key:Nat → Nat) (most:Nat) (l m:List Nat):List Nat:=(List.range (most + 1)).flatMap (segK key l m)
theorem rowC_len (key:Nat → Nat) (most:Nat) (l:List Nat):(rowC key most l).length = most + 2:=by simp [rowC]
theorem rowS_len (key:Nat → Nat) (most:Nat) (l:List Nat) (i:Nat):(rowS key most l i).length = most + 2:=by simp [rowS]
theorem rowP_len (key:Nat → Nat) (most:Nat) (l m:List Nat):(rowP key most l m).length = most + 2:=by simp [rowP]
theorem rowC_at (key:Nat → Nat) (most:Nat) (l:List Nat) (x:Nat) (h:x < most + 2):(rowC key most l)[x]? = some (if x = 0 then 0 else cntK key l (x - 1)):=by simp [rowC,h]
theorem rowS_at (key:Nat → Nat) (most:Nat) (l:List Nat) (i x:Nat) (h:x < most + 2):(rowS key most l i)[x]? = some (if x≤i then lessK key l x else cntK key l (x - 1)):=by simp [rowS,h]
theorem rowP_at (key:Nat → Nat) (most:Nat) (l m:List Nat) (x:Nat) (h:x < most + 2):(rowP key most l m)[x]? = some (lessK key l x + cntK key m x):=by simp [rowP,h]
theorem cnt_snoc (key:Nat → Nat) (m:List Nat) (p k:Nat):cntK key (m ++ [p]) k = cntK key m k + if key p = k then 1 else 0:=by
 simp [cntK,List.countP_append,List.countP_cons]
theorem rowC_nil (key:Nat → Nat) (most:Nat):rowC key most [] = List.replicate (most + 2) 0:=by
 apply List.ext_getElem?
 intro x
 by_cases h:x < most + 2
 ·rw [rowC_at key most [] x h,List.getElem?_replicate,if_pos h];simp [cntK]
 ·rw [List.getElem?_eq_none (by rw [rowC_len];omega),List.getElem?_eq_none (by simp;omega)]
theorem rowC_snoc (key:Nat → Nat) (most:Nat) (m:List Nat) (p:Nat) (hp:key p≤most):rowC key most (m ++ [p]) = (rowC key most m).set (key p + 1) (cntK key m (key p) + 1):=by
 apply List.ext_getElem?
 intro x
 by_cases h:x < most + 2
 ·rw [rowC_at _ _ _ _ h,List.getElem?_set,rowC_at _ _ _ _ h,rowC_len]
  by_cases e:key p + 1 = x
  ·subst e
   rw [if_pos rfl,if_pos h,cnt_snoc]
   simp
  ·rw [if_neg e,cnt_snoc]
   by_cases e0:x = 0
   ·simp [e0]
   ·rw [if_neg e0,if_neg e0,if_neg (by omega)];rfl
 ·rw [List.getElem?_eq_none (by rw [rowC_len];omega),List.getElem?_eq_none (by rw [List.length_set,rowC_len];omega)]
theorem rowS_zero (key:Nat → Nat) (most:Nat) (l:List Nat):rowS key most l 0 = rowC key most l:=by
 apply List.ext_getElem?
 intro x
 by_cases h:x < most + 2
 ·rw [rowC_at _ _ _ _ h,rowS_at _ _ _ _ _ h]
  by_cases e0:x = 0
  ·subst e0;simp [lessK]
  ·rw [if_neg e0,if_neg (by omega)]
 ·rw [List.getElem?_eq_none (by rw [rowS_len];omega),List.getElem?_eq_none (by rw [rowC_len];omega)]
theorem rowS_succ (key:Nat → Nat) (most:Nat) (l:List Nat) (i:Nat) (hi:i≤most):rowS key most l (i + 1) = (rowS key most l i).set (i + 1) (cntK key l i + lessK key l i):=by
 apply List.ext_getElem?
 intro x
 by_cases h:x < most + 2
 ·rw [rowS_at _ _ _ _ _ h,List.getElem?_set,rowS_at _ _ _ _ _ h,rowS_len]
  by_cases e:i + 1 = x
  ·subst e
   rw [if_pos rfl,if_pos h,if_pos (Nat.le_refl _),lessK,Nat.add_comm]
  ·rw [if_neg e]
   by_cases hx:x≤i
   ·rw [if_pos hx,if_pos (by omega)]
   ·rw [if_neg hx,if_neg (by omega)]
 ·rw [List.getElem?_eq_none (by rw [rowS_len];omega),List.getElem?_eq_none (by rw [List.length_set,rowS_len];omega)]
theorem rowP_nil (key:Nat → Nat) (most:Nat) (l:List Nat):rowP key most l [] = rowS key most l (most + 1):=by
 apply List.ext_getElem?
 intro x
 by_cases h:x < most + 2
 ·rw [rowP_at _ _ _ _ _ h,rowS_at _ _ _ _ _ h,if_pos (by omega)];simp [cntK]
 ·rw [List.getElem?_eq_none (by rw [rowP_len];omega),List.getElem?_eq_none (by rw [rowS_len];omega)]
theorem rowP_snoc (key:Nat → Nat) (most:Nat) (l m:List Nat) (p:Nat) (hp:key p≤most):rowP key most l (m ++ [p]) = (rowP key most l m).set (key p) (lessK key l (key p) + cntK key m (key p) + 1):=by
 apply List.ext_getElem?
 intro x
 by_cases h:x < most + 2
 ·rw [rowP_at _ _ _ _ _ h,List.getElem?_set,rowP_at _ _ _ _ _ h,rowP_len]
  by_cases e:key p = x
  ·subst e
   rw [if_pos rfl,if_pos h,cnt_snoc,if_pos rfl,Nat.add_assoc]
  ·rw [if_neg e,cnt_snoc,if_neg e];rfl
 ·rw [List.getElem?_eq_none (by rw [rowP_len];omega),List.getElem?_eq_none (by rw [List.length_set,rowP_len];omega)]
theorem seg_len (key:Nat → Nat) (l m:List Nat) (k:Nat) (h:cntK key m k≤cntK key l k):(segK key l m k).length = cntK key l k:=by
 rw [segK,List.length_append,List.length_replicate,← List.countP_eq_length_filter]
 show cntK key m k + _ = _
 omega
theorem flat_set (f g:Nat → List Nat) (v:Nat) (j:Nat):∀ (n k:Nat),k < n → (∀ i,i ≠ k → g i = f i) → j < (f k).length → g k = (f k).set j v →
 (List.range n).flatMap g = ((List.range n).flatMap f).set (((List.range k).flatMap f).length + j) v:=by
 intro n
 induction n with
 | zero=>intro k h;omega
 | succ n ih =>
  intro k hk hne hj hg
  rw [List.range_succ,List.flatMap_append,List.flatMap_append]
  simp only [List.flatMap_cons,List.flatMap_nil,List.append_nil]
  by_cases e:k = n
  ·subst e
   rw [hg,List.set_append_right _ _ (by omega)]
   congr 1
   ·rw [List.flatMap_def,List.flatMap_def,List.map_congr_left fun i hi=>hne i (by have:=List.mem_range.1 hi;omega)]
   ·congr 1
    omega
  ·have hl:((List.range k).flatMap f).length + j < ((List.range n).flatMap f).length:=by
    have hs:((List.range (k + 1)).flatMap f).length≤((List.range n).flatMap f).length:=by
     have:List.range n = List.range (k + 1) ++ (List.range n).drop (k + 1):=by
      have h1:=List.take_append_drop (k + 1) (List.range n)
      rw [List.take_range,Nat.min_eq_left (by omega)] at h1
      exact h1.symm
     rw [this,List.flatMap_append,List.length_append];omega
    rw [List.range_succ,List.flatMap_append,List.length_append] at hs
    simp only [List.flatMap_cons,List.flatMap_nil,List.append_nil] at hs
    omega
   rw [List.set_append_left _ _ hl,← ih k (by omega) hne hj hg,hne n (by omega)]
theorem seg_sum (key:Nat → Nat) (l m:List Nat) (h:∀ k,cntK key m k≤cntK key l k):∀ n,((List.range n).flatMap (segK key l m)).length = lessK key l n
 | 0=>rfl
 | n + 1=>by
  rw [List.range_succ,List.flatMap_append,List.length_append,seg_sum key l m h n]
  simp only [List.flatMap_cons,List.flatMap_nil,List.append_nil]
  rw [seg_len key l m n (h n),lessK]
theorem outC_len (key:Nat → Nat) (most:Nat) (l m:List Nat) (h:∀ k,cntK key m k≤cntK key l k) (hl:∀ p ∈ l,key p≤most):(outC key most l m).length = l.length:=by
 rw [← csort_len key l most hl]
 unfold outC csort
 have e:∀ n,((List.range n).flatMap (segK key l m)).length = ((List.range n).flatMap fun k=>l.filter fun p=>key p == k).length:=by
  intro n
  induction n with
  | zero=>rfl
  | succ n ih =>
   rw [List.range_succ,List.flatMap_append,List.flatMap_append,List.length_append,List.length_append,ih]
   simp only [List.flatMap_cons,List.flatMap_nil,List.append_nil]
   rw [seg_len key l m n (h n),← List.countP_eq_length_filter];rfl
 exact e (most + 1)
theorem outC_snoc (key:Nat → Nat) (most:Nat) (l m:List Nat) (p:Nat) (hp:key p≤most) (h:∀ k,cntK key (m ++ [p]) k≤cntK key l k) :
 outC key most l (m ++ [p]) = (outC key most l m).set (lessK key l (key p) + cntK key m (key p)) p:=by
 have hm:∀ k,cntK key m k≤cntK key l k:=fun k=>by have:=h k;rw [cnt_snoc] at this;omega
 have hk:=h (key p)
 rw [cnt_snoc,if_pos rfl] at hk
 have hf:(m.filter fun q=>key q == key p).length = cntK key m (key p):=by rw [← List.countP_eq_length_filter];rfl
 unfold outC
 rw [flat_set (segK key l m) (segK key l (m ++ [p])) p (cntK key m (key p)) (most + 1) (key p) (by omega),seg_sum key l m hm]
 ·intro i hi
  unfold segK
  rw [cnt_snoc,if_neg (fun e=>hi e.symm),List.filter_append]
  have hn:¬ key p = i:=fun e=>hi e.symm
  simp [hn]
 ·rw [seg_len key l m _ (hm _)];omega
 ·unfold segK
  rw [cnt_snoc,if_pos rfl,List.filter_append]
  have e1:([p].filter fun q=>key q == key p) = [p]:=by simp
  rw [e1,List.set_append_right _ _ (by omega),hf,Nat.sub_self]
  have e2:cntK key l (key p) - cntK key m (key p) = (cntK key l (key p) - (cntK key m (key p) + 1)) + 1:=by omega
  rw [e2,List.replicate_succ,List.set_cons_zero,List.append_assoc]
  rfl
theorem outC_nil (key:Nat → Nat) (most:Nat) (l:List Nat) (hl:∀ p ∈ l,key p≤most):outC key most l [] = List.replicate l.length 0:=by
 have hlen:=outC_len key most l [] (fun k=>by simp [cntK]) hl
 refine List.eq_replicate_iff.2 ⟨hlen,fun x hx=>?_⟩
 simp only [outC,List.mem_flatMap,segK,List.filter_nil,List.nil_append] at hx
 obtain ⟨k,_,hx⟩:=hx
 exact (List.mem_replicate.1 hx).2
theorem outC_all (key:Nat → Nat) (most:Nat) (l:List Nat):outC key most l l = csort key most l:=by
 unfold outC csort
 congr 1
 funext k
 simp [segK]
theorem cnt_take (key:Nat → Nat) (l:List Nat) (j k:Nat):cntK key (l.take j) k≤cntK key l k:=by
 unfold cntK
 exact List.Sublist.countP_le (List.take_sublist j l)
theorem lessK_lt (key:Nat → Nat) (most:Nat) (l:List Nat) (hl:∀ p ∈ l,key p≤most) (m:List Nat) (p:Nat) (hp:key p≤most) (h:∀ k,cntK key (m ++ [p]) k≤cntK key l k):lessK key l (key p) + cntK key m (key p) < l.length:=by
 have hm:∀ k,cntK key m k≤cntK key l k:=fun k=>by have:=h k;rw [cnt_snoc] at this;omega
 have hk:=h (key p)
 rw [cnt_snoc,if_pos rfl] at hk
 have h1:=outC_len key most l m hm hl
 have h2:=seg_sum key l m hm (key p + 1)
 have h3:((List.range (key p + 1)).flatMap (segK key l m)).length≤(outC key most l m).length:=by
  unfold outC
  have:List.range (most + 1) = List.range (key p + 1) ++ (List.range (most + 1)).drop (key p + 1):=by
   have h1:=List.take_append_drop (key p + 1) (List.range (most + 1))
   rw [List.take_range,Nat.min_eq_left (by omega)] at h1
   exact h1.symm
  rw [this,List.flatMap_append,List.length_append];omega
 rw [h2,lessK] at h3
 omega
theorem lessK_count (key:Nat → Nat) (l:List Nat) (k:Nat):lessK key l k = l.countP fun p=>decide (key p < k):=by
 induction k with
 | zero=>simp [lessK]
 | succ k ih =>
  rw [lessK,ih,cntK]
  clear ih
  induction l with
  | nil=>rfl
  | cons a l ih2 =>
   simp only [List.countP_cons]
   have e:(decide (key a < k + 1)) = (decide (key a < k) || (key a == k)):=by
    rw [Bool.eq_iff_iff]
    simp only [Bool.or_eq_true,decide_eq_true_eq,beq_iff_eq]
    omega
   rw [e,← ih2]
   by_cases h1:key a < k
   ·have h2:¬ key a = k:=by omega
    simp only [h1,h2,decide_true,Bool.true_or,if_true,beq_iff_eq,if_false]
    omega
   ·by_cases h2:key a = k
    ·simp only [h1,h2,decide_false,Bool.false_or,beq_self_eq_true,if_true,Nat.lt_irrefl]
     simp
     omega
    ·simp only [h1,h2,decide_false,Bool.false_or,beq_iff_eq,if_false]
     simp
theorem lessK_le (key:Nat → Nat) (l:List Nat) (k:Nat):lessK key l k≤l.length:=by rw [lessK_count];exact List.countP_le_length
end SufW
end Go.Proofs.YtnpncpoiiikafaaGreat
