/- LfA -/
import Derived.Test.YtnpncpoiiikafaaGreatLenYQt
import Derived.Deep.OwnRows
set_option linter.unusedVariables false
set_option linter.unusedSimpArgs false
set_option linter.unnecessarySimpa false
set_option maxRecDepth 100000
set_option maxHeartbeats 32000000
namespace Go.Proofs.YtnpncpoiiikafaaGreat
open Go.RowKit
namespace LenW
structure TT where
 w:Int
 A:Option Addr
 n:Nat
 c:Nat
 l:Bool
 s:List Int
def TT.val (t:TT):Value:=.agg #[.int .i64 t.w,.slice t.A t.n t.c,.bool t.l]
def tcells (ts:List TT):List Value:=ts.flatMap fun t=>[.int .i64 t.w,.slice t.A t.n t.c,.bool t.l]
end LenW
end Go.Proofs.YtnpncpoiiikafaaGreat
namespace Go.Proofs.YtnpncpoiiikafaaGreat
open Go.RowKit
namespace LenW
end LenW
end Go.Proofs.YtnpncpoiiikafaaGreat
namespace Go.Proofs.YtnpncpoiiikafaaGreat
open Go.RowKit
namespace LenW
abbrev PT:=Int × List Int × Bool
structure SymX (X:Nat → Prop) (w:World) (t:TT):Prop where
 rd:Rd w w.heap.size 1 t.A t.n (ints t.s)
 cap:t.n≤t.c
 blk:∀ k,blkOf t.A = some k → k < w.heap.size∧X k
structure RowX (X:Nat → Prop) (w:World) (A:Option Addr) (n c:Nat) (ts:List TT):Prop where
 rd:Rd w w.heap.size 3 A n (tcells ts)
 cap:n≤c
 blk:∀ k,blkOf A = some k → k < w.heap.size∧X k
 sym:∀ t ∈ ts,SymX X w t
theorem SymX.below {X:Nat → Prop} {w w':World} {t:TT} (h:SymX X w t) (hb:Below w.heap.size w w'):SymX X w' t :=
 ⟨(h.rd.below hb).more hb.size,h.cap,fun k hk=>⟨Nat.lt_of_lt_of_le (h.blk k hk).1 hb.size,(h.blk k hk).2⟩⟩
theorem RowX.below {X:Nat → Prop} {w w':World} {A:Option Addr} {n c:Nat} {ts:List TT} (h:RowX X w A n c ts) (hb:Below w.heap.size w w'):RowX X w' A n c ts :=
 ⟨(h.rd.below hb).more hb.size,h.cap,fun k hk=>⟨Nat.lt_of_lt_of_le (h.blk k hk).1 hb.size,(h.blk k hk).2⟩,fun t ht=>(h.sym t ht).below hb⟩
theorem RowX.nil (X:Nat → Prop) (w:World):RowX X w none 0 0 []:=⟨Rd.nil _ _ _ _,Nat.le_refl _,fun k hk=>by simp [blkOf] at hk,fun t ht=>by simp at ht⟩
theorem SymX.turn {X Y:Nat → Prop} {w:World} {t:TT} (h:SymX X w t) (hy:∀ k,k < w.heap.size → X k → Y k):SymX Y w t:=⟨h.rd,h.cap,fun k hk=>⟨(h.blk k hk).1,hy k (h.blk k hk).1 (h.blk k hk).2⟩⟩
theorem RowX.turn {X Y:Nat → Prop} {w:World} {A:Option Addr} {n c:Nat} {ts:List TT} (h:RowX X w A n c ts) (hy:∀ k,k < w.heap.size → X k → Y k):RowX Y w A n c ts :=
 ⟨h.rd,h.cap,fun k hk=>⟨(h.blk k hk).1,hy k (h.blk k hk).1 (h.blk k hk).2⟩,fun t ht=>(h.sym t ht).turn hy⟩
theorem rd_off {w w':World} {B size n g:Nat} {A:Option Addr} {xs:List Value} (h:Rd w B size A n xs) (hB:B≤w.heap.size) (hg:w.grownBy w' (some g)) (hA:∀ k,blkOf A = some k → k ≠ g):Rd w' B size A n xs:=by
 refine ⟨h.len,fun hn=>?_⟩
 obtain ⟨b,o,rfl,hb,hc⟩:=h.at_ hn
 refine ⟨b,o,rfl,hb,fun j hj=>?_⟩
 rw [← hc j hj]
 exact World.cell?_of_block (w:=w) (hg.block b (by omega) (by have:=hA b rfl;simpa using this))
theorem SymX.grown {X:Nat → Prop} {w w':World} {t:TT} {g:Nat} (h:SymX X w t) (hg:w.grownBy w' (some g)) (hX:∀ k,X k → k ≠ g):SymX X w' t :=
 ⟨(rd_off h.rd (Nat.le_refl _) hg (fun k hk=>hX k (h.blk k hk).2)).more hg.size,h.cap,fun k hk=>⟨Nat.lt_of_lt_of_le (h.blk k hk).1 hg.size,(h.blk k hk).2⟩⟩
theorem RowX.grown {X:Nat → Prop} {w w':World} {A:Option Addr} {n c:Nat} {ts:List TT} {g:Nat} (h:RowX X w A n c ts) (hg:w.grownBy w' (some g)) (hX:∀ k,X k → k ≠ g):RowX X w' A n c ts :=
 ⟨(rd_off h.rd (Nat.le_refl _) hg (fun k hk=>hX k (h.blk k hk).2)).more hg.size,h.cap,fun k hk=>⟨Nat.lt_of_lt_of_le (h.blk k hk).1 hg.size,(h.blk k hk).2⟩,fun t ht=>(h.sym t ht).grown hg hX⟩
end LenW
end Go.Proofs.YtnpncpoiiikafaaGreat
namespace Go.Proofs.YtnpncpoiiikafaaGreat
open Go.RowKit
namespace LenW
end LenW
end Go.Proofs.YtnpncpoiiikafaaGreat
namespace Go.Proofs.YtnpncpoiiikafaaGreat
open Go.RowKit
namespace LenW
def incL (L:List Int) (s:Int):List Int:=L.set s.toNat (L[s.toNat]?.getD 0 + 1)
end LenW
end Go.Proofs.YtnpncpoiiikafaaGreat
namespace Go.Proofs.YtnpncpoiiikafaaGreat
open Go.RowKit
namespace LenW
end LenW
end Go.Proofs.YtnpncpoiiikafaaGreat
namespace Go.Proofs.YtnpncpoiiikafaaGreat
open Go.RowKit
namespace LenW
def symW (G:List (Int × Int)):Nat → (Int × Int) → List Int
 | 0,x=>[x.2]
 | m + 1,x=>if x.2 < 0 then symW G m ((rowW G m).getD (2 * (-1 - x.2).toNat) (0,0)) ++ symW G m ((rowW G m).getD (2 * (-1 - x.2).toNat + 1) (0,0)) else [x.2]
def hW (G:List (Int × Int)) (m:Nat) (x:Int × Int):PT:=(x.1,symW G m x,decide (0≤x.2))
theorem mrg_up {a b:List (Int × Int)} (ha:upW a) (hb:upW b):upW (mrg a b):=by
 suffices ∀ n (a b:List (Int × Int)),a.length + b.length≤n → upW a → upW b → upW (mrg a b) from this _ a b (Nat.le_refl _) ha hb
 intro n
 induction n with
 | zero =>
  intro a b h _ hb
  obtain rfl:=List.length_eq_zero_iff.1 (show a.length = 0 by omega)
  exact hb
 | succ n ih =>
  intro a b h ha hb
  match a,b with
  | [],b=>exact hb
  | x :: a,[]=>rw [mrg_right];exact ha
  | x :: a,y :: b =>
   simp only [List.length_cons] at h
   rw [mrg_cons]
   obtain ⟨a1,a2⟩:=List.pairwise_cons.1 ha
   obtain ⟨b1,b2⟩:=List.pairwise_cons.1 hb
   split
   ·rename_i hle
    refine List.pairwise_cons.2 ⟨fun z hz=>?_,ih a (y :: b) (by simp only [List.length_cons];omega) a2 hb⟩
    rcases List.mem_append.1 ((mrg_perm _ _).mem_iff.1 hz) with h | h
    ·exact a1 z h
    ·rcases List.mem_cons.1 h with rfl | h
     ·exact hle
     ·exact Int.le_trans hle (b1 z h)
   ·rename_i hle
    refine List.pairwise_cons.2 ⟨fun z hz=>?_,ih (x :: a) b (by simp only [List.length_cons];omega) ha b2⟩
    rcases List.mem_append.1 ((mrg_perm _ _).mem_iff.1 hz) with h | h
    ·rcases List.mem_cons.1 h with rfl | h
     ·omega
     ·have:=a1 z h;omega
    ·exact b1 z h
theorem pkgs_up {r:List (Int × Int)} (h:upW r):upW (pkgs 0 r):=by
 refine List.pairwise_iff_getElem.2 (fun i j hi hj hij=>?_)
 have hl:=pkgs_len r 0
 have e1:=pkgs_get r 0 i (by omega)
 have e2:=pkgs_get r 0 j (by omega)
 rw [List.getElem?_eq_getElem hi] at e1
 rw [List.getElem?_eq_getElem hj] at e2
 rw [Option.some.inj e1,Option.some.inj e2]
 have h1:=up_get h (2 * i) (2 * j) (by omega) (by omega)
 have h2:=up_get h (2 * i + 1) (2 * j + 1) (by omega) (by omega)
 dsimp only
 omega
theorem rowW_up {G:List (Int × Int)} (h:upW G) (m:Nat):upW (rowW G m):=by
 induction m with
 | zero=>exact h
 | succ m ih=>exact mrg_up h (pkgs_up ih)
theorem bump_flat (l:List (Int × Int)):∀ L:List Int,l.foldl bumpL L = ((l.filter fun x=>!decide (x.2 < 0)).map (·.2)).foldl incL L:=by
 induction l with
 | nil=>intro L;rfl
 | cons x l ih =>
  intro L
  rw [List.foldl_cons,ih,List.filter_cons]
  by_cases h:x.2 < 0
  ·rw [bumpL,if_pos h];simp [h]
  ·rw [bumpL,if_neg h];simp [h];rfl
theorem mrg_packs (a b:List (Int × Int)) (ha:∀ y ∈ a,0≤y.2) (hb:∀ y ∈ b,y.2 < 0):(mrg a b).filter (fun x=>decide (x.2 < 0)) = b:=by
 suffices ∀ n (a b:List (Int × Int)),a.length + b.length≤n → (∀ y ∈ a,0≤y.2) → (∀ y ∈ b,y.2 < 0) → (mrg a b).filter (fun x=>decide (x.2 < 0)) = b from this _ a b (Nat.le_refl _) ha hb
 have full:∀ b:List (Int × Int),(∀ y ∈ b,y.2 < 0) → b.filter (fun x=>decide (x.2 < 0)) = b:=fun b hb=>List.filter_eq_self.2 (fun x hx=>by simpa using hb x hx)
 have none:∀ a:List (Int × Int),(∀ y ∈ a,0≤y.2) → a.filter (fun x=>decide (x.2 < 0)) = []:=fun a ha=>List.filter_eq_nil_iff.2 (fun x hx=>by have:=ha x hx;simp;omega)
 intro n
 induction n with
 | zero =>
  intro a b h ha hb
  obtain rfl:=List.length_eq_zero_iff.1 (show a.length = 0 by omega)
  exact full b hb
 | succ n ih =>
  intro a b h ha hb
  match a,b with
  | [],b=>exact full b hb
  | x :: a,[]=>rw [mrg_right];exact none _ ha
  | x :: a,y :: b =>
   simp only [List.length_cons] at h
   have hx:=ha x (by simp)
   have hy:=hb y (by simp)
   rw [mrg_cons]
   split
   ·rw [List.filter_cons,if_neg (by simp;omega),ih a (y :: b) (by simp only [List.length_cons];omega) (fun z hz=>ha z (by simp [hz])) hb]
   ·rw [List.filter_cons,if_pos (by simpa using hy),ih (x :: a) b (by simp only [List.length_cons];omega) ha (fun z hz=>hb z (by simp [hz]))]
theorem take_filter (p:Int × Int → Bool) (l:List (Int × Int)) (n:Nat):(l.take n).filter p = (l.filter p).take ((l.take n).filter p).length:=by
 have e:l.filter p = (l.take n).filter p ++ (l.drop n).filter p:=by rw [← List.filter_append,List.take_append_drop]
 rw [e,List.take_left']
 rfl
end LenW
end Go.Proofs.YtnpncpoiiikafaaGreat
