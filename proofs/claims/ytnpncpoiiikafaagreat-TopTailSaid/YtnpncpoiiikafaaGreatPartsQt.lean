/- Parts -/
import Derived.Test.YtnpncpoiiikafaaGreatAppQt
import Derived.Test.YtnpncpoiiikafaaGreatLenCQt
set_option linter.unusedVariables false
set_option linter.unusedSimpArgs false
set_option linter.unnecessarySimpa false
set_option maxRecDepth 100000
set_option maxHeartbeats 32000000
namespace Go.Proofs.YtnpncpoiiikafaaGreat
open Go.RowKit
section
variable {α:Type} {f:α → List Value} {e size:Nat}
def PartOk (f:α → List Value) (e size:Nat) (w:World) (base:Nat) (X Y:Option Nat) (v:Value) (x:α):Prop :=
 ∃ A n c,v = .slice A n c∧Own w base e size A n c (f x)∧∀ k,blkOf A = some k → X ≠ some k∧Y ≠ some k
def Parts (f:α → List Value) (e size:Nat) (w:World) (base:Nat) (X Y:Option Nat) (vs:List Value) (ls:List α):Prop :=
 vs.length = ls.length∧∀ i (h1:i < vs.length) (h2:i < ls.length),PartOk f e size w base X Y vs[i] ls[i]
theorem Parts.nil (w:World) (base:Nat) (X Y:Option Nat):Parts f e size w base X Y [] []:=⟨rfl,fun i h=>absurd h (by simp)⟩
theorem PartOk.grown {w w':World} {base:Nat} {X Y row:Option Nat} {v:Value} {x:α} (h:PartOk f e size w base X Y v x) (hg:w.grownBy w' row) (hr:row = none ∨ row = X ∨ row = Y):PartOk f e size w' base X Y v x:=by
 obtain ⟨A,n,c,hv,ho,hd⟩:=h
 refine ⟨A,n,c,hv,ho.grown hg ?_,hd⟩
 cases ha:blkOf A with
 | none=>exact .inl rfl
 | some k =>
  obtain ⟨h1,h2⟩:=hd k ha
  rcases hr with rfl | rfl | rfl
  ·exact .inr (by simp)
  ·exact .inr (fun e=>h1 e.symm)
  ·exact .inr (fun e=>h2 e.symm)
theorem Parts.grown {w w':World} {base:Nat} {X Y row:Option Nat} {vs:List Value} {ls:List α} (h:Parts f e size w base X Y vs ls) (hg:w.grownBy w' row) (hr:row = none ∨ row = X ∨ row = Y):Parts f e size w' base X Y vs ls :=
 ⟨h.1,fun i h1 h2=>(h.2 i h1 h2).grown hg hr⟩
theorem Parts.turn {w:World} {base:Nat} {X Y X' Y':Option Nat} {vs:List Value} {ls:List α} (h:Parts f e size w base X Y vs ls)
 (hx:X' = X ∨ X' = Y ∨ X' = none ∨ ∃ g,X' = some g∧w.heap.size≤g) (hy:Y' = X ∨ Y' = Y ∨ Y' = none ∨ ∃ g,Y' = some g∧w.heap.size≤g):Parts f e size w base X' Y' vs ls:=by
 refine ⟨h.1,fun i h1 h2=>?_⟩
 obtain ⟨A,n,c,hv,ho,hd⟩:=h.2 i h1 h2
 refine ⟨A,n,c,hv,ho,fun k hk=>?_⟩
 obtain ⟨d1,d2⟩:=hd k hk
 have hlt:=(ho.blk k hk).2
 have go:∀ Z:Option Nat,(Z = X ∨ Z = Y ∨ Z = none ∨ ∃ g,Z = some g∧w.heap.size≤g) → Z ≠ some k:=by
  rintro Z (rfl | rfl | rfl | ⟨g,rfl,hg⟩)
  ·exact d1
  ·exact d2
  ·simp
  ·intro e;simp only [Option.some.injEq] at e;omega
 exact ⟨go _ hx,go _ hy⟩
theorem Parts.snoc {w:World} {base:Nat} {X Y:Option Nat} {vs:List Value} {ls:List α} (h:Parts f e size w base X Y vs ls) {A:Option Addr} {n c:Nat} {x:α} (ho:Own w base e size A n c (f x)) (hd:∀ k,blkOf A = some k → X ≠ some k∧Y ≠ some k) :
 Parts f e size w base X Y (vs ++ [.slice A n c]) (ls ++ [x]):=by
 refine ⟨by simp [h.1],fun i h1 h2=>?_⟩
 by_cases hi:i < vs.length
 ·have hi2:i < ls.length:=by rw [← h.1];exact hi
  rw [List.getElem_append_left hi,List.getElem_append_left hi2]
  exact h.2 i hi hi2
 ·have e1:i = vs.length:=by simp at h1;omega
  subst e1
  have e2:vs.length = ls.length:=h.1
  rw [List.getElem_append_right (Nat.le_refl _),List.getElem_append_right (by omega)]
  simp only [Nat.sub_self,List.getElem_singleton,← e2]
  exact ⟨A,n,c,rfl,ho,hd⟩
theorem Parts.below {w w':World} {base:Nat} {X Y:Option Nat} {vs:List Value} {ls:List α} (h:Parts f e size w base X Y vs ls) (hb:Below w.heap.size w w'):Parts f e size w' base X Y vs ls:=h.grown (grown_of_below hb) (.inl rfl)
theorem Parts.push {w w':World} {base m c4:Nat} {A2 A4 A5:Option Addr} {vs:List Value} {ls:List α} {x:α} (hp:Parts f e size w base (blkOf A2) none vs ls) (ho4:Own w base e size A4 m c4 (f x))
 (hd:∀ k,blkOf A4 = some k → blkOf A2 ≠ some k) (hg:w.grownBy w' (blkOf A2)) (hat:blkOf A5 = blkOf A2 ∨ ∃ g,blkOf A5 = some g∧w.heap.size≤g):Parts f e size w' base (blkOf A5) none (vs ++ [.slice A4 m c4]) (ls ++ [x]):=by
 have h1:=(hp.snoc ho4 fun k hk=>⟨hd k hk,by simp⟩).turn (X':=blkOf A5) (Y':=blkOf A2) (by rcases hat with h | h;exact .inl h;exact .inr (.inr (.inr h))) (.inl rfl)
 exact (h1.grown hg (.inr (.inr rfl))).turn (.inl rfl) (.inr (.inr (.inl rfl)))
structure RdRows (f:α → List Value) (e size:Nat) (w:World) (B:Nat) (A:Option Addr) (n:Nat) (ls:List α):Prop where
 len:ls.length = n
 at_:0 < n → ∃ b o,A = some ⟨b,o,none⟩∧b < B∧∀ j (hj:j < ls.length),∃ A' n' c',w.cell? ⟨b,o + j,none⟩ = some (.slice A' n' c')∧n'≤c'∧c'≤maxLen∧Rd w B size A' n' (f ls[j])
theorem RdRows.of {w:World} {base:Nat} {X Y:Option Nat} {vs:List Value} {ls:List α} {A:Option Addr} {n c t:Nat} (ho:Own w base t 1 A n c vs) (h:Parts f e size w base X Y vs ls):RdRows f e size w w.heap.size A n ls:=by
 have hl:=ho.len
 refine ⟨by have:=h.1;omega,fun hn=>?_⟩
 obtain ⟨b,o,rfl,hb,hc⟩:=ho.rd.at_ hn
 refine ⟨b,o,rfl,hb,fun j hj=>?_⟩
 obtain ⟨A',n',c',hv,ho',_⟩:=h.2 j (by rw [h.1];exact hj) hj
 exact ⟨A',n',c',by rw [hc j (by rw [h.1];exact hj),hv],ho'.cap,ho'.capm,ho'.rd⟩
theorem RdRows.below {w w':World} {B:Nat} {A:Option Addr} {n:Nat} {ls:List α} (h:RdRows f e size w B A n ls) (hb:Below B w w'):RdRows f e size w' B A n ls :=
 ⟨h.len,fun hn=>by
  obtain ⟨b,o,hA,hlt,hc⟩:=h.at_ hn
  refine ⟨b,o,hA,hlt,fun j hj=>?_⟩
  obtain ⟨A',n',c',h1,h2,h3,h4⟩:=hc j hj
  exact ⟨A',n',c',(hb.cell (p:=⟨b,o + j,none⟩) hlt).trans h1,h2,h3,h4.below hb⟩⟩
theorem RdRows.more {w:World} {B B':Nat} {A:Option Addr} {n:Nat} {ls:List α} (h:RdRows f e size w B A n ls) (hB:B≤B'):RdRows f e size w B' A n ls :=
 ⟨h.len,fun hn=>by
  obtain ⟨b,o,hA,hlt,hc⟩:=h.at_ hn
  refine ⟨b,o,hA,by omega,fun j hj=>?_⟩
  obtain ⟨A',n',c',h1,h2,h3,h4⟩:=hc j hj
  exact ⟨A',n',c',h1,h2,h3,h4.more hB⟩⟩
theorem RdRows.nil (w:World) (B:Nat) (A:Option Addr):RdRows f e size w B A 0 ([]:List α):=⟨rfl,fun h=>absurd h (by omega)⟩
end
section
variable {P:Program} {t e:TypeId} (hu:P.underlying t = some (.slice e)) {i:TypeInfo} (hi:P.info? e = some i) {w0:World} {B n:Nat} {A:Option Addr} {xs:List Value}
include hu hi
theorem run_slice_head (h:Rd w0 B i.size A n xs) (c m:Nat) (hm:m≤n) (hc:n≤c) (w:World) :
 (Instr.slice t (.slice A n c) none (some (.int .i64 m)) (some (.int .i64 m))).run P w = .ok (.slice A m m) w:=by
 have hel:P.elem t = e:=by unfold Program.elem;rw [hu]
 rw [run_slice_hm w t A n c (by rw [hel];exact hu) .i64 .i64 m m (by omega) (by omega) (by omega),hel]
 have hs:((sizeOf e).run P w) = .ok i.size w:=by simp [sizeOf,typeInfo,hi]
 rw [hs,Result.andThen_ok]
 simp only [sliced,Int.toNat_natCast,Nat.sub_zero,Nat.zero_mul]
 congr 2
 split
 ·rfl
 ·obtain ⟨b,o,rfl,_⟩:=h.at_ (by omega)
  simp [add_lit]
theorem run_slice_upto (h:Rd w0 B i.size A n xs) (c m:Nat) (hm:m≤n) (hc:n≤c) (w:World) :
 (Instr.slice t (.slice A n c) none (some (.int .i64 m)) none).run P w = .ok (.slice A m c) w:=by
 have hel:P.elem t = e:=by unfold Program.elem;rw [hu]
 rw [run_slice_h w t A n c (by rw [hel];exact hu) .i64 m (by omega) (by omega),hel]
 have hs:((sizeOf e).run P w) = .ok i.size w:=by simp [sizeOf,typeInfo,hi]
 rw [hs,Result.andThen_ok]
 simp only [sliced,Int.toNat_natCast,Nat.sub_zero,Nat.zero_mul]
 congr 2
 split
 ·rfl
 ·rename_i hc0
  rcases Nat.eq_zero_or_pos n with rfl | hn
  ·cases A with
   | none=>rfl
   | some a=>simp [Addr.add]
  ·obtain ⟨b,o,rfl,_⟩:=h.at_ hn
   simp [add_lit]
theorem run_slice_from (h:Rd w0 B i.size A n xs) (c m:Nat) (hm:m≤n) (hc:n≤c) :
 ∃ A2,(∀ w,(Instr.slice t (.slice A n c) (some (.int .i64 m)) none none).run P w = .ok (.slice A2 (n - m) (c - m)) w)∧Rd w0 B i.size A2 (n - m) (xs.drop (m * i.size)):=by
 refine ⟨_,fun w=>?_,h.cut hm hc⟩
 have hel:P.elem t = e:=by unfold Program.elem;rw [hu]
 rw [run_slice_l w t A n c (by rw [hel];exact hu) .i64 m (by omega) (by omega),hel]
 have hs:((sizeOf e).run P w) = .ok i.size w:=by simp [sizeOf,typeInfo,hi]
 rw [hs,Result.andThen_ok]
 simp only [sliced,Int.toNat_natCast]
end
theorem Rd.take {w:World} {B size n:Nat} {A:Option Addr} {xs:List Value} (h:Rd w B size A n xs) (m:Nat) (hm:m≤n):Rd w B size A m (xs.take (m * size)):=by
 have hl:=h.len
 have hms:m * size≤n * size:=Nat.mul_le_mul_right _ hm
 refine ⟨by rw [List.length_take];omega,fun hn=>?_⟩
 obtain ⟨b,o,rfl,hb,hc⟩:=h.at_ (by omega)
 refine ⟨b,o,rfl,hb,fun j hj=>?_⟩
 rw [List.length_take] at hj
 rw [hc j (by omega),List.getElem_take]
end Go.Proofs.YtnpncpoiiikafaaGreat
namespace Go.Proofs.YtnpncpoiiikafaaGreat
open Go.RowKit
namespace LenW
theorem mrg_perm (a b:List (Int × Int)):(mrg a b).Perm (a ++ b):=by
 suffices ∀ n (a b:List (Int × Int)),a.length + b.length≤n → (mrg a b).Perm (a ++ b) from this _ a b (Nat.le_refl _)
 intro n
 induction n with
 | zero =>
  intro a b h
  obtain rfl:=List.length_eq_zero_iff.1 (show a.length = 0 by omega)
  simp [mrg]
 | succ n ih =>
  intro a b h
  match a,b with
  | [],b=>simp [mrg]
  | x :: a,[]=>rw [mrg_right];simp
  | x :: a,y :: b =>
   simp only [List.length_cons] at h
   rw [mrg_cons]
   split
   ·exact (ih a (y :: b) (by simp only [List.length_cons];omega)).cons x
   ·refine ((ih (x :: a) b (by simp only [List.length_cons];omega)).cons y).trans ?_
    exact (List.perm_middle (l₁:=x :: a) (l₂:=b) (a:=y)).symm
theorem pkgs_neg (r:List (Int × Int)):∀ i,∀ x ∈ pkgs i r,x.2 < 0:=by
 suffices ∀ n (r:List (Int × Int)),r.length≤n → ∀ i,∀ x ∈ pkgs i r,x.2 < 0 from this _ r (Nat.le_refl _)
 intro n
 induction n with
 | zero=>intro r h i x hx;obtain rfl:=List.length_eq_zero_iff.1 (Nat.le_zero.1 h);simp [pkgs] at hx
 | succ n ih =>
  intro r h i x hx
  match r with
  | []=>simp [pkgs] at hx
  | [a]=>simp [pkgs] at hx
  | a :: b :: r =>
   simp only [List.length_cons] at h
   rw [pkgs] at hx
   rcases List.mem_cons.1 hx with rfl | hx
   ·dsimp only;omega
   ·exact ih r (by omega) _ x hx
theorem packsW_app (a b:List (Int × Int)):packsW (a ++ b) = packsW a + packsW b:=by simp [packsW]
theorem packsW_perm {a b:List (Int × Int)} (h:a.Perm b):packsW a = packsW b:=(h.filter _).length_eq
theorem packsW_neg (l:List (Int × Int)) (h:∀ x ∈ l,x.2 < 0):packsW l = l.length:=by
 unfold packsW
 rw [List.filter_eq_self.2 (fun x hx=>by simpa using h x hx)]
theorem packsW_pos (l:List (Int × Int)) (h:∀ x ∈ l,0≤x.2):packsW l = 0:=by
 unfold packsW
 rw [List.filter_eq_nil_iff.2 (fun x hx=>by have:=h x hx;simp;omega)]
 rfl
theorem packsW_take (l:List (Int × Int)) (n:Nat):packsW (l.take n)≤packsW l:=by
 unfold packsW
 exact ((List.take_sublist n l).filter _).length_le
theorem packsW_le (l:List (Int × Int)):packsW l≤l.length:=List.length_filter_le _ _
theorem rowW_what (first:List (Int × Int)) (N:Int) (hf:∀ x ∈ first,0≤x.2∧x.2 < N) (i:Nat):∀ x ∈ rowW first i,x.2 < 0 ∨ (0≤x.2∧x.2 < N):=by
 intro x hx
 cases i with
 | zero=>exact .inr (hf x hx)
 | succ i =>
  rcases List.mem_append.1 ((mrg_perm _ _).mem_iff.1 hx) with h | h
  ·exact .inr (hf x h)
  ·exact .inl (pkgs_neg _ _ x h)
theorem rowW_packs (first:List (Int × Int)) (hf:∀ x ∈ first,0≤x.2) (i n:Nat):2 * packsW ((rowW first (i + 1)).take n)≤(rowW first i).length:=by
 have h1:=packsW_take (rowW first (i + 1)) n
 have h2:packsW (rowW first (i + 1)) = packsW first + packsW (pkgs 0 (rowW first i)):=by rw [← packsW_app];exact packsW_perm (mrg_perm _ _)
 rw [packsW_pos first hf,packsW_neg _ (pkgs_neg _ 0),pkgs_len] at h2
 omega
theorem takenW_zero (first:List (Int × Int)) (k:Nat) (L:List Int):takenW first k 0 L = L:=by cases k <;> simp [takenW]
theorem take_snoc (l:List (Int × Int)) (j:Nat) (h:j < l.length):l.take (j + 1) = l.take j ++ [l[j]]:=List.take_succ_eq_append_getElem h
theorem ints_set (L:List Int) (k:Nat) (u:Int):(ints L).toArray.setIfInBounds k (.int .i64 u) = (ints (L.set k u)).toArray:=by
 simp [ints,List.map_set]
def RowsOk (w:World) (g:Nat) (Ar:Option Addr) (m:Nat) (first:List (Int × Int)):Prop :=
 0 < m → ∃ b o,Ar = some ⟨b,o,none⟩∧∀ i,i < m → ∃ A' n' c',n'≤c'∧c'≤maxLen∧∀ w',w.grownBy w' (some g) → w'.cell? ⟨b,o + i,none⟩ = some (.slice A' n' c')∧Rd w' w'.heap.size 2 A' n' (fcells (rowW first i))
theorem bump_len (L:List Int) (x:Int × Int):(bumpL L x).length = L.length:=by unfold bumpL;split <;> simp
theorem bumps_len (l:List (Int × Int)):∀ (L:List Int),(l.foldl bumpL L).length = L.length:=by
 induction l with
 | nil=>intro L;rfl
 | cons x l ih=>intro L;rw [List.foldl_cons,ih,bump_len]
theorem foldl_snoc (l:List (Int × Int)) (j:Nat) (h:j < l.length) (L:List Int):(l.take (j + 1)).foldl bumpL L = bumpL ((l.take j).foldl bumpL L) l[j]:=by rw [take_snoc l j h,List.foldl_append];rfl
theorem packs_snoc (l:List (Int × Int)) (j:Nat) (h:j < l.length):packsW (l.take (j + 1)) = packsW (l.take j) + (if l[j].2 < 0 then 1 else 0):=by
 rw [take_snoc l j h,packsW_app]
 congr 1
 unfold packsW
 by_cases h:l[j].2 < 0 <;> simp [h]
theorem taken_any (Ar:Option Addr) (m cr:Nat) (first:List (Int × Int)) (n g Ln cl:Nat) (L:List Int) (w:World)
 (hR:RowsOk w g Ar m first)
 (hB:Blk w g 3 (ints L).toArray) (hL:L.length = Ln) (hm:m≤15) (hf:∀ x ∈ first,0≤x.2∧x.2 < (Ln:Int)) (hfl:first.length≤300)
 (hn:∀ i,m = i + 1 → n≤(rowW first i).length) (hL0:∀ v ∈ L,v = 0) :
 Calls Tryz.prog 186 #[.slice Ar m cr,.int .i64 n,.slice (some ⟨g,0,none⟩) Ln cl] w fun e w'=>e = .returned (.tuple #[])∧Blk w' g 3 (ints (takenW first m n L)).toArray∧w.grownBy w' (some g):=by
 have HF:=Lib.hid hf
 have HR:=Lib.hid hR
 have HN:=Lib.hid hn
 have hm1:IntKind.i64.wrap ((m:Int) - 1) = (m:Int) - 1:=w64k (by omega) (by omega)
 have HL0:=Lib.hid (show ∀ v ∈ L,0≤v∧v≤1000 * ((m:Int) - m) from fun v hv=>by rw [hL0 v hv];omega)
 have HLn:=Lib.hid hL
 clear hf hR hn hL0 hL
 go_enter Tryz.func186,Tryz.ntmps186
 go_wp2_with fail
 go_loopw [1,6] (fun s1 s6 wr=>∃ (k nn:Nat) (L':List Int),s1 = .int .i64 nn∧s6 = .int .i64 ((k:Int) - 1)∧k≤m∧takenW first k nn L' = takenW first m n L∧L'.length = Ln∧(∀ v ∈ L',0≤v∧v≤1000 * ((m:Int) - k))∧Blk wr g 3 (ints L').toArray∧w.grownBy wr (some g)∧(∀ i,k = i + 1 → nn≤(rowW first i).length)) (fun _ s6 _=>(intOf s6 + 1).toNat)
 case atStart=>exact ⟨m,n,L,rfl,rfl,Nat.le_refl _,rfl,HLn.out,HL0.out,hB,World.grownBy.refl _ _,HN.out⟩
 case round =>
  clear hB
  obtain ⟨k,nn,L',rfl,rfl,hk,hT,hLl,hv,bL,hg,hrow⟩:=hrel
  have HT:=Lib.hid hT
  have HV:=Lib.hid hv
  have HRW:=Lib.hid hrow
  have HLl:=Lib.hid hLl
  clear hT hv hrow hLl
  by_cases hk0:k = 0
  ·subst hk0
   go_wp2_with fail
   go_end0
   have e:=HT.out
   rw [show takenW first 0 nn L' = L' from rfl] at e
   rw [← e]
   exact ⟨rfl,bL,hg⟩
  ·obtain ⟨i,rfl⟩:∃ i,k = i + 1:=⟨k - 1,by omega⟩
   have hi0:((i + 1:Nat):Int) - 1 = (i:Int):=by omega
   rw [hi0]
   have hi1:(0:Int)≤(i:Int):=by omega
   by_cases hn0:nn = 0
   ·subst hn0
    go_wp2_with fail
    go_end0
    have e:=HT.out
    rw [takenW_zero] at e
    rw [← e]
    exact ⟨rfl,bL,hg⟩
   ·have hn1:(0:Int) < (nn:Int):=by omega
    have hrw:=HRW.out i rfl
    have hrl:=rowW_le first i
    obtain ⟨b,o,rfl,hc⟩:=HR.out (by omega)
    obtain ⟨A',n',c',hnc,hcm,hrr⟩:=hc i (by omega)
    obtain ⟨d0,rd⟩:=hrr wr hg
    obtain ⟨r,hr⟩:∃ r,rowW first i = r:=⟨_,rfl⟩
    have hwhat:=rowW_what first Ln HF.out i
    have HPK:=Lib.hid (show ∀ i',i = i' + 1 → 2 * packsW (r.take nn)≤(rowW first i').length from fun i' e=>by subst e;rw [← hr];exact rowW_packs first (fun x hx=>(HF.out x hx).1) i' nn)
    have HTT:=Lib.hid (show takenW first i (2 * packsW (r.take nn)) ((r.take nn).foldl bumpL L') = takenW first m n L by rw [← HT.out,takenW,if_neg hn0,hr])
    rw [hr] at hrw hrl rd hrr hwhat
    have hrn:=rd_flen rd
    obtain ⟨ie,_,hie,_,hsz,_⟩:=El_w.inf
    have hsl:=run_slice_upto (P:=Tryz.prog) Tryz.underlying259 hie (by rw [hsz];exact rd) c' nn (by omega) hnc
    have him:(i:Int) < (m:Int):=by omega
    have hnd:decide (0 < nn) = true:=by simp;omega
    have HRR:=Lib.hid hrr
    have HWH:=Lib.hid hwhat
    clear hc hr hie hrr hwhat hsz
    go_wp2_with fail
    clear hsl
    go_loopw [7,28] (fun s7 s28 wr'=>∃ (j p:Nat) (L2:List Int),s28 = .int .i64 j∧s7 = .int .i64 p∧j≤nn∧p = packsW (r.take j)∧L2 = (r.take j).foldl bumpL L'∧(∀ v ∈ L2,0≤v∧v≤1000 * ((m:Int) - (i + 1:Nat)) + j)∧Blk wr' g 3 (ints L2).toArray∧w.grownBy wr' (some g)) (fun _ s28 _=>nn - (intOf s28).toNat)
    case atStart=>exact ⟨0,0,L',rfl,rfl,by omega,by simp [packsW],rfl,fun v hv=>by have:=HV.out v hv;omega,bL,hg⟩
    case round =>
     clear bL hg d0 rd
     obtain ⟨j,p,L2,rfl,rfl,hj,hp,hL2,hv2,b2,hg2⟩:=hrel
     have hL2l:L2.length = Ln:=by rw [hL2,bumps_len,HLl.out]
     have HP2:=Lib.hid hp
     have HL2:=Lib.hid hL2
     have HV2:=Lib.hid hv2
     have HL2l:=Lib.hid hL2l
     have hpj:p≤nn:=by rw [hp];exact Nat.le_trans (packsW_le _) (by rw [List.length_take];omega)
     clear hp hL2 hv2 hL2l
     obtain ⟨d0,rd⟩:=HRR.out wr hg2
     by_cases hjn:j < nn
     ·have hjr:j < r.length:=by omega
      have hjI:(j:Int) < (nn:Int):=by omega
      obtain ⟨b',o',rfl,hb',hc'⟩:=rd_fcells rd (by omega)
      obtain ⟨e1,e2⟩:=hc' j hjr
      have HPS:=Lib.hid (packs_snoc r j hjr)
      have HFS:=Lib.hid (foldl_snoc r j hjr L')
      have hwh:=HWH.out _ (List.getElem_mem hjr)
      obtain ⟨x,hx⟩:∃ x,r[j] = x:=⟨_,rfl⟩
      rw [hx] at e1 e2 HPS HFS hwh
      obtain ⟨x1,x2⟩:=x
      dsimp only at e1 e2 HPS HFS hwh
      clear hc' hx
      by_cases hx2:x2 < 0
      ·have HPP:=Lib.hid (show p + 1 = packsW (r.take (j + 1)) by rw [HPS.out,if_pos hx2,HP2.out])
       have HFF:=Lib.hid (show L2 = (r.take (j + 1)).foldl bumpL L' by rw [HFS.out,← HL2.out,bumpL,if_pos hx2])
       clear hwh
       go_wp2_with fail
       go_roundw
       case rel=>exact ⟨j + 1,p + 1,L2,by go_num,by go_num,by omega,HPP.out,HFF.out,fun v hv=>by have:=HV2.out v hv;omega,b2.alloc _,grown_below hg2 ((Below.refl _ _).alloc (Nat.le_refl _) _)⟩
       case measure=>simp [intOf];omega
      ·obtain ⟨y,rfl⟩:=Int.eq_ofNat_of_zero_le (show 0≤x2 by omega)
       have hyL:(y:Int) < (Ln:Int):=by omega
       have hy2:y < L2.length:=by rw [HL2l.out];omega
       have HPP:=Lib.hid (show p = packsW (r.take (j + 1)) by rw [HPS.out,if_neg hx2,HP2.out];rfl)
       have hu:=HV2.out _ (List.getElem_mem hy2)
       obtain ⟨u,hue⟩:∃ u,L2[y] = u:=⟨_,rfl⟩
       rw [hue] at hu
       have HFF:=Lib.hid (show L2.set y (u + 1) = (r.take (j + 1)).foldl bumpL L' by rw [HFS.out,← HL2.out,bumpL,if_neg hx2,Int.toNat_natCast,List.getElem?_eq_getElem hy2,hue];rfl)
       have hu1:IntKind.i64.wrap (u + 1) = u + 1:=w64k (by omega) (by omega)
       have b3:=b2.alloc (.cells #[.int .i64 x1,.int .i64 y] 262)
       have e5:=b3.cell_ y (v:=.int .i64 u) (by simp [ints,List.getElem?_eq_getElem hy2,hue])
       have f5:=b3.frozen y
       have hg3:=grown_below hg2 ((Below.refl wr.heap.size wr).alloc (Nat.le_refl _) (.cells #[.int .i64 x1,.int .i64 y] 262))
       have B3:=Lib.hid b3
       clear hwh hue hy2 b3
       go_wp2_with fail
       go_roundw
       case rel =>
        refine ⟨j + 1,p,L2.set y (u + 1),by go_num,rfl,by omega,HPP.out,HFF.out,fun v hv=>?_,blk_eq (B3.out.set y _) (ints_set _ _ _),grown_set hg3 _⟩
        rcases List.mem_or_eq_of_mem_set hv with h | h
        ·have:=HV2.out v h;omega
        ·omega
       case measure=>simp [intOf];omega
     ·have hjI:¬ (j:Int) < (nn:Int):=by omega
      obtain rfl:j = nn:=by omega
      have hp2:IntKind.i64.wrap (2 * (p:Int)) = 2 * (p:Int):=w64k (by omega) (by omega)
      have hiw:IntKind.i64.wrap ((i:Int) - 1) = (i:Int) - 1:=w64k (by omega) (by omega)
      go_wp2_with fail
      go_roundw
      case rel=>exact ⟨i,2 * p,L2,by simp,rfl,by omega,by rw [HP2.out,HL2.out];exact HTT.out,HL2l.out,fun v hv=>by have:=HV2.out v hv;omega,b2,hg2,fun i' e=>by rw [HP2.out];exact HPK.out i' e⟩
      case measure=>first | (simp [intOf];done) | (simp [intOf];omega)
end LenW
end Go.Proofs.YtnpncpoiiikafaaGreat
