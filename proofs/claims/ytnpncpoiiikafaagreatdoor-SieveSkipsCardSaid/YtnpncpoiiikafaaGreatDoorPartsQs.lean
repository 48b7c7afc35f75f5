/- Parts -/
import Derived.Test.YtnpncpoiiikafaaGreatDoorAppQs
set_option linter.unusedVariables false
set_option linter.unusedSimpArgs false
set_option linter.unnecessarySimpa false
namespace Go.Proofs.YtnpncpoiiikafaaGreatDoor
open Go.RowKit
section
variable {α:Type} {f:α → List Value} {e size:Nat}
def PartOk (f:α → List Value) (e size:Nat) (w:World) (base:Nat) (X Y:Option Nat) (v:Value) (x:α):Prop :=
  ∃ A n c,v = .slice A n c∧Own w base e size A n c (f x)∧∀ k,blkOf A = some k → X ≠ some k∧Y ≠ some k
def Parts (f:α → List Value) (e size:Nat) (w:World) (base:Nat) (X Y:Option Nat) (vs:List Value) (ls:List α):Prop :=
  vs.length = ls.length∧∀ i (h1:i < vs.length) (h2:i < ls.length),PartOk f e size w base X Y vs[i] ls[i]
theorem Parts.nil (w:World) (base:Nat) (X Y:Option Nat):Parts f e size w base X Y [] []:=⟨rfl,fun i h=>absurd h (by simp)⟩
theorem Parts.one {w:World} {base:Nat} {X Y:Option Nat} {vs:List Value} {ls:List α} (h:Parts f e size w base X Y vs ls):∀ u ∈ vs,u.oneCell' = true:=by
  intro u hu
  obtain ⟨i,hi,rfl⟩:=List.getElem_of_mem hu
  obtain ⟨A,n,c,hv,_⟩:=h.2 i hi (by rw [← h.1];exact hi)
  rw [hv]
  rfl
theorem PartOk.grown {w w':World} {base:Nat} {X Y row:Option Nat} {v:Value} {x:α} (h:PartOk f e size w base X Y v x) (hg:w.grownBy w' row) (hr:row = none ∨ row = X ∨ row = Y):PartOk f e size w' base X Y v x:=by
  obtain ⟨A,n,c,hv,ho,hd⟩:=h
  refine ⟨A,n,c,hv,ho.grown hg ?_,hd⟩
  cases ha:blkOf A with
  | none=>exact .inl rfl
  | some k =>
    obtain ⟨h1,h2⟩:=hd k ha
    rcases hr with rfl | rfl | rfl
    · exact .inr (by simp)
    · exact .inr (fun e=>h1 e.symm)
    · exact .inr (fun e=>h2 e.symm)
theorem Parts.grown {w w':World} {base:Nat} {X Y row:Option Nat} {vs:List Value} {ls:List α} (h:Parts f e size w base X Y vs ls) (hg:w.grownBy w' row) (hr:row = none ∨ row = X ∨ row = Y):Parts f e size w' base X Y vs ls :=
  ⟨h.1,fun i h1 h2=>(h.2 i h1 h2).grown hg hr⟩
theorem Parts.turn {w:World} {base:Nat} {X Y X' Y':Option Nat} {vs:List Value} {ls:List α} (h:Parts f e size w base X Y vs ls)
    (hx:X' = X ∨ X' = Y ∨ X' = none ∨ ∃ g,X' = some g∧w.heap.size≤g) (hy:Y' = X ∨ Y' = Y ∨ Y' = none ∨ ∃ g,Y' = some g∧w.heap.size≤g):Parts f e size w base X' Y' vs ls:=by
  refine ⟨h.1,fun i h1 h2=>?_⟩
  obtain ⟨A,n,c,hv,ho,hd⟩:=h.2 i h1 h2
  refine ⟨A,n,c,hv,ho,fun k hk=>?_⟩
  obtain ⟨d1,d2⟩:=hd k hk
  have hlt:=(ho.blk k hk).2
  have go:∀ Z:Option Nat,(Z = X ∨ Z = Y ∨ Z = none ∨ ∃ g,Z = some g∧w.heap.size≤g) → Z ≠ some k:=by
    rintro Z (rfl | rfl | rfl | ⟨g,rfl,hg⟩)
    · exact d1
    · exact d2
    · simp
    · intro e;simp only [Option.some.injEq] at e;omega
  exact ⟨go _ hx,go _ hy⟩
theorem Parts.snoc {w:World} {base:Nat} {X Y:Option Nat} {vs:List Value} {ls:List α} (h:Parts f e size w base X Y vs ls) {A:Option Addr} {n c:Nat} {x:α} (ho:Own w base e size A n c (f x)) (hd:∀ k,blkOf A = some k → X ≠ some k∧Y ≠ some k) :
    Parts f e size w base X Y (vs ++ [.slice A n c]) (ls ++ [x]):=by
  refine ⟨by simp [h.1],fun i h1 h2=>?_⟩
  by_cases hi:i < vs.length
  · have hi2:i < ls.length:=by rw [← h.1];exact hi
    rw [List.getElem_append_left hi,List.getElem_append_left hi2]
    exact h.2 i hi hi2
  · have e1:i = vs.length:=by simp at h1;omega
    subst e1
    have e2:vs.length = ls.length:=h.1
    rw [List.getElem_append_right (Nat.le_refl _),List.getElem_append_right (by omega)]
    simp only [Nat.sub_self,List.getElem_singleton,← e2]
    exact ⟨A,n,c,rfl,ho,hd⟩
theorem Parts.below {w w':World} {base:Nat} {X Y:Option Nat} {vs:List Value} {ls:List α} (h:Parts f e size w base X Y vs ls) (hb:Below w.heap.size w w'):Parts f e size w' base X Y vs ls:=h.grown (grown_of_below hb) (.inl rfl)
theorem Parts.push {w w':World} {base m c4:Nat} {A2 A4 A5:Option Addr} {vs:List Value} {ls:List α} {x:α} (hp:Parts f e size w base (blkOf A2) none vs ls) (ho4:Own w base e size A4 m c4 (f x))
    (hd:∀ k,blkOf A4 = some k → blkOf A2 ≠ some k) (hg:w.grownBy w' (blkOf A2)) (hat:blkOf A5 = blkOf A2 ∨ ∃ g,blkOf A5 = some g∧w.heap.size≤g):Parts f e size w' base (blkOf A5) none (vs ++ [.slice A4 m c4]) (ls ++ [x]):=by
  have h1:=(hp.snoc ho4 fun k hk=>⟨hd k hk,by simp⟩).turn (X':=blkOf A5) (Y':=blkOf A2) (by rcases hat with h | h;exact .inl h;exact .inr (.inr (.inr h))) (.inl rfl)
  exact (h1.grown hg (.inr (.inr rfl))).turn (.inl rfl) (.inr (.inr (.inl rfl)))
structure RdRows (f:α → List Value) (e size:Nat) (w:World) (B:Nat) (A:Option Addr) (n:Nat) (ls:List α):Prop where
  len:ls.length = n
  at_:0 < n → ∃ b o,A = some ⟨b,o,none⟩∧b < B∧∀ j (hj:j < ls.length),∃ A' n' c',w.cell? ⟨b,o + j,none⟩ = some (.slice A' n' c')∧n'≤c'∧c'≤maxLen∧Rd w B size A' n' (f ls[j])
theorem RdRows.of {w:World} {base:Nat} {X Y:Option Nat} {vs:List Value} {ls:List α} {A:Option Addr} {n c t:Nat} (ho:Own w base t 1 A n c vs) (h:Parts f e size w base X Y vs ls):RdRows f e size w w.heap.size A n ls:=by
  have hl:=ho.len
  refine ⟨by have:=h.1;omega,fun hn=>?_⟩
  obtain ⟨b,o,rfl,hb,hc⟩:=ho.rd.at_ hn
  refine ⟨b,o,rfl,hb,fun j hj=>?_⟩
  obtain ⟨A',n',c',hv,ho',_⟩:=h.2 j (by rw [h.1];exact hj) hj
  exact ⟨A',n',c',by rw [hc j (by rw [h.1];exact hj),hv],ho'.cap,ho'.capm,ho'.rd⟩
theorem RdRows.below {w w':World} {B:Nat} {A:Option Addr} {n:Nat} {ls:List α} (h:RdRows f e size w B A n ls) (hb:Below B w w'):RdRows f e size w' B A n ls :=
  ⟨h.len,fun hn=>by
    obtain ⟨b,o,hA,hlt,hc⟩:=h.at_ hn
    refine ⟨b,o,hA,hlt,fun j hj=>?_⟩
    obtain ⟨A',n',c',h1,h2,h3,h4⟩:=hc j hj
    exact ⟨A',n',c',(hb.cell (p:=⟨b,o + j,none⟩) hlt).trans h1,h2,h3,h4.below hb⟩⟩
theorem RdRows.more {w:World} {B B':Nat} {A:Option Addr} {n:Nat} {ls:List α} (h:RdRows f e size w B A n ls) (hB:B≤B'):RdRows f e size w B' A n ls :=
  ⟨h.len,fun hn=>by
    obtain ⟨b,o,hA,hlt,hc⟩:=h.at_ hn
    refine ⟨b,o,hA,by omega,fun j hj=>?_⟩
    obtain ⟨A',n',c',h1,h2,h3,h4⟩:=hc j hj
    exact ⟨A',n',c',h1,h2,h3,h4.more hB⟩⟩
theorem RdRows.nil (w:World) (B:Nat) (A:Option Addr):RdRows f e size w B A 0 ([]:List α):=⟨rfl,fun h=>absurd h (by omega)⟩
end
section
variable {P:Program} {t e:TypeId} (hu:P.underlying t = some (.slice e)) {i:TypeInfo} (hi:P.info? e = some i) {w0:World} {B n:Nat} {A:Option Addr} {xs:List Value}
include hu hi
theorem run_slice_upto (h:Rd w0 B i.size A n xs) (c m:Nat) (hm:m≤n) (hc:n≤c) (w:World) :
    (Instr.slice t (.slice A n c) none (some (.int .i64 m)) none).run P w = .ok (.slice A m c) w:=by
  have hel:P.elem t = e:=by unfold Program.elem;rw [hu]
  rw [run_slice_h w t A n c (by rw [hel];exact hu) .i64 m (by omega) (by omega),hel]
  have hs:((sizeOf e).run P w) = .ok i.size w:=by simp [sizeOf,typeInfo,hi]
  rw [hs,Result.andThen_ok]
  simp only [sliced,Int.toNat_natCast,Nat.sub_zero,Nat.zero_mul]
  congr 2
  split
  · rfl
  · rename_i hc0
    rcases Nat.eq_zero_or_pos n with rfl | hn
    · cases A with
      | none=>rfl
      | some a=>simp [Addr.add]
    · obtain ⟨b,o,rfl,_⟩:=h.at_ hn
      simp [add_lit]
theorem run_slice_from (h:Rd w0 B i.size A n xs) (c m:Nat) (hm:m≤n) (hc:n≤c) :
    ∃ A2,(∀ w,(Instr.slice t (.slice A n c) (some (.int .i64 m)) none none).run P w = .ok (.slice A2 (n - m) (c - m)) w)∧Rd w0 B i.size A2 (n - m) (xs.drop (m * i.size)):=by
  refine ⟨_,fun w=>?_,h.cut hm hc⟩
  have hel:P.elem t = e:=by unfold Program.elem;rw [hu]
  rw [run_slice_l w t A n c (by rw [hel];exact hu) .i64 m (by omega) (by omega),hel]
  have hs:((sizeOf e).run P w) = .ok i.size w:=by simp [sizeOf,typeInfo,hi]
  rw [hs,Result.andThen_ok]
  simp only [sliced,Int.toNat_natCast]
end
theorem Rd.take {w:World} {B size n:Nat} {A:Option Addr} {xs:List Value} (h:Rd w B size A n xs) (m:Nat) (hm:m≤n):Rd w B size A m (xs.take (m * size)):=by
  have hl:=h.len
  have hms:m * size≤n * size:=Nat.mul_le_mul_right _ hm
  refine ⟨by rw [List.length_take];omega,fun hn=>?_⟩
  obtain ⟨b,o,rfl,hb,hc⟩:=h.at_ (by omega)
  refine ⟨b,o,rfl,hb,fun j hj=>?_⟩
  rw [List.length_take] at hj
  rw [hc j (by omega),List.getElem_take]
end Go.Proofs.YtnpncpoiiikafaaGreatDoor
