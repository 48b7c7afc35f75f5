/- SkpD -/
import Derived.Test.YtnpncpoiiikafaaGreatDoorAppQs
import Derived.Test.YtnpncpoiiikafaaGreatDoorSieJQs
import Derived.Lib.SliceRun
set_option linter.unusedVariables false
set_option linter.unusedSimpArgs false
set_option linter.unnecessarySimpa false
namespace Go.Proofs.YtnpncpoiiikafaaGreatDoor
open Go.RowKit
theorem Own.set {w:World} {base e size g n c k:Nat} {xs:List Value} (h:Own w base e size (some ⟨g,0,none⟩) n c xs) (u:Value):Own (w.setCell ⟨g,k,none⟩ u) base e size (some ⟨g,0,none⟩) n c (xs.set k u):=by
  refine ⟨by rw [List.length_set];exact h.1,?_⟩
  rcases h.2 with ⟨hv,_⟩ | ⟨g',cap,cur,hv,hb,hg,hnc,hcm,hcs,htake⟩
  · simp at hv
  · simp only [Value.slice.injEq,Option.some.injEq,Addr.mk.injEq,and_true] at hv
    obtain ⟨rfl,_,rfl⟩:=hv
    refine .inr ⟨g,c,cur.setIfInBounds k u,rfl,hb,Blk.set (t:=e) hg k u,hnc,hcm,by simpa using hcs,?_⟩
    subst htake
    simp [List.take_set]
theorem Own.short {w:World} {base e size n c i:Nat} {A:Option Addr} {xs:List Value} (h:Own w base e size A n c xs) (hi:i≤n):Own w base e size A i c (xs.take (i * size)):=by
  have hm:=Nat.mul_le_mul_right size hi
  refine ⟨by rw [List.length_take,h.1];omega,?_⟩
  rcases h.2 with ⟨hv,hn⟩ | ⟨g',cap,cur,hv,hb,hg,hnc,hcm,hcs,htake⟩
  · simp only [Value.slice.injEq] at hv
    obtain ⟨rfl,_,rfl⟩:=hv
    obtain rfl:i = 0:=by omega
    exact .inl ⟨rfl,rfl⟩
  · simp only [Value.slice.injEq] at hv
    obtain ⟨rfl,_,rfl⟩:=hv
    refine .inr ⟨g',c,cur,rfl,hb,hg,by omega,hcm,hcs,?_⟩
    rw [← htake,List.take_take,Nat.min_eq_left hm]
theorem own_thaw {w:World} {base e size g n c:Nat} {xs:List Value} (h:Own w base e size (some ⟨g,0,none⟩) n c xs):∀ k,w.frozen? ⟨g,k,none⟩ = false:=by
  intro k
  rcases h.2 with ⟨hv,_⟩ | ⟨g',cap,cur,hv,hb,hg,_⟩
  · simp at hv
  · simp only [Value.slice.injEq,Option.some.injEq,Addr.mk.injEq,and_true] at hv
    obtain ⟨rfl,_,_⟩:=hv
    exact Blk.frozen (t:=e) hg k
theorem grown_set {w w':World} {g k:Nat} (h:w.grownBy w' (some g)) (u:Value):w.grownBy (w'.setCell ⟨g,k,none⟩ u) (some g) :=
  ⟨h.os,h.tape,h.output,by simpa [World.setCell] using h.size,fun j hj hne=>(Below.heap_setCell w' ⟨g,k,none⟩ u j (fun e=>hne (by rw [e]))).trans (h.block j hj hne)⟩
theorem grown_below {w a b:World} {row:Option Nat} (h:w.grownBy a row) (hb:Below a.heap.size a b):w.grownBy b row :=
  ⟨hb.os.trans h.os,hb.tape.trans h.tape,hb.output.trans h.output,Nat.le_trans h.size hb.size,fun k hk hne=>(hb.block k (Nat.lt_of_lt_of_le hk h.size)).trans (h.block k hk hne)⟩
theorem Rd.apart {w:World} {B size n:Nat} {A:Option Addr} {xs:List Value} (h:Rd w B size A n xs) {p:Addr} (hp:∀ k,blkOf A = some k → k ≠ p.block) (u:Value):Rd (w.setCell p u) B size A n xs:=by
  refine ⟨h.len,fun hn=>?_⟩
  obtain ⟨b,o,rfl,hb,hc⟩:=h.at_ hn
  refine ⟨b,o,rfl,hb,fun j hj=>?_⟩
  rw [World.cell?_setCell_other _ _ _ _ (fun e=>hp b rfl (by rw [e]))]
  exact hc j hj
theorem Rd.apart0 {w:World} {B size n:Nat} {A:Option Addr} {xs:List Value} (h:Rd w B size A n xs) {p:Addr} (hp:0 < n → ∀ k,blkOf A = some k → k ≠ p.block) (u:Value):Rd (w.setCell p u) B size A n xs:=by
  rcases Nat.eq_zero_or_pos n with rfl | hn
  · exact ⟨h.len,fun h0=>absurd h0 (by omega)⟩
  · exact h.apart (hp hn) u
end Go.Proofs.YtnpncpoiiikafaaGreatDoor
