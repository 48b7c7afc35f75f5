/- Reg2 -/
import Derived.Test.YtnpncpoiiikafaaGreatAppQd
import Derived.Test.YtnpncpoiiikafaaGreatZruPQd
import Derived.Lib.SliceRun
set_option linter.unusedVariables false
set_option linter.unusedSimpArgs false
set_option linter.unnecessarySimpa false
set_option maxRecDepth 100000
set_option maxHeartbeats 32000000
namespace Go.Proofs.YtnpncpoiiikafaaGreat
open Go.RowKit
section
variable {P:Program} {ops:Array Oper} {Q:Exit → Act → World → Prop} {md:Region.Mode} {S:World → Prop} {fuel:Nat} {listed:Array Bool} {tmps:Array Value} {defers:List Deferred} {w:World}
theorem take_calli (i:Nat) (f:FuncId) (args:Array Value) (op:Op) (ty:TypeId) {oi:Oper} {d:Nat} (hd:oi.dst = some d) (hop:oi.op = op) (hty:oi.type = ty)
 (hg:Region.wanted oi (yielded ops tmps) = true)
 (he : (execOp (Act.mk tmps defers).eval { dst := some d, op := op, type := ty, pos := "", after := #[], guard := none }).run P w = .ok (.enter f args) w) {K' : Act → World → Prop}
 (h:Calls P f args w fun e w'=>∃ v,e = .returned v∧K' ⟨tmps.setIfInBounds d v,defers⟩ w') {E:Prop} :
 if Region.wanted oi (yielded ops tmps) = true then Oper.wp P oi ⟨tmps,defers⟩ w K' Q else E:=by
 rw [if_pos hg]
 unfold Oper.wp
 rw [execOp_same _ oi { dst := some d, op := op, type := ty, pos := "", after := #[], guard := none } hop hty, he]
 refine h.mono ?_
 rintro e w' ⟨v,rfl,hn⟩
 show K' (Act.put _ oi.dst v) w'
 rw [hd]
 exact hn
theorem take_store (i:Nat) (op:Op) (ty:TypeId) {oi:Oper} (hd:oi.dst = none) (hop:oi.op = op) (hty:oi.type = ty)
 (hg:Region.wanted oi (yielded ops tmps) = true) {w':World}
 (he : (execOp (Act.mk tmps defers).eval { dst := none, op := op, type := ty, pos := "", after := #[], guard := none }).run P w = .ok .skip w')
 {K':Act → World → Prop} (h:K' ⟨tmps,defers⟩ w') {E:Prop} :
 if Region.wanted oi (yielded ops tmps) = true then Oper.wp P oi ⟨tmps,defers⟩ w K' Q else E:=by
 rw [if_pos hg]
 unfold Oper.wp
 rw [execOp_same _ oi { dst := none, op := op, type := ty, pos := "", after := #[], guard := none } hop hty, he]
 show K' (Act.put _ oi.dst undef) w'
 rw [hd]
 exact h
theorem take_new {t:TypeId} {cs:Array Value} (i:Nat) (op:Op) (ty:TypeId) {oi:Oper} {d:Nat} (hd:oi.dst = some d) (hop:oi.op = op) (hty:oi.type = ty)
 (hg:Region.wanted oi (yielded ops tmps) = true)
 (he : (execOp (Act.mk tmps defers).eval { dst := some d, op := op, type := ty, pos := "", after := #[], guard := none }).run P w = .ok (.value (.pointer (some ⟨w.heap.size, 0, none⟩))) (w.alloc (.cells cs t)))
 {K':Act → World → Prop}
 (h:∀ g w',Blk w' g t cs → w.grownBy w' none → w.heap.size≤g → g < w'.heap.size → K' ⟨tmps.setIfInBounds d (.pointer (some ⟨g,0,none⟩)),defers⟩ w') {E:Prop} :
 if Region.wanted oi (yielded ops tmps) = true then Oper.wp P oi ⟨tmps,defers⟩ w K' Q else E :=
 take_any i op ty hd hop hty hg he (h _ _ (Blk.new w t cs) ⟨rfl,rfl,rfl,by simp,fun k hk _=>Below.heap_alloc w _ k hk⟩ (Nat.le_refl _) (by simp))
end
end Go.Proofs.YtnpncpoiiikafaaGreat
namespace Go.Proofs.YtnpncpoiiikafaaGreat
open Go.RowKit
theorem Own.set {w:World} {base e size g n c k:Nat} {xs:List Value} (h:Own w base e size (some ⟨g,0,none⟩) n c xs) (u:Value):Own (w.setCell ⟨g,k,none⟩ u) base e size (some ⟨g,0,none⟩) n c (xs.set k u):=by
 refine ⟨by rw [List.length_set];exact h.1,?_⟩
 rcases h.2 with ⟨hv,_⟩ | ⟨g',cap,cur,hv,hb,hg,hnc,hcm,hcs,htake⟩
 ·simp at hv
 ·simp only [Value.slice.injEq,Option.some.injEq,Addr.mk.injEq,and_true] at hv
  obtain ⟨rfl,_,rfl⟩:=hv
  refine .inr ⟨g,c,cur.setIfInBounds k u,rfl,hb,Blk.set (t:=e) hg k u,hnc,hcm,by simpa using hcs,?_⟩
  subst htake
  simp [List.take_set]
theorem own_thaw {w:World} {base e size g n c:Nat} {xs:List Value} (h:Own w base e size (some ⟨g,0,none⟩) n c xs):∀ k,w.frozen? ⟨g,k,none⟩ = false:=by
 intro k
 rcases h.2 with ⟨hv,_⟩ | ⟨g',cap,cur,hv,hb,hg,_⟩
 ·simp at hv
 ·simp only [Value.slice.injEq,Option.some.injEq,Addr.mk.injEq,and_true] at hv
  obtain ⟨rfl,_,_⟩:=hv
  exact Blk.frozen (t:=e) hg k
theorem grown_set {w w':World} {g k:Nat} (h:w.grownBy w' (some g)) (u:Value):w.grownBy (w'.setCell ⟨g,k,none⟩ u) (some g) :=
 ⟨h.os,h.tape,h.output,by simpa [World.setCell] using h.size,fun j hj hne=>(Below.heap_setCell w' ⟨g,k,none⟩ u j (fun e=>hne (by rw [e]))).trans (h.block j hj hne)⟩
theorem grown_below {w a b:World} {row:Option Nat} (h:w.grownBy a row) (hb:Below a.heap.size a b):w.grownBy b row :=
 ⟨hb.os.trans h.os,hb.tape.trans h.tape,hb.output.trans h.output,Nat.le_trans h.size hb.size,fun k hk hne=>(hb.block k (Nat.lt_of_lt_of_le hk h.size)).trans (h.block k hk hne)⟩
theorem Rd.apart {w:World} {B size n:Nat} {A:Option Addr} {xs:List Value} (h:Rd w B size A n xs) {p:Addr} (hp:∀ k,blkOf A = some k → k ≠ p.block) (u:Value):Rd (w.setCell p u) B size A n xs:=by
 refine ⟨h.len,fun hn=>?_⟩
 obtain ⟨b,o,rfl,hb,hc⟩:=h.at_ hn
 refine ⟨b,o,rfl,hb,fun j hj=>?_⟩
 rw [World.cell?_setCell_other _ _ _ _ (fun e=>hp b rfl (by rw [e]))]
 exact hc j hj
theorem Rd.apart0 {w:World} {B size n:Nat} {A:Option Addr} {xs:List Value} (h:Rd w B size A n xs) {p:Addr} (hp:0 < n → ∀ k,blkOf A = some k → k ≠ p.block) (u:Value):Rd (w.setCell p u) B size A n xs:=by
 rcases Nat.eq_zero_or_pos n with rfl | hn
 ·exact ⟨h.len,fun h0=>absurd h0 (by omega)⟩
 ·exact h.apart (hp hn) u
end Go.Proofs.YtnpncpoiiikafaaGreat
