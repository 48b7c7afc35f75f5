/- Regions whose order is open, once more: a call that panics, a store, a load that is met where it comes. No program is named here. -/
import Derived.Test.YtdeiehgghhiijaaDoorApp
namespace Go.Proofs.YtdeiehgghhiijaaDoor
set_option linter.unusedVariables false
open Go.RowKit
section
variable {P : Program} {ops : Array Oper} {Q : Exit → Act → World → Prop} {md : Region.Mode} {S : World → Prop} {fuel : Nat} {listed : Array Bool} {tmps : Array Value} {defers : List Deferred} {w : World}

/-- A call of function f, in a region: it panics. -/
theorem take_callp (i : Nat) (f : FuncId) (xs : List Operand) (ats : Array TypeId) {oi : Oper}
    (hop : oi.op = .call { callee := .value (.func f), args := xs.toArray, argTypes := ats }) (hg : Region.wanted oi (yielded ops tmps) = true) (hc : ∀ args w, (callFunc f args).run P w = .ok (.enter f args) w) {K' : Act → World → Prop}
    (h : Calls P f (xs.map (Act.mk tmps defers).eval).toArray w fun e w' => ∃ c, e = .panicked c ∧ Q (.panic c) ⟨tmps, defers⟩ w') {E : Prop} :
    if Region.wanted oi (yielded ops tmps) = true then Oper.wp P oi ⟨tmps, defers⟩ w K' Q else E := by
  rw [if_pos hg]
  unfold Oper.wp
  have e : execOp (Act.mk tmps defers).eval oi = callFunc f (xs.map (Act.mk tmps defers).eval).toArray := by
    rw [execOp_same _ oi { dst := none, op := .call { callee := .value (.func f), args := xs.toArray, argTypes := ats }, type := oi.type, pos := "", after := #[], guard := none } hop rfl, execOp_call_go]
    simp
  rw [e, hc]
  refine h.mono ?_
  rintro e w' ⟨v, rfl, hn⟩
  exact hn

/-- A call that is told by its run (a method of an interface's value), in a region. -/
theorem take_calli (i : Nat) (f : FuncId) (args : Array Value) (op : Op) (ty : TypeId) {oi : Oper} {d : Nat} (hd : oi.dst = some d) (hop : oi.op = op) (hty : oi.type = ty)
    (hg : Region.wanted oi (yielded ops tmps) = true)
    (he : (execOp (Act.mk tmps defers).eval { dst := some d, op := op, type := ty, pos := "", after := #[], guard := none }).run P w = .ok (.enter f args) w) {K' : Act → World → Prop}
    (h : Calls P f args w fun e w' => ∃ v, e = .returned v ∧ K' ⟨tmps.setIfInBounds d v, defers⟩ w') {E : Prop} :
    if Region.wanted oi (yielded ops tmps) = true then Oper.wp P oi ⟨tmps, defers⟩ w K' Q else E := by
  rw [if_pos hg]
  unfold Oper.wp
  rw [execOp_same _ oi { dst := some d, op := op, type := ty, pos := "", after := #[], guard := none } hop hty, he]
  refine h.mono ?_
  rintro e w' ⟨v, rfl, hn⟩
  show K' (Act.put _ oi.dst v) w'
  rw [hd]
  exact hn
/-- A store, in a region. -/
theorem take_store (i : Nat) (op : Op) (ty : TypeId) {oi : Oper} (hd : oi.dst = none) (hop : oi.op = op) (hty : oi.type = ty)
    (hg : Region.wanted oi (yielded ops tmps) = true) {w' : World}
    (he : (execOp (Act.mk tmps defers).eval { dst := none, op := op, type := ty, pos := "", after := #[], guard := none }).run P w = .ok .skip w')
    {K' : Act → World → Prop} (h : K' ⟨tmps, defers⟩ w') {E : Prop} :
    if Region.wanted oi (yielded ops tmps) = true then Oper.wp P oi ⟨tmps, defers⟩ w K' Q else E := by
  rw [if_pos hg]
  unfold Oper.wp
  rw [execOp_same _ oi { dst := none, op := op, type := ty, pos := "", after := #[], guard := none } hop hty, he]
  show K' (Act.put _ oi.dst undef) w'
  rw [hd]
  exact h
/-- A variable is made inside a region. -/
theorem take_new {t : TypeId} {cs : Array Value} (i : Nat) (op : Op) (ty : TypeId) {oi : Oper} {d : Nat} (hd : oi.dst = some d) (hop : oi.op = op) (hty : oi.type = ty)
    (hg : Region.wanted oi (yielded ops tmps) = true)
    (he : (execOp (Act.mk tmps defers).eval { dst := some d, op := op, type := ty, pos := "", after := #[], guard := none }).run P w = .ok (.value (.pointer (some ⟨w.heap.size, 0, none⟩))) (w.alloc (.cells cs t)))
    {K' : Act → World → Prop}
    (h : ∀ g w', Blk w' g t cs → w.grownBy w' none → w.heap.size ≤ g → g < w'.heap.size → K' ⟨tmps.setIfInBounds d (.pointer (some ⟨g, 0, none⟩)), defers⟩ w') {E : Prop} :
    if Region.wanted oi (yielded ops tmps) = true then Oper.wp P oi ⟨tmps, defers⟩ w K' Q else E :=
  take_any i op ty hd hop hty hg he (h _ _ (Blk.new w t cs) ⟨rfl, rfl, rfl, by simp, fun k hk _ => Below.heap_alloc w _ k hk⟩ (Nat.le_refl _) (by simp))
end
end Go.Proofs.YtdeiehgghhiijaaDoor
