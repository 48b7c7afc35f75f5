/- Regions whose order is open, taken operation by operation: what yields the same in every world that meets S is taken first; an operation whose guard says no is passed over. No program is named here. -/
import Derived.Test.YtjcbaaabbdcdnaaDoorMem
namespace Go.Proofs.YtjcbaaabbdcdnaaDoor
set_option linter.unusedVariables false
open Go.RowKit

theorem execOp_same (ρ : Operand → Value) (o o' : Oper) (h1 : o.op = o'.op) (h2 : o.type = o'.type) : execOp ρ o = execOp ρ o' := by
  unfold execOp
  rw [h1, h2]

section
variable {P : Program} {ops : Array Oper} {Q : Exit → Act → World → Prop} {md : Region.Mode} {S : World → Prop} {fuel : Nat} {listed : Array Bool} {tmps : Array Value} {defers : List Deferred} {w : World}

/-- Passed over: its guard says no. -/
theorem take_skip (i : Nat) {oi : Oper} {d : Nat} (hi : ops[i]? = some oi) (hd : oi.dst = some d) (hg : Region.wanted oi (yielded ops tmps) = false)
    (hs : Region.noSelect ops = true) (hf : Region.free md ops listed i = true) (hr : (Region.ready md ops listed).contains i = true)
    (hQ : ∀ c a w, Q (.panic c) (a.put oi.dst undef) w → Q (.panic c) a w) (hS : S w)
    (h : wpAnyH P md ops Q S fuel (listed.setIfInBounds i true) ⟨tmps.setIfInBounds d undef, defers⟩ w) : wpAnyH P md ops Q S (fuel + 1) listed ⟨tmps, defers⟩ w :=
  wpAnyH_take (v := undef) hi hs hf hr hQ (.inr ⟨hg, rfl⟩) hS (by rw [hd]; exact h)

/-- Taken first: it yields v in every world that meets S. -/
theorem take_op (i : Nat) (op : Op) (ty : TypeId) {v : Value} {oi : Oper} {d : Nat} (hi : ops[i]? = some oi) (hd : oi.dst = some d) (hop : oi.op = op) (hty : oi.type = ty) (hg : Region.wanted oi (yielded ops tmps) = true)
    (hs : Region.noSelect ops = true) (hf : Region.free md ops listed i = true) (hr : (Region.ready md ops listed).contains i = true)
    (hQ : ∀ c a w, Q (.panic c) (a.put oi.dst v) w → Q (.panic c) a w)
    (hy : ∀ w, S w → (execOp (Act.mk tmps defers).eval { dst := some d, op := op, type := ty, pos := "", after := #[], guard := none }).run P w = .ok (.value v) w) (hS : S w)
    (h : wpAnyH P md ops Q S fuel (listed.setIfInBounds i true) ⟨tmps.setIfInBounds d v, defers⟩ w) : wpAnyH P md ops Q S (fuel + 1) listed ⟨tmps, defers⟩ w :=
  wpAnyH_take (v := v) hi hs hf hr hQ (.inl ⟨hg, fun w hw => by rw [execOp_same _ oi { dst := some d, op := op, type := ty, pos := "", after := #[], guard := none } hop hty]; exact hy w hw⟩) hS (by rw [hd]; exact h)

/-- Taken first: a value that is handed on. -/
theorem take_move (i : Nat) (x : Operand) {oi : Oper} {d : Nat} (hi : ops[i]? = some oi) (hd : oi.dst = some d) (hop : oi.op = .move x ∨ oi.op = .assign x) (hg : Region.wanted oi (yielded ops tmps) = true)
    (hs : Region.noSelect ops = true) (hf : Region.free md ops listed i = true) (hr : (Region.ready md ops listed).contains i = true)
    (hQ : ∀ c a w, Q (.panic c) (a.put oi.dst ((Act.mk tmps defers).eval x)) w → Q (.panic c) a w) (hS : S w)
    (h : wpAnyH P md ops Q S fuel (listed.setIfInBounds i true) ⟨tmps.setIfInBounds d ((Act.mk tmps defers).eval x), defers⟩ w) : wpAnyH P md ops Q S (fuel + 1) listed ⟨tmps, defers⟩ w :=
  wpAnyH_take hi hs hf hr hQ (.inl ⟨hg, fun w _ => by unfold execOp; rcases hop with h | h <;> rw [h] <;> rfl⟩) hS (by rw [hd]; exact h)

/-- Taken first: a value that is handed on, written out. -/
theorem take_movev {v : Value} (i : Nat) (x : Operand) {oi : Oper} {d : Nat} (hi : ops[i]? = some oi) (hd : oi.dst = some d) (hop : oi.op = .move x ∨ oi.op = .assign x) (hg : Region.wanted oi (yielded ops tmps) = true)
    (hs : Region.noSelect ops = true) (hf : Region.free md ops listed i = true) (hr : (Region.ready md ops listed).contains i = true)
    (hQ : ∀ c a w, Q (.panic c) (a.put oi.dst v) w → Q (.panic c) a w) (hS : S w) (hv : (Act.mk tmps defers).eval x = v)
    (h : wpAnyH P md ops Q S fuel (listed.setIfInBounds i true) ⟨tmps.setIfInBounds d v, defers⟩ w) : wpAnyH P md ops Q S (fuel + 1) listed ⟨tmps, defers⟩ w := by
  subst hv
  exact take_move i x hi hd hop hg hs hf hr hQ hS h

/-- The one operation that may come up now is carried out: a call of function f. -/
theorem take_call (i : Nat) (f : FuncId) (xs : List Operand) (ats : Array TypeId) {oi : Oper} {d : Nat} (hr : Region.ready md ops listed = [i]) (hi : ops[i]? = some oi) (hd : oi.dst = some d)
    (hop : oi.op = .call { callee := .value (.func f), args := xs.toArray, argTypes := ats }) (hg : Region.wanted oi (yielded ops tmps) = true) (hc : ∀ args w, (callFunc f args).run P w = .ok (.enter f args) w)
    (h : Calls P f (xs.map (Act.mk tmps defers).eval).toArray w fun e w' => ∃ v, e = .returned v ∧ S w' ∧ (S w' → wpAnyH P md ops Q S fuel (listed.setIfInBounds i true) ⟨tmps.setIfInBounds d v, defers⟩ w')) : wpAnyH P md ops Q S (fuel + 1) listed ⟨tmps, defers⟩ w := by
  refine wpAnyH_ready hr (by simp) (AllReadyH.cons hi (fun K hK => ?_) AllReadyH.nil)
  rw [if_pos hg]
  unfold Oper.wp
  have e : execOp (Act.mk tmps defers).eval oi = callFunc f (xs.map (Act.mk tmps defers).eval).toArray := by
    rw [execOp_same _ oi { dst := none, op := .call { callee := .value (.func f), args := xs.toArray, argTypes := ats }, type := oi.type, pos := "", after := #[], guard := none } hop rfl, execOp_call_go]
    simp
  rw [e, hc]
  refine h.mono ?_
  rintro e w' ⟨v, rfl, hS, hn⟩
  refine hK.out _ _ hS fun hS' => ?_
  rw [hd]
  exact hn hS'

/-- The one operation that may come up now is carried out here: it makes memory. -/
theorem take_run (i : Nat) (op : Op) (ty : TypeId) {v : Value} {w' : World} {oi : Oper} {d : Nat} (hr : Region.ready md ops listed = [i]) (hi : ops[i]? = some oi) (hd : oi.dst = some d) (hop : oi.op = op) (hty : oi.type = ty)
    (hg : Region.wanted oi (yielded ops tmps) = true)
    (he : (execOp (Act.mk tmps defers).eval { dst := some d, op := op, type := ty, pos := "", after := #[], guard := none }).run P w = .ok (.value v) w') (hS : S w')
    (h : S w' → wpAnyH P md ops Q S fuel (listed.setIfInBounds i true) ⟨tmps.setIfInBounds d v, defers⟩ w') : wpAnyH P md ops Q S (fuel + 1) listed ⟨tmps, defers⟩ w := by
  refine wpAnyH_ready hr (by simp) (AllReadyH.cons hi (fun K hK => ?_) AllReadyH.nil)
  rw [if_pos hg]
  unfold Oper.wp
  rw [execOp_same _ oi { dst := some d, op := op, type := ty, pos := "", after := #[], guard := none } hop hty, he]
  refine hK.out _ _ hS fun hS' => ?_
  rw [hd]
  exact h hS'

theorem run_enter {f : FuncId} {fn : Func} {c : Code} (hf : P.funcs[f]? = some fn) (hname : (fn.name == "runtime.NumGoroutine") = false) (hb : fn.body = some c) (args : Array Value) (w : World) :
    (callFunc f args).run P w = .ok (.enter f args) w := by
  have h1 : fn.name ≠ "runtime.NumGoroutine" := by simpa using hname
  simp [callFunc, hf, h1, hb]
end
end Go.Proofs.YtjcbaaabbdcdnaaDoor
