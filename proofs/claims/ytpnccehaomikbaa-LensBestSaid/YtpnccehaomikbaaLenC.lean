/- The walks of package lens: things against one another; they are sorted. -/
import Derived.Test.YtpnccehaomikbaaLenB
import Derived.Test.YtpnccehaomikbaaLenR
import Derived.Test.YtpnccehaomikbaaReg2
import Derived.Test.YtpnccehaomikbaaSkpD
import Derived.Laws.EntriesVeiled
import Derived.BigQuiet
namespace Go.Proofs.Ytpnccehaomikbaa
set_option linter.unusedVariables false
set_option linter.unusedSimpArgs false
set_option linter.unnecessarySimpa false
open Go.RowKit
namespace LenW

def cmpV (x y : Int) : Int := if x < y then -1 else if y < x then 1 else 0
theorem nan_any (x : Int) (w : World) : Calls Try.prog 37 #[.int .i64 x] w fun e w' => e = .returned (.bool false) ∧ w' = w := by
  have h : (x != x) = false := by simp
  go_enter Try.func37, Try.ntmps37
  go_wp2_with fail
  go_ret
  exact ⟨rfl, rfl⟩
theorem compare_any (x y : Int) (w : World) (v : Int) (hv : cmpV x y = v) : Calls Try.prog 34 #[.int .i64 x, .int .i64 y] w fun e w' => e = .returned (.int .i64 v) ∧ w' = w := by
  have C1 := nan_any x w
  have C2 := nan_any y w
  have hc : x < y ∨ (¬ x < y ∧ x > y) ∨ (¬ x < y ∧ ¬ x > y) := by omega
  unfold cmpV at hv
  rcases hc with h1 | ⟨h1, h2⟩ | ⟨h1, h2⟩
  · rw [if_pos h1] at hv; subst hv
    go_enter Try.func34, Try.ntmps34
    go_wp2_with fail
    refine C1.mono ?_
    rintro e w1 ⟨rfl, rfl⟩
    go_wp2_with fail
    refine C2.mono ?_
    rintro e w2 ⟨rfl, rfl⟩
    go_wp2_with fail
    go_ret
    exact ⟨rfl, rfl⟩
  · rw [if_neg h1, if_pos h2] at hv; subst hv
    go_enter Try.func34, Try.ntmps34
    go_wp2_with fail
    refine C1.mono ?_
    rintro e w1 ⟨rfl, rfl⟩
    go_wp2_with fail
    refine C2.mono ?_
    rintro e w2 ⟨rfl, rfl⟩
    go_wp2_with fail
    go_ret
    exact ⟨rfl, rfl⟩
  · rw [if_neg h1, if_neg (by omega)] at hv; subst hv
    go_enter Try.func34, Try.ntmps34
    go_wp2_with fail
    refine C1.mono ?_
    rintro e w1 ⟨rfl, rfl⟩
    go_wp2_with fail
    refine C2.mono ?_
    rintro e w2 ⟨rfl, rfl⟩
    go_wp2_with fail
    go_ret
    exact ⟨rfl, rfl⟩
set_option maxRecDepth 100000 in
theorem against_any (a s b t : Int) (w : World) (v : Int) (hv : cmpV a b = v) : Calls Try.prog 30 #[.agg #[.int .i64 a, .int .i64 s], .agg #[.int .i64 b, .int .i64 t]] w fun e w' => e = .returned (.int .i64 v) ∧ Below w.heap.size w w' := by
  have C := fun w => compare_any a b w v hv
  have b1 := (Blk.new w 39 #[.int .i64 a, .int .i64 s]).alloc (.cells #[.int .i64 b, .int .i64 t] 39)
  have b2 := Blk.new (w.alloc (.cells #[.int .i64 a, .int .i64 s] 39)) 39 #[.int .i64 b, .int .i64 t]
  rw [World.size_alloc] at b2
  obtain ⟨c0, c1, _, _, _⟩ := blk2 b1
  obtain ⟨d0, d1, _, _, _⟩ := blk2 b2
  clear hv
  go_enter Try.func30, Try.ntmps30
  go_wp2_with fail
  refine (C _).mono ?_
  rintro e w1 ⟨rfl, rfl⟩
  go_wp2_with fail
  go_ret
  exact ⟨rfl, ((Below.refl _ w).alloc (Nat.le_refl _) _).alloc (by simp) _⟩
theorem take_callv {P : Program} {ops : Array Oper} {tmps : Array Value} {defers : _} {w : World} {Q : Exit → Act → World → Prop} (i : Nat) (f : FuncId) (x : Nat) (xs : List Operand) (ats : Array TypeId) {oi : Oper} {d : Nat} (hd : oi.dst = some d)
    (hop : oi.op = .call { callee := .value (.tmp x), args := xs.toArray, argTypes := ats }) (hg : Region.wanted oi (yielded ops tmps) = true) (hx : (Act.mk tmps defers).eval (.tmp x) = .func (.func f) #[] #[]) (hc : ∀ args w, (callFunc f args).run P w = .ok (.enter f args) w) {K' : Act → World → Prop}
    (h : Calls P f (xs.map (Act.mk tmps defers).eval).toArray w fun e w' => ∃ v, e = .returned v ∧ K' ⟨tmps.setIfInBounds d v, defers⟩ w') {E : Prop} :
    if Region.wanted oi (yielded ops tmps) = true then Oper.wp P oi ⟨tmps, defers⟩ w K' Q else E := by
  rw [if_pos hg]
  unfold Oper.wp
  have e : execOp (Act.mk tmps defers).eval oi = callFunc f (xs.map (Act.mk tmps defers).eval).toArray := by
    have e1 : execOp (Act.mk tmps defers).eval oi = execOp (Act.mk tmps defers).eval { dst := none, op := .call { callee := .value (.func f), args := xs.toArray, argTypes := ats }, type := oi.type, pos := "", after := #[], guard := none } := by
      rw [execOp_same _ oi { dst := none, op := .call { callee := .value (.tmp x), args := xs.toArray, argTypes := ats }, type := oi.type, pos := "", after := #[], guard := none } hop rfl]
      unfold execOp
      dsimp only
      unfold resolve
      dsimp only
      rw [hx]
      rfl
    rw [e1, execOp_call_go]
    simp
  rw [e, hc]
  refine h.mono ?_
  rintro e w' ⟨v, rfl, hn⟩
  show K' (Act.put _ oi.dst v) w'
  rw [hd]
  exact hn
end LenW
end Go.Proofs.Ytpnccehaomikbaa
