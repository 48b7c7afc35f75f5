/- Walks over bits' reference: Pack, Unpack. -/
import Derived.Test.YtedoeplhjmkllaaBitB
import Derived.Test.YtedoeplhjmkllaaReg2
namespace Go.Proofs.Ytedoeplhjmkllaa
set_option linter.unusedVariables false
set_option linter.unusedSimpArgs false
set_option linter.unnecessarySimpa false
open Go.RowKit
namespace BitW

theorem fieldsB_lt (l : List (Int × Int)) : ∀ d ∈ fieldsB l, d < 2 := by
  intro d h
  obtain ⟨f, _, hd⟩ := List.mem_flatMap.1 h
  exact dg_lt _ _ d hd
theorem getB_okl {l : List Nat} {p : Nat} {x : Int} (h : (getB l p x).2 = 0) : 0 ≤ x ∧ x ≤ 32 ∧ p + x.toNat ≤ l.length := by
  unfold getB at h
  split at h
  · cases h
  · split at h
    · cases h
    · omega
end BitW
end Go.Proofs.Ytedoeplhjmkllaa
