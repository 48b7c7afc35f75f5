/- Walks over the laws of package lens: LensBest. -/
import Derived.Test.YtdfclgpkhfpkhaaLfM
import Derived.Test.YtdfclgpkhfpkhaaLenN
namespace Go.Proofs.Ytdfclgpkhfpkhaa
set_option linter.unusedVariables false
set_option linter.unusedSimpArgs false
set_option linter.unnecessarySimpa false
open Go.RowKit Go.ChangeShapes Go.WideShapes Go.Deep
namespace LenW

/-- The lengths of those that come. -/
def ownK (l o : List Int) (k : Nat) : List Int := (List.range k).map fun j => if l[j]?.getD 0 = 0 then 0 else o[j]?.getD 0
theorem ownK_len (l o : List Int) (k : Nat) : (ownK l o k).length = k := by simp [ownK]
theorem ownK_succ (l o : List Int) (k : Nat) : ownK l o (k + 1) = ownK l o k ++ [if l[k]?.getD 0 = 0 then 0 else o[k]?.getD 0] := by simp [ownK, List.range_succ]
theorem ownK_at (l o : List Int) (k s : Nat) (h : s < k) : (ownK l o k)[s]?.getD 0 = if l[s]?.getD 0 = 0 then 0 else o[s]?.getD 0 := by simp [ownK, h]
def fitS (l o : List Int) (most : Int) (s : Nat) : Prop := (0 < l[s]?.getD 0 → 1 ≤ o[s]?.getD 0 ∧ o[s]?.getD 0 ≤ most)
end LenW
end Go.Proofs.Ytdfclgpkhfpkhaa
