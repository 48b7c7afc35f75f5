/- Walks over the laws of package lens: some fixed answers. Walks over the laws of package lens: LensLooks. Walks over the laws of package lens: LensFinds. -/
import Derived.Test.YtdfclgpkhfpkhaaLenK
import Derived.Test.YtdfclgpkhfpkhaaSame
import Derived.Test.YtdfclgpkhfpkhaaOpen
import Derived.Test.YtdfclgpkhfpkhaaLfF
namespace Go.Proofs.Ytdfclgpkhfpkhaa
set_option linter.unusedVariables false
set_option linter.unusedSimpArgs false
set_option linter.unnecessarySimpa false
open Go.RowKit
namespace LenW

end LenW
end Go.Proofs.Ytdfclgpkhfpkhaa

namespace Go.Proofs.Ytdfclgpkhfpkhaa
set_option linter.unusedVariables false
set_option linter.unusedSimpArgs false
set_option linter.unnecessarySimpa false
open Go.RowKit Go.ChangeShapes Go.WideShapes Go.Deep
namespace LenW

theorem lt_end (z : Int) : ¬ (z != z) = true := by simp
end LenW
end Go.Proofs.Ytdfclgpkhfpkhaa

namespace Go.Proofs.Ytdfclgpkhfpkhaa
set_option linter.unusedVariables false
set_option linter.unusedSimpArgs false
set_option linter.unnecessarySimpa false
open Go.RowKit Go.ChangeShapes Go.WideShapes Go.Deep
namespace LenW

theorem refBest_yes (A : Option Addr) (n c : Nat) (l : List Int) (most : Int) (w : World) (h : Rd w w.heap.size 1 A n (ints l)) (hv : refuseW l most = 0) :
    Calls Try.prog 47 #[.slice A n c, .int .i64 most] w fun e w' => ∃ g, w.heap.size ≤ g ∧ g < w'.heap.size ∧ e = .returned (.tuple #[.slice (some ⟨g, 0, none⟩) n n, .int .i64 0]) ∧ Blk w' g 3 (ints (bestW l most.toNat)).toArray ∧ Below w.heap.size w w' := by
  by_cases h0 : usedL l = 0
  · exact refBest_none A n c l most w h hv h0
  · by_cases h1 : usedL l = 1
    · exact refBest_one A n c l most w h hv h1
    · have C := refBest_many A n c l most w h hv (by omega)
      have hm := (refuseW_ok hv).2.1
      rw [← rd_len h, best_same l _ (by omega), show most.toNat - 1 + 1 = most.toNat by omega, rd_len h] at C
      exact C
end LenW
end Go.Proofs.Ytdfclgpkhfpkhaa
