/- Walks over package bits: Pack. -/
import Derived.Test.YtedoeplhjmkllaaBitU
namespace Go.Proofs.Ytedoeplhjmkllaa
set_option linter.unusedVariables false
set_option linter.unusedSimpArgs false
set_option linter.unnecessarySimpa false
open Go.RowKit
namespace BitW

end BitW
end Go.Proofs.Ytedoeplhjmkllaa
