/- Walks over varint's reference: a number is taken. -/
import Derived.Test.YtnghmcadhjneeaaVarW
namespace Go.Proofs.Ytnghmcadhjneeaa
set_option linter.unusedVariables false
set_option linter.unusedSimpArgs false
set_option linter.unnecessarySimpa false
open Go.RowKit
namespace VarW

end VarW
end Go.Proofs.Ytnghmcadhjneeaa
