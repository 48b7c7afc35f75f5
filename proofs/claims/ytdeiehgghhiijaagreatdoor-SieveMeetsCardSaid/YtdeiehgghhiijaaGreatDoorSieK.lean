/- The law on a sentence that no call made. -/
import Derived.Test.YtdeiehgghhiijaaGreatDoorSieJ
namespace Go.Proofs.YtdeiehgghhiijaaGreatDoor
set_option linter.unusedVariables false
set_option linter.unusedSimpArgs false
set_option linter.unnecessarySimpa false
open Go.RowKit
namespace SieW
open SkpW (Me mc sM tM)

end SieW
end Go.Proofs.YtdeiehgghhiijaaGreatDoor
