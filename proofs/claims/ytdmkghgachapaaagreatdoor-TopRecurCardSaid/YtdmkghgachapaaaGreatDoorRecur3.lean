/- Contract of the reference's RecurError. -/
import Derived.Test.YtdmkghgachapaaaGreatDoorMgR
import Derived.RegionTactic
import Derived.ChangeAlike
namespace Go.Proofs.YtdmkghgachapaaaGreatDoor
set_option linter.unusedVariables false
set_option maxRecDepth 100000
open Go.RowKit

end Go.Proofs.YtdmkghgachapaaaGreatDoor
