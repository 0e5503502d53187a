/- ReadNumbers: the statement walked. -/
import Derived.Test.YticeapacffgikaaGreatDoorGn
import Derived.Test.YticeapacffgikaaGreatDoorGw
namespace Go.Proofs.YticeapacffgikaaGreatDoor
set_option maxRecDepth 100000
set_option linter.unusedVariables false
open Go.Lib Go.RowKit Go.Sort
end Go.Proofs.YticeapacffgikaaGreatDoor
