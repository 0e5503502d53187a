/- What the logarithm gives on both sides. -/
import Derived.Test.YticeapacffgikaaGreatDoorWc
import Derived.Test.YticeapacffgikaaGreatDoorRt
import Derived.Test.YticeapacffgikaaGreatDoorLo
import Derived.Lib.Hide
namespace Go.Proofs.YticeapacffgikaaGreatDoor
set_option maxRecDepth 100000
open Go.RowKit

end Go.Proofs.YticeapacffgikaaGreatDoor
