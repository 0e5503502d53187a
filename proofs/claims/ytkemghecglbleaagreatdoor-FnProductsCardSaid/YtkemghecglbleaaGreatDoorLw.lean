/- What the logarithm gives on both sides. -/
import Derived.Test.YtkemghecglbleaaGreatDoorYa
import Derived.Test.YtkemghecglbleaaGreatDoorRt
import Derived.Test.YtkemghecglbleaaGreatDoorLo
import Derived.Lib.Hide
namespace Go.Proofs.YtkemghecglbleaaGreatDoor
set_option maxRecDepth 100000
open Go.RowKit

end Go.Proofs.YtkemghecglbleaaGreatDoor
