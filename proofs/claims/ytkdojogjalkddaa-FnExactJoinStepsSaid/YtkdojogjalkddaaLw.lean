/- What the logarithm gives on both sides. -/
import Derived.Test.YtkdojogjalkddaaZa
import Derived.Test.YtkdojogjalkddaaRt
import Derived.Test.YtkdojogjalkddaaLo
import Derived.Lib.Hide
namespace Go.Proofs.Ytkdojogjalkddaa
set_option maxRecDepth 100000
open Go.RowKit

end Go.Proofs.Ytkdojogjalkddaa
