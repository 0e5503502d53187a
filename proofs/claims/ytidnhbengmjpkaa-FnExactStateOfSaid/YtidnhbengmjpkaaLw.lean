/- What the logarithm gives on both sides. -/
import Derived.Test.YtidnhbengmjpkaaWc
import Derived.Test.YtidnhbengmjpkaaRt
import Derived.Test.YtidnhbengmjpkaaLo
import Derived.Lib.Hide
namespace Go.Proofs.Ytidnhbengmjpkaa
set_option maxRecDepth 100000
open Go.RowKit

end Go.Proofs.Ytidnhbengmjpkaa
