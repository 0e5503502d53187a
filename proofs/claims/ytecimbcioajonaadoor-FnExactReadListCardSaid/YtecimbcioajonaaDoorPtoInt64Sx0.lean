-- PRINTED BY print.sh 35421559b90ae4d0a3588c463048766b98c2df88dd9212a6774a882060cdf62d: not written by this session
import Derived.Test.YtecimbcioajonaaDoorProg
import Derived.Below
import Derived.Deep.Draws
import Derived.Deep.AppendLies
import Derived.Maps.AppendAt
import Derived.OwnWalk
import Derived.Laws.BytesArg
import Derived.Laws.MakeOwn
import Derived.Laws.OwnMore
import Derived.Deep.OwnRows
import Derived.Tactics
import Derived.Lib.ConvBytes
import Derived.Laws.Slices
import Derived.WalkKit
import Derived.KernelRfl
import Derived.RowKit3
import Derived.Deep.LoopGhost
import Derived.Deep.QuietTactic
import Derived.BigQuiet
import Derived.WideLaws
import Derived.Deep.DeepCutAuto
import Derived.Deep.CutBlock
import Derived.Deep.RegionHeld3
import Derived.Laws.Rows
import Derived.Lib.AppendStr
import Derived.ArgAppend
import Derived.Laws.IdiomCopy
import Derived.OrdersHeld
import Derived.Laws.BitsLemmas
import Derived.RowKit
import Derived.Test.YtecimbcioajonaaDoorWWords
import Derived.Test.YtecimbcioajonaaDoorWLast
import Derived.Test.YtecimbcioajonaaDoorWTab
import Derived.Test.YtecimbcioajonaaDoorWFour
import Derived.Test.YtecimbcioajonaaDoorWQPut
import Derived.Test.YtecimbcioajonaaDoorWApart
import Derived.Test.YtecimbcioajonaaDoorWArr
import Derived.Test.YtecimbcioajonaaDoorWZeros
import Derived.Test.YtecimbcioajonaaDoorWFoot
import Derived.Test.YtecimbcioajonaaDoorWKept
import Derived.Test.YtecimbcioajonaaDoorWShare
import Derived.Test.YtecimbcioajonaaDoorWN
import Derived.Test.YtecimbcioajonaaDoorWFootNe
import Derived.Test.YtecimbcioajonaaDoorWAt
import Derived.Test.YtecimbcioajonaaDoorWEqStruct
import Derived.Test.YtecimbcioajonaaDoorWRepsOne
import Derived.Test.YtecimbcioajonaaDoorWInv
import Derived.Test.YtecimbcioajonaaDoorWInvWords
import Derived.Test.YtecimbcioajonaaDoorWGuard
import Derived.Test.YtecimbcioajonaaDoorWNEv
import Derived.Test.YtecimbcioajonaaDoorWMore
namespace Go.Proofs.YtecimbcioajonaaDoor.PtoInt64S
open Go.RowKit Go.Proofs.YtecimbcioajonaaDoorW.PrintWords Go.Proofs.YtecimbcioajonaaDoorW.PrintLast Go.Proofs.YtecimbcioajonaaDoorW.PrintMore
attribute [local go_sem] max2_int min2_int max_two min_two max_three min_three max_four min_four   -- for this text's walks alone
set_option linter.unusedVariables false
set_option linter.unusedSimpArgs false



def errW : Option Int → Value
  | none => .nilIface
  | some c => .iface 0 (.int .i64 c)
theorem errW_none : errW none = .nilIface := rfl
theorem errW_some (c : Int) : errW (some c) = .iface 0 (.int .i64 c) := rfl

theorem info2 : (Tryd.prog.info? 2).map (fun i => (i.zero, i.size, i.bytes)) = some (some (.int .i64 0), 1, 8) := by kernel_rfl
-- the values' own types

end Go.Proofs.YtecimbcioajonaaDoor.PtoInt64S
