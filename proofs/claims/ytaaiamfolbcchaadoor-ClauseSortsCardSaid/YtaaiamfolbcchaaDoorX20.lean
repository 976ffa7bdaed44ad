/- Contracts of the seat's functions: written by xprint.py for this session. -/
import Derived.Test.YtaaiamfolbcchaaDoorProg
import Derived.Below
import Derived.Deep.Draws
import Derived.Deep.AppendLies
import Derived.Maps.AppendAt
import Derived.OwnWalk
import Derived.Laws.BytesArg
import Derived.Laws.MakeOwn
import Derived.Laws.OwnMore
import Derived.Deep.OwnRows
import Derived.Tactics
import Derived.Lib.ConvBytes
import Derived.Laws.Slices
import Derived.WalkKit
import Derived.KernelRfl
import Derived.RowKit3
import Derived.Deep.LoopGhost
import Derived.Deep.QuietTactic
import Derived.BigQuiet
import Derived.WideLaws
import Derived.Deep.DeepCutAuto
import Derived.Deep.CutBlock
import Derived.Deep.RegionHeld3
import Derived.Laws.Rows
import Derived.Lib.AppendStr
import Derived.ArgAppend
import Derived.Laws.IdiomCopy
import Derived.OrdersHeld
import Derived.Laws.BitsLemmas
import Derived.RowKit
import Derived.Test.YtaaiamfolbcchaaDoorExtA
import Derived.Test.YtaaiamfolbcchaaDoorExtB
import Derived.Test.YtaaiamfolbcchaaDoorExtC
import Derived.Test.YtaaiamfolbcchaaDoorExtD
import Derived.Test.YtaaiamfolbcchaaDoorExtE
import Derived.Test.YtaaiamfolbcchaaDoorY00
import Derived.Test.YtaaiamfolbcchaaDoorX10
import Derived.Test.YtaaiamfolbcchaaDoorV
namespace Go.Proofs.YtaaiamfolbcchaaDoor.X2
open Go.RowKit Go.Proofs.YtaaiamfolbcchaaDoorW.PrintWords Go.Proofs.YtaaiamfolbcchaaDoorW.PrintLast Go.Proofs.YtaaiamfolbcchaaDoorW.PrintMore Go.Proofs.YtaaiamfolbcchaaDoor.Ext Go.Proofs.YtaaiamfolbcchaaDoor.Y0 Go.Proofs.YtaaiamfolbcchaaDoor.X1
attribute [local go_sem] max2_int min2_int max_two min_two max_three min_three max_four min_four   -- for this text's walks alone
set_option linter.unusedVariables false
set_option linter.unusedSimpArgs false




theorem info3 : (Tryd.prog.info? 3).map (fun i => (i.zero, i.size, i.bytes)) = some (some (.int .i64 0), 1, 8) := by kernel_rfl
-- the values' own types
/-! #### struct type 54 -/

/-! #### struct type 109 -/

end Go.Proofs.YtaaiamfolbcchaaDoor.X2
