/- Contracts of the seat's functions: written by xprint.py for this session. -/
import Derived.Test.YthpgijnlegglmaaDoorX60
namespace Go.Proofs.YthpgijnlegglmaaDoor.X6
open Go.RowKit Go.Proofs.YthpgijnlegglmaaDoorW.PrintWords Go.Proofs.YthpgijnlegglmaaDoorW.PrintLast Go.Proofs.YthpgijnlegglmaaDoorW.PrintMore Go.Proofs.YthpgijnlegglmaaDoor.Ext Go.Proofs.YthpgijnlegglmaaDoor.Y0 Go.Proofs.YthpgijnlegglmaaDoor.X1 Go.Proofs.YthpgijnlegglmaaDoor.X2
attribute [local go_sem] max2_int min2_int max_two min_two max_three min_three max_four min_four   -- for this text's walks alone
set_option linter.unusedVariables false
set_option linter.unusedSimpArgs false

end Go.Proofs.YthpgijnlegglmaaDoor.X6
