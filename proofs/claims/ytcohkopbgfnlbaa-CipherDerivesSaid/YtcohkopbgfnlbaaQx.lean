/- Made by wip/myprint.py of this session (it drives the kit's printer): what the calls of the Go functions come to, as plain Lean functions, and the row of a law over them; without conditions. -/
import Derived.Test.YtcohkopbgfnlbaaQx0
import Derived.Test.YtcohkopbgfnlbaaQx1
import Derived.Test.YtcohkopbgfnlbaaQx2
import Derived.Test.YtcohkopbgfnlbaaQx3
import Derived.Test.YtcohkopbgfnlbaaQx4
import Derived.Test.YtcohkopbgfnlbaaQx5
import Derived.Test.YtcohkopbgfnlbaaQx6
namespace Go.Proofs.Ytcohkopbgfnlbaa.Q
open Go.RowKit Go.Proofs.YtcohkopbgfnlbaaW.PrintWords Go.Proofs.YtcohkopbgfnlbaaW.PrintLast Go.Proofs.YtcohkopbgfnlbaaW.PrintMore
attribute [local go_sem] max2_int min2_int max_two min_two max_three min_three max_four min_four   -- for this text's walks alone
set_option linter.unusedVariables false
set_option linter.unusedSimpArgs false

end Go.Proofs.Ytcohkopbgfnlbaa.Q
