/- Made by wip/myprint.py of this session (it drives the kit's printer): what the calls of the Go functions come to, as plain Lean functions, and the row of a law over them; without conditions. -/
import Derived.Test.YtmjedihfibdhfaaQx0
import Derived.Test.YtmjedihfibdhfaaQx1
import Derived.Test.YtmjedihfibdhfaaQx2
import Derived.Test.YtmjedihfibdhfaaQx3
import Derived.Test.YtmjedihfibdhfaaQx4
import Derived.Test.YtmjedihfibdhfaaQx5
namespace Go.Proofs.Ytmjedihfibdhfaa.Q
open Go.RowKit Go.Proofs.YtmjedihfibdhfaaW.PrintWords Go.Proofs.YtmjedihfibdhfaaW.PrintLast Go.Proofs.YtmjedihfibdhfaaW.PrintMore
attribute [local go_sem] max2_int min2_int max_two min_two max_three min_three max_four min_four   -- for this text's walks alone
set_option linter.unusedVariables false
set_option linter.unusedSimpArgs false

end Go.Proofs.Ytmjedihfibdhfaa.Q
