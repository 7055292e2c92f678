/- redressref13: counts, Check (printed by gen_rchk8.py). No condition. -/
import Derived.Test.YtmncppnpppdfkaaDoorChkR4
import Derived.Test.YtmncppnpppdfkaaDoorChkR5
import Derived.Test.YtmncppnpppdfkaaDoorChkR6
import Derived.Test.YtmncppnpppdfkaaDoorChkR7
set_option linter.unusedVariables false
set_option linter.unusedSimpArgs false
namespace Go.Proofs.YtmncppnpppdfkaaDoor
open Go.RowKit Go.BigFrame
end Go.Proofs.YtmncppnpppdfkaaDoor
