/- redressref13: methods (printed by gen_rchk4.py). No condition. -/
import Derived.Test.YtmncppnpppdfkaaDoorChkR3
set_option linter.unusedVariables false
set_option linter.unusedSimpArgs false
namespace Go.Proofs.YtmncppnpppdfkaaDoor
open Go.RowKit Go.BigFrame
end Go.Proofs.YtmncppnpppdfkaaDoor
