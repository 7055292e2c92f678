/- check, plain: a right schema is right without its last saga, and with its records turned about. No condition. -/
import Derived.Test.YtmncppnpppdfkaaGreatDoorPTChkLaw
set_option linter.unusedVariables false
set_option linter.unusedSimpArgs false
namespace Go.Proofs.YtmncppnpppdfkaaGreatDoor
namespace Chk
open Go.Proofs.YtmncppnpppdfkaaGreatDoor.Id
def apart (a b : ByteArray) : Prop := (a.toList == b.toList) = false
end Chk
end Go.Proofs.YtmncppnpppdfkaaGreatDoor
