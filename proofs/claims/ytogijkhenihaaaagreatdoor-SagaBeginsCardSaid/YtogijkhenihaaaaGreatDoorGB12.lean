import Derived.Test.YtogijkhenihaaaaGreatDoorGB09
import Derived.Test.YtogijkhenihaaaaGreatDoorGB11
set_option linter.all false
set_option maxRecDepth 100000
set_option maxHeartbeats 0
namespace Go.Proofs.YtogijkhenihaaaaGreatDoor
open Lib (hid)
namespace Id
end Id
