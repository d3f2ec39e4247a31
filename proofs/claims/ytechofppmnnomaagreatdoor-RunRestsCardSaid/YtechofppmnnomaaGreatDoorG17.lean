/- Some texts in one. -/
import Derived.Test.YtechofppmnnomaaGreatDoorG1
import Derived.Test.YtechofppmnnomaaGreatDoorG7
namespace Go.Mq.Tree
open Go Go.RowKit Go.Mq
end Go.Mq.Tree
namespace Go.Proofs.YtechofppmnnomaaGreatDoor
open Go Go.RowKit Go.Mq Go.Mq.Tree
set_option maxRecDepth 100000
set_option maxHeartbeats 1000000
end Go.Proofs.YtechofppmnnomaaGreatDoor
