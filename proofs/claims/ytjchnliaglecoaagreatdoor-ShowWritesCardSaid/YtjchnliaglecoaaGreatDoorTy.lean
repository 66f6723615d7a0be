/- A part of the proof. Conditions: none. -/
import Derived.Test.YtjchnliaglecoaaGreatDoorNodesB
import Derived.Test.YtjchnliaglecoaaGreatDoorDwX
set_option linter.unusedVariables false
set_option linter.unusedSimpArgs false
set_option maxRecDepth 100000
set_option maxHeartbeats 8000000
namespace Go.Nodes
open Go Go.RowKit
end Go.Nodes