/- A part of the proof. Conditions: none. -/
import Derived.Sort.Walk0
import Derived.Test.YtjchnliaglecoaaGreatDoorTy
import Derived.Test.YtjchnliaglecoaaGreatDoorMpX
set_option linter.unusedVariables false
set_option linter.unusedSimpArgs false
set_option maxRecDepth 100000
set_option maxHeartbeats 8000000
namespace Go.Proofs.YtjchnliaglecoaaGreatDoor
open Go Go.RowKit Go.Nodes
end Go.Proofs.YtjchnliaglecoaaGreatDoor
