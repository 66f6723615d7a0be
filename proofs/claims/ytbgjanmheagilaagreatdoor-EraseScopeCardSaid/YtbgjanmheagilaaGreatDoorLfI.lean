/- A part of the proof. Conditions: none. -/
import Derived.Test.YtbgjanmheagilaaGreatDoorLfBX
set_option linter.unusedVariables false
set_option linter.unusedSimpArgs false
set_option maxRecDepth 100000
set_option maxHeartbeats 8000000
namespace Go.Proofs.YtbgjanmheagilaaGreatDoor
open Go Go.RowKit Go.Am
theorem aax:((List.range 37).all fun k=>Nat.beq k 0||letters.all fun c=>nH 69 [.int .i64 k,.int .u8 c] (.bool (iX k c)))=true:=by kernel_rfl
end Go.Proofs.YtbgjanmheagilaaGreatDoor