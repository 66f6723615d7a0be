/- The reference's 'is', at each kind and letter, by the abstract evaluator. Conditions: none. -/
import Derived.Test.YtjchnliaglecoaaGreatDoorLfBX
set_option linter.unusedVariables false
set_option linter.unusedSimpArgs false
namespace Go.Proofs.YtjchnliaglecoaaGreatDoor
open Go Go.RowKit Go.Am
theorem is_tab : ((List.range 37).all fun k => Nat.beq k 0 || letters.all fun c => okAt 113 [.int .i64 k, .int .u8 c] (.bool (isS k c))) = true := by kernel_rfl
end Go.Proofs.YtjchnliaglecoaaGreatDoor
