/- A part of the proof. Conditions: none. -/
import Derived.Test.YtjchnliaglecoaaGreatDoorAmSX
set_option linter.unusedVariables false
set_option linter.unusedSimpArgs false
set_option maxRecDepth 100000
set_option maxHeartbeats 8000000
namespace Go.Am
open Go Go.RowKit
def pJ (vals:List Value):Nat→World→Value→Prop:=fun k _ v=>v=vals.getD k undef
theorem cS {vals:List Value}:∀(k:Nat) (w w':World) (v:Value),Below w.heap.size w w'→pJ vals k w v→pJ vals k w' v:=fun _ _ _ _ _ h=>h
theorem nQ {x:Int} (h0:-9223372036854775808≤x) (h1:x≤9223372036854775807):IntKind.i64.wrap x=x:=by
 simp [IntKind.wrap,IntKind.signed,IntKind.bits];omega
end Go.Am