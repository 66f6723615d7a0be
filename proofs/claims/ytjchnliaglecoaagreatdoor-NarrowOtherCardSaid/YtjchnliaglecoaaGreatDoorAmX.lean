/- A part of the proof. Conditions: none. -/
import Derived.Test.YtjchnliaglecoaaGreatDoorAmV
set_option linter.unusedVariables false
set_option linter.unusedSimpArgs false
set_option maxRecDepth 100000
set_option maxHeartbeats 8000000
namespace Go.Am
open Go Go.RowKit
theorem Ih {n:Nat} {P:Program} {md:Region.Mode} {ops:Array Oper} {Q:Exit→Act→World→Prop} (hQ:¬LetsOut Q):∀(fuel:Nat) (listed:Array Bool) (a:Act) (w:World),
  wpAny P md ops Q fuel listed a w→wpAnyIn Fence.wide n P md ops Q fuel listed a w
 |0,_,_,_,h=>h
 |fuel+1,listed,a,w,h=>⟨h.1,fun i hi=>wpOpIn_mono (fun a w=>Ih hQ fuel _ a w) (bX hQ (h.2 i hi))⟩
theorem xB {n:Nat} {P:Program} {id:Nat} {ops:Array Oper} {Q:Exit→Act→World→Prop} {a:Act} {w:World} (hm:P.follows .mixedOrders=true)
  (h:wpAny P .any ops (Exit.then (Q .normal) fun _ _ _=>False) ops.size (Array.replicate ops.size false) a {w with drawn:=w.drawn+1}):(Code.region id ops true).wpIn Fence.wide n P Q a w:=
 er hm (Ih dm _ _ _ _ h)
end Go.Am
