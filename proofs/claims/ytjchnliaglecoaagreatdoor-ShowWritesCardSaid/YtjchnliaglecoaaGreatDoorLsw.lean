/- A part of the proof. Conditions: none. -/
import Derived.Test.YtjchnliaglecoaaGreatDoorZz
import Derived.Test.YtjchnliaglecoaaGreatDoorWq2X
import Derived.Test.YtjchnliaglecoaaGreatDoorRqX
import Derived.Test.YtjchnliaglecoaaGreatDoorAw8X
import Derived.Test.YtjchnliaglecoaaGreatDoorF8
set_option linter.unusedVariables false
set_option linter.unusedSimpArgs false
set_option maxRecDepth 100000
set_option maxHeartbeats 8000000
namespace Go.Proofs.YtjchnliaglecoaaGreatDoor
open Go Go.RowKit Go.Nodes Go.Am
theorem P1 (p:Option Addr) (cap:Nat) (ns:List Nd) (W:World) (hw:aA W p ns) (hs:Tl ns) (hc:∀x∈ns,x.kids.length≤x.aG) (hl:cu W):
  Calls Tryz.prog 6 #[.slice p ns.length cap] W fun e w'=>e=.returned (.bool true)∧Below W.heap.size W w':=by
 have HA:Hid (∀W',Below W.heap.size W W'→Calls Tryz.prog 19 #[] W' fun e w'=>e=.returned (.bool true)∧Below W'.heap.size W' w'):=hid fun W' hb=>aaG W' (hl.later hb)
 have HF0:∀W',Below W.heap.size W W'→Calls Tryz.prog 20 #[.slice p ns.length cap] W' fun e w'=>e=.returned (.bool (vL ns 0))∧Below W'.heap.size W' w':=fun W' hb=>P2 p cap ns W' (jl hb hw)
 cases hf:vL ns 0 with
 |false=>
  rw [hf] at HF0;have HF:=hid HF0;clear hw hs hc hl hf HF0;generalize ns.length=L at*;go_enter Tryz.func6,Tryz.ntmps6;go_wp2_with (first|(go_at_call 19;refine(HA.out _ fH).mono ?_;rintro e w' ⟨rfl,hb⟩;obtain⟨G,rfl⟩:=ay hb;clear hb)|(go_at_call 20;refine(HF.out _ fH).mono ?_;rintro e w' ⟨rfl,hb⟩;obtain⟨G,rfl⟩:=ay hb;clear hb));exact Oo
 |true=>
  rw [hf] at HF0;have HF:=hid HF0;have h4:C1 ns:=EL hs hf;have hsm:Small ns:=⟨by have:=h4.1;omega,fun x hx=>by have:=h4.2 x hx;omega⟩;have HS:Hid (∀W',Below W.heap.size W W'→Calls Tryz.prog 21 #[.slice p ns.length cap] W' fun e w'=>e=.returned (.tuple #[.string (gh ns),.int .i64 (bF ns).2])∧Below W'.heap.size W' w'):=hid fun W' hb=>aek p cap ns W' hsm hc h4 (jl hb hw) (hl.later hb)
  have HR:Hid (∀W',Below W.heap.size W W'→Calls Tryz.prog 22 #[.slice p ns.length cap] W' fun e w'=>e=.returned (.tuple #[.string (gh ns),.int .i64 (bF ns).2])∧Below W'.heap.size W' w'):=hid fun W' hb=>Rv p cap ns W W' hsm hc h4 hw hl hb
  clear hw hs hc hl hf HF0 h4 hsm;generalize gh ns=u at*;generalize (bF ns).2=e9 at*;generalize ns.length=L at*;go_enter Tryz.func6,Tryz.ntmps6;go_wp2_with (first|(go_at_call 19;refine(HA.out _ fH).mono ?_;rintro e w' ⟨rfl,hb⟩;obtain⟨G,rfl⟩:=ay hb;clear hb)|(go_at_call 20;refine(HF.out _ fH).mono ?_;rintro e w' ⟨rfl,hb⟩;obtain⟨G,rfl⟩:=ay hb;clear hb)|(go_at_call 21;refine(HS.out _ fH).mono ?_;rintro e w' ⟨rfl,hb⟩;obtain⟨G,rfl⟩:=ay hb;clear hb)|(go_at_call 22;refine(HR.out _ fH).mono ?_;rintro e w' ⟨rfl,hb⟩;obtain⟨G,rfl⟩:=ay hb;clear hb));exact Oo
end Go.Proofs.YtjchnliaglecoaaGreatDoor