/- A part of the proof. Conditions: none. -/
import Derived.Lib.AppendIntMem
import Derived.Test.YtbgjanmheagilaaGreatDoorNodes
import Derived.Test.YtbgjanmheagilaaGreatDoorBase
set_option linter.unusedVariables false
set_option linter.unusedSimpArgs false
set_option maxRecDepth 100000
set_option maxHeartbeats 8000000
namespace Go.Proofs.YtbgjanmheagilaaGreatDoor
open Go Go.RowKit Go.Nodes
theorem ET {w w':World} {p:Option Addr} {xs:List Int} (hb:Below w.heap.size w w') (h:bR w p xs):bR w' p xs:=by
 rcases h with h|⟨b,o,hp,hlt,hc⟩
 ·exact .inl h
 ·exact .inr ⟨b,o,hp,Nat.lt_of_lt_of_le hlt hb.size,fun i hi=>cell_later hb (hc i hi)⟩
theorem eP {w w':World} {p:Option Addr} {xs:List Nd} (hb:Below w.heap.size w w') (h:aj w p xs):aj w' p xs:=by
 obtain⟨h1,h2,h3⟩:=h;refine⟨h1,fun x hx=>?_, ?_⟩
 ·obtain⟨f1,f2,f3,f4,f5,f6⟩:=h2 x hx;exact⟨f1,f2,f3,f4,f5,ET hb f6⟩
 ·rcases h3 with h3|⟨b,o,hp,hlt,hc⟩
  ·exact .inl h3
  ·exact .inr ⟨b,o,hp,Nat.lt_of_lt_of_le hlt hb.size,fun i hi=>⟨cell_later hb (hc i hi).1,cell_later hb (hc i hi).2.1,cell_later hb (hc i hi).2.2.1,cell_later hb (hc i hi).2.2.2⟩⟩
end Go.Proofs.YtbgjanmheagilaaGreatDoor