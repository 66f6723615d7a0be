/- Nodes in a later world. Conditions: none. -/
import Derived.Lib.AppendIntMem
import Derived.Test.YtjchnliaglecoaaGreatDoorNodes
import Derived.Test.YtjchnliaglecoaaGreatDoorBaseBX
set_option linter.unusedVariables false
set_option linter.unusedSimpArgs false
namespace Go.Proofs.YtjchnliaglecoaaGreatDoor
open Go Go.RowKit Go.Nodes
set_option linter.unusedVariables false
theorem ints_later {w w' : World} {p : Option Addr} {xs : List Int} (hb : Below w.heap.size w w') (h : IntsAt w p xs) : IntsAt w' p xs := by
  rcases h with h | ⟨b, o, hp, hlt, hc⟩
  · exact .inl h
  · exact .inr ⟨b, o, hp, Nat.lt_of_lt_of_le hlt hb.size, fun i hi => cell_later hb (hc i hi)⟩
theorem nodes_later {w w' : World} {p : Option Addr} {xs : List Nd} (hb : Below w.heap.size w w') (h : NodesAt w p xs) : NodesAt w' p xs := by
  obtain ⟨h1, h2, h3⟩ := h
  refine ⟨h1, fun x hx => ?_, ?_⟩
  · obtain ⟨f1, f2, f3, f4, f5, f6⟩ := h2 x hx
    exact ⟨f1, f2, f3, f4, f5, ints_later hb f6⟩
  · rcases h3 with h3 | ⟨b, o, hp, hlt, hc⟩
    · exact .inl h3
    · exact .inr ⟨b, o, hp, Nat.lt_of_lt_of_le hlt hb.size, fun i hi => ⟨cell_later hb (hc i hi).1, cell_later hb (hc i hi).2.1, cell_later hb (hc i hi).2.2.1, cell_later hb (hc i hi).2.2.2⟩⟩
end Go.Proofs.YtjchnliaglecoaaGreatDoor
