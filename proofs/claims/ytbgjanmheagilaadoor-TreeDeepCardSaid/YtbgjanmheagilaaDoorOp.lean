/- Arguments that are nodes, opened. Conditions: none. -/
import Derived.Test.YtbgjanmheagilaaDoorNodesB
import Derived.Test.YtbgjanmheagilaaDoorProg
import Derived.ProofKit
namespace Go.Proofs.YtbgjanmheagilaaDoor
open Go Go.RowKit Go.Nodes Go.WideShapes Go.ChangeShapes
set_option maxRecDepth 100000 in
theorem open_nodes33 {H : Type} {enc : TypeId × Value → H} {W : World} {v : Value} {d : DataW H} {pl : List MemPlace} {r : Reach} {b0 : Nat} (hv : Value.okWide Tryd.prog W r b0 33 v) (h : DataW.Trod enc Tryd.prog W 0 (fun _ => true) true 33 v d pl) : ∃ p cap ns, v = .slice p ns.length cap ∧ NodesAt W p ns := by
  obtain ⟨a, len, cap, rfl⟩ := okWide_slice Tryd.underlying33 hv
  obtain ⟨fuel, hf⟩ := h
  exact open_nodes Tryd.underlying33 Tryd.underlying71 (by kernel_rfl) (by kernel_rfl) Tryd.underlying3 Tryd.underlying9 Tryd.underlying42 Tryd.underlying3 (by kernel_rfl) Tryd.underlying3 hf
set_option maxRecDepth 100000 in
theorem open_nodes33_slim {H : Type} {enc : TypeId × Value → H} {W : World} {v : Value} {d : DataW H} {pl : List MemPlace} {r : Reach} {b0 : Nat} (hv : Value.okWide Tryd.prog W r b0 33 v) (h : DataW.Trod enc Tryd.prog W 0 (fun _ => true) true 33 v d pl)
    (hw : ∀ z ∈ d.weights Tryd.prog 33, z ≤ reachBytes) : ∃ p cap ns, v = .slice p ns.length cap ∧ NodesAt W p ns ∧ Slim ns := by
  obtain ⟨a, len, cap, rfl⟩ := okWide_slice Tryd.underlying33 hv
  obtain ⟨fuel, hf⟩ := h
  exact open_nodes_slim Tryd.underlying33 Tryd.underlying71 (by kernel_rfl) (by kernel_rfl) Tryd.underlying3 Tryd.underlying9 Tryd.underlying42 Tryd.underlying3 (by kernel_rfl) Tryd.underlying3 (by decide +kernel) (by decide +kernel) hf hw
end Go.Proofs.YtbgjanmheagilaaDoor
