/- TreeBuiltins: the law, walked. Conditions: none. -/
import Derived.Test.YtbgjanmheagilaaDoorTb
import Derived.Test.YtbgjanmheagilaaDoorAw6
namespace Go.Proofs.YtbgjanmheagilaaDoor
open Go Go.RowKit
set_option linter.unusedVariables false
set_option maxHeartbeats 1000000 in
theorem treeBuiltins_any (s : ByteArray) (w : World) : Calls Tryd.prog 6 #[.string s] w fun e w' => e = .returned (.bool true) ∧ Below w.heap.size w w' := by
  have h1 := builtin_18 s
  have h2 := builtin_19 s
  generalize bn s.toList = n at h1 h2
  have H1 := hid h1
  have H2 := hid h2
  clear h1 h2
  go_enter Tryd.func6, Tryd.ntmps6
  go_wp2_with (first
    | (go_at_call 12; refine (awake6 _).mono ?_; rintro e w' ⟨rfl, hb⟩; obtain ⟨g1, rfl⟩ := bout hb; clear hb)
    | (go_at_call 18; refine (H1.out _).mono ?_; rintro e w' ⟨rfl, hb⟩; obtain ⟨g2, rfl⟩ := bout hb; clear hb)
    | (go_at_call 19; refine (H2.out _).mono ?_; rintro e w' ⟨rfl, hb⟩; obtain ⟨g3, rfl⟩ := bout hb; clear hb))
  all_goals
    go_ret
    exact ⟨by simp, by repeat (first | exact Below.refl _ _ | refine bG ?_ _ | refine bI ?_ _ _ | refine bA ?_ _)⟩
end Go.Proofs.YtbgjanmheagilaaDoor
