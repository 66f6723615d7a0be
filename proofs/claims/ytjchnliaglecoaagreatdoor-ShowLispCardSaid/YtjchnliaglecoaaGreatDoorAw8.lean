/- Chapter 8's example, run by the abstract evaluator. Conditions: the library's variables. -/
import Derived.Test.YtjchnliaglecoaaGreatDoorAw14
import Derived.Test.YtjchnliaglecoaaGreatDoorBq
set_option linter.unusedVariables false
set_option linter.unusedSimpArgs false
namespace Go.Proofs.YtjchnliaglecoaaGreatDoor
open Go Go.RowKit Go.Am
set_option linter.unusedVariables false
theorem runs8 : runsB Tryz.prog hk14 tryzBd 600 19 #[] isTrue = true := by kernel_rfl
theorem awake8 (w : World) (hl : Lib0 w) : Calls Tryz.prog 19 #[] w fun e w' => e = .returned (.bool true) ∧ Below w.heap.size w w' :=
  (runsB_calls (by kernel_rfl) w (plain14 w hl) tryzBd_ok runs8 rfl).mono fun e w' ⟨v, v', E, h1, h2, h3, h4⟩ => by
    refine ⟨?_, h4⟩
    cases v <;> simp [isTrue] at h1
    subst h1
    cases h3
    exact h2
end Go.Proofs.YtjchnliaglecoaaGreatDoor
