/- InstrReads, InstrBack: what is decoded, and there and back. Conditions: none. -/
import Derived.Test.YtjocifamacpamaaDoorDecB
namespace Go.Proofs.YtjocifamacpamaaDoor
open Go.ChangeShapes Go.WideShapes Go.ChangeAt Go.RowKit
set_option linter.unusedVariables false
set_option linter.unusedSimpArgs false
theorem decV_form (x : Int) (n a b c d : Int) : (decV x (refS n a b c d) n a b c d = .tuple #[insV n a b c d, .int .i64 0] ∧ refS n a b c d = some x) ∨ decV x (refS n a b c d) n a b c d = badV := by
  unfold decV
  by_cases h : refS n a b c d = some x
  · rw [if_pos h]; exact Or.inl ⟨rfl, h⟩
  · rw [if_neg h]; exact Or.inr rfl
theorem decS_form (x : Int) : (∃ n a b c d, decS x = .tuple #[insV n a b c d, .int .i64 0] ∧ refS n a b c d = some x) ∨ decS x = badV := by
  unfold decS
  split
  · rcases decV_form x (x % 256) (x / 256 % 256) 0 0 (dI x) with h | h
    · exact Or.inl ⟨_, _, _, _, _, h⟩
    · exact Or.inr h
  · rcases decV_form x (x % 256) (x / 256 % 256) (x / 65536 % 256) (x / 16777216) 0 with h | h
    · exact Or.inl ⟨_, _, _, _, _, h⟩
    · exact Or.inr h
end Go.Proofs.YtjocifamacpamaaDoor
