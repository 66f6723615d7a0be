/- InstrWrites: instr.Encode answers as the reference does, for every instruction. Conditions: none. -/
import Derived.Test.YtjocifamacpamaaDoorInstrF
import Derived.Test.YtjocifamacpamaaDoorLift
import Derived.Lib.SmallJoins
namespace Go.Proofs.YtjocifamacpamaaDoor
open Go.ChangeShapes Go.WideShapes Go.ChangeAt Go.RowKit
set_option linter.unusedVariables false

theorem ref_1 : encS 11 1 2 3 0 = some 50462987 := by rw [enc_eq]; decide +kernel
theorem ref_2 : encS 34 0 0 0 (-1) = some 4294901794 := by rw [enc_eq]; decide +kernel
set_option maxHeartbeats 1000000 in
theorem awake_any (w : World) : Calls Tryd.prog 5 #[] w fun e w' => e = .returned (.bool true) ∧ Below w.heap.size w w' := by
  have h1 := encode_any 11 1 2 3 0
  have h2 := encode_any 34 0 0 0 (-1)
  rw [ref_1] at h1
  rw [ref_2] at h2
  have H1 := hid h1
  have H2 := hid h2
  clear h1 h2
  go_enter Tryd.func5, Tryd.ntmps5
  go_wp2_with fail
  refine (H1.out _).mono ?_
  rintro e w' ⟨rfl, hb⟩
  obtain ⟨g1, rfl⟩ := bout hb
  clear hb
  simp only [encRes]
  go_wp2_with fail
  refine (H2.out _).mono ?_
  rintro e w' ⟨rfl, hb⟩
  obtain ⟨g2, rfl⟩ := bout hb
  clear hb
  simp only [encRes]
  go_wp2_with fail
  go_ret
  exact ⟨rfl, bG (bG (Below.refl _ _) _) _⟩
end Go.Proofs.YtjocifamacpamaaDoor
