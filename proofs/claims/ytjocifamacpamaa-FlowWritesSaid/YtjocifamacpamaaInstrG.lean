/- InstrWrites: instr.Encode answers as the reference does, for every instruction. Conditions: none. -/
import Derived.Lib.SmallJoins
import Derived.Test.YtjocifamacpamaaInstrF
import Derived.Test.YtjocifamacpamaaLift
namespace Go.Proofs.Ytjocifamacpamaa
open Go.ChangeShapes Go.WideShapes Go.ChangeAt Go.RowKit
set_option linter.unusedVariables false

theorem ref_1 : encS 11 1 2 3 0 = some 50462987 := by rw [enc_eq]; decide +kernel
theorem ref_2 : encS 34 0 0 0 (-1) = some 4294901794 := by rw [enc_eq]; decide +kernel
set_option maxHeartbeats 1000000 in
theorem awake_any (w : World) : Calls Try.prog 13 #[] w fun e w' => e = .returned (.bool true) ∧ Below w.heap.size w w' := by
  have h1 := encode_any 11 1 2 3 0
  have h2 := encode_any 34 0 0 0 (-1)
  rw [ref_1] at h1
  rw [ref_2] at h2
  have H1 := hid h1
  have H2 := hid h2
  clear h1 h2
  go_enter Try.func13, Try.ntmps13
  go_wp2_with fail
  refine (H1.out _).mono ?_
  rintro e w' ⟨rfl, hb⟩
  obtain ⟨g1, rfl⟩ := bout hb
  clear hb
  simp only [encRes]
  go_wp2_with fail
  refine (H2.out _).mono ?_
  rintro e w' ⟨rfl, hb⟩
  obtain ⟨g2, rfl⟩ := bout hb
  clear hb
  simp only [encRes]
  go_wp2_with fail
  go_ret
  exact ⟨rfl, bG (bG (Below.refl _ _) _) _⟩
set_option maxHeartbeats 1000000 in
theorem writes_any (n a b c d : Int) (w : World) :
    Calls Try.prog 3 #[.agg #[.int .i64 n, .int .i64 a, .int .i64 b, .int .i64 c, .int .i64 d]] w fun e w' => e = .returned (.bool true) ∧ Below w.heap.size w w' := by
  have h1 := encode_any n a b c d
  have h2 := refEnc_any n a b c d
  rw [enc_eq] at h1
  generalize refS n a b c d = R at *
  have H1 := hid h1
  have H2 := hid h2
  clear h1 h2
  cases R with
  | none =>
    go_enter Try.func3, Try.ntmps3
    go_wp2_with (first | (go_at_call 13; refine (awake_any _).mono ?_; rintro e w' ⟨rfl, hb⟩; obtain ⟨g1, rfl⟩ := bout hb; clear hb) | (go_at_call 14; refine (H1.out _).mono ?_; rintro e w' ⟨rfl, hb⟩; obtain ⟨g1, rfl⟩ := bout hb; clear hb; simp only [encRes]) | (go_at_call 15; refine (H2.out _).mono ?_; rintro e w' ⟨rfl, hb⟩; obtain ⟨g1, rfl⟩ := bout hb; clear hb; simp only [encRes]))
    go_ret
    exact ⟨rfl, by repeat (first | exact Below.refl _ _ | refine bG ?_ _ | refine bI ?_ _ _ | refine bA ?_ _)⟩
  | some x =>
    go_enter Try.func3, Try.ntmps3
    go_wp2_with (first | (go_at_call 13; refine (awake_any _).mono ?_; rintro e w' ⟨rfl, hb⟩; obtain ⟨g1, rfl⟩ := bout hb; clear hb) | (go_at_call 14; refine (H1.out _).mono ?_; rintro e w' ⟨rfl, hb⟩; obtain ⟨g1, rfl⟩ := bout hb; clear hb; simp only [encRes]) | (go_at_call 15; refine (H2.out _).mono ?_; rintro e w' ⟨rfl, hb⟩; obtain ⟨g1, rfl⟩ := bout hb; clear hb; simp only [encRes]))
    go_ret
    exact ⟨rfl, by repeat (first | exact Below.refl _ _ | refine bG ?_ _ | refine bI ?_ _ _ | refine bA ?_ _)⟩
end Go.Proofs.Ytjocifamacpamaa
