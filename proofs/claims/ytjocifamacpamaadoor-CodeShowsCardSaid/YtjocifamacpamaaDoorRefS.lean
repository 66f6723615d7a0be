/- instr: which word an instruction is. Conditions: none. -/
import Derived.Test.YtjocifamacpamaaDoorInstrF
namespace Go.Proofs.YtjocifamacpamaaDoor
open Go.RowKit
set_option linter.unusedVariables false
set_option linter.unusedSimpArgs false
theorem refS_0 (n a b c d : Int) (hF : fmI n = ⟨#[]⟩) : refS n a b c d = none := by
  unfold refS; rw [hF, if_pos (by decide +kernel)]
theorem refS_1 (n a b c d x : Int) (hF : fmI n = ⟨#[65]⟩) : refS n a b c d = some x ↔ ((0 ≤ a ∧ a ≤ 255) ∧ b = 0 ∧ c = 0 ∧ d = 0) ∧ n + a * 256 + b * 65536 + c * 16777216 + (d % 65536) * 65536 = x := by
  have hn := fm_byte n (by rw [hF]; decide +kernel)
  have r65 : hasR ⟨#[65]⟩ 65 = true := by decide
  have r66 : hasR ⟨#[65]⟩ 66 = false := by decide
  have r67 : hasR ⟨#[65]⟩ 67 = false := by decide
  have r68 : hasR ⟨#[65]⟩ 68 = false := by decide
  have he : ¬ (⟨#[65]⟩ : ByteArray).toList.isEmpty = true := by decide +kernel
  unfold refS
  rw [hF, if_neg he]
  simp only [refK, okR, okD, r65, r66, r67, r68, wordR, wrap16, Bool.or_true, Bool.or_false, Bool.and_true, Bool.false_eq_true, if_true, if_false, Bool.and_eq_true, decide_eq_true_eq, bne_iff_ne, beq_iff_eq, ne_eq, ite_not]
  clear he r65 r66 r67 r68
  constructor
  · intro h
    repeat' split at h
    all_goals first
      | (have h' := Option.some.inj h; omega)
      | (cases h; done)
  · rintro ⟨hc, hx⟩
    repeat' split
    all_goals first
      | (exfalso; omega)
      | (congr 1; omega)
theorem refS_2 (n a b c d x : Int) (hF : fmI n = ⟨#[65, 66]⟩) : refS n a b c d = some x ↔ ((0 ≤ a ∧ a ≤ 255) ∧ (0 ≤ b ∧ b ≤ 255) ∧ c = 0 ∧ d = 0) ∧ n + a * 256 + b * 65536 + c * 16777216 + (d % 65536) * 65536 = x := by
  have hn := fm_byte n (by rw [hF]; decide +kernel)
  have r65 : hasR ⟨#[65, 66]⟩ 65 = true := by decide
  have r66 : hasR ⟨#[65, 66]⟩ 66 = true := by decide
  have r67 : hasR ⟨#[65, 66]⟩ 67 = false := by decide
  have r68 : hasR ⟨#[65, 66]⟩ 68 = false := by decide
  have he : ¬ (⟨#[65, 66]⟩ : ByteArray).toList.isEmpty = true := by decide +kernel
  unfold refS
  rw [hF, if_neg he]
  simp only [refK, okR, okD, r65, r66, r67, r68, wordR, wrap16, Bool.or_true, Bool.or_false, Bool.and_true, Bool.false_eq_true, if_true, if_false, Bool.and_eq_true, decide_eq_true_eq, bne_iff_ne, beq_iff_eq, ne_eq, ite_not]
  clear he r65 r66 r67 r68
  constructor
  · intro h
    repeat' split at h
    all_goals first
      | (have h' := Option.some.inj h; omega)
      | (cases h; done)
  · rintro ⟨hc, hx⟩
    repeat' split
    all_goals first
      | (exfalso; omega)
      | (congr 1; omega)
theorem refS_3 (n a b c d x : Int) (hF : fmI n = ⟨#[65, 66, 67]⟩) : refS n a b c d = some x ↔ ((0 ≤ a ∧ a ≤ 255) ∧ (0 ≤ b ∧ b ≤ 255) ∧ (0 ≤ c ∧ c ≤ 255) ∧ d = 0) ∧ n + a * 256 + b * 65536 + c * 16777216 + (d % 65536) * 65536 = x := by
  have hn := fm_byte n (by rw [hF]; decide +kernel)
  have r65 : hasR ⟨#[65, 66, 67]⟩ 65 = true := by decide
  have r66 : hasR ⟨#[65, 66, 67]⟩ 66 = true := by decide
  have r67 : hasR ⟨#[65, 66, 67]⟩ 67 = true := by decide
  have r68 : hasR ⟨#[65, 66, 67]⟩ 68 = false := by decide
  have he : ¬ (⟨#[65, 66, 67]⟩ : ByteArray).toList.isEmpty = true := by decide +kernel
  unfold refS
  rw [hF, if_neg he]
  simp only [refK, okR, okD, r65, r66, r67, r68, wordR, wrap16, Bool.or_true, Bool.or_false, Bool.and_true, Bool.false_eq_true, if_true, if_false, Bool.and_eq_true, decide_eq_true_eq, bne_iff_ne, beq_iff_eq, ne_eq, ite_not]
  clear he r65 r66 r67 r68
  constructor
  · intro h
    repeat' split at h
    all_goals first
      | (have h' := Option.some.inj h; omega)
      | (cases h; done)
  · rintro ⟨hc, hx⟩
    repeat' split
    all_goals first
      | (exfalso; omega)
      | (congr 1; omega)
theorem refS_4 (n a b c d x : Int) (hF : fmI n = ⟨#[65, 68]⟩) : refS n a b c d = some x ↔ ((0 ≤ a ∧ a ≤ 255) ∧ b = 0 ∧ c = 0 ∧ (-32768 ≤ d ∧ d ≤ 32767)) ∧ n + a * 256 + b * 65536 + c * 16777216 + (d % 65536) * 65536 = x := by
  have hn := fm_byte n (by rw [hF]; decide +kernel)
  have r65 : hasR ⟨#[65, 68]⟩ 65 = true := by decide
  have r66 : hasR ⟨#[65, 68]⟩ 66 = false := by decide
  have r67 : hasR ⟨#[65, 68]⟩ 67 = false := by decide
  have r68 : hasR ⟨#[65, 68]⟩ 68 = true := by decide
  have he : ¬ (⟨#[65, 68]⟩ : ByteArray).toList.isEmpty = true := by decide +kernel
  unfold refS
  rw [hF, if_neg he]
  simp only [refK, okR, okD, r65, r66, r67, r68, wordR, wrap16, Bool.or_true, Bool.or_false, Bool.and_true, Bool.false_eq_true, if_true, if_false, Bool.and_eq_true, decide_eq_true_eq, bne_iff_ne, beq_iff_eq, ne_eq, ite_not]
  clear he r65 r66 r67 r68
  constructor
  · intro h
    repeat' split at h
    all_goals first
      | (have h' := Option.some.inj h; omega)
      | (cases h; done)
  · rintro ⟨hc, hx⟩
    repeat' split
    all_goals first
      | (exfalso; omega)
      | (congr 1; omega)
theorem refS_5 (n a b c d x : Int) (hF : fmI n = ⟨#[68]⟩) : refS n a b c d = some x ↔ (a = 0 ∧ b = 0 ∧ c = 0 ∧ (-32768 ≤ d ∧ d ≤ 32767)) ∧ n + a * 256 + b * 65536 + c * 16777216 + (d % 65536) * 65536 = x := by
  have hn := fm_byte n (by rw [hF]; decide +kernel)
  have r65 : hasR ⟨#[68]⟩ 65 = false := by decide
  have r66 : hasR ⟨#[68]⟩ 66 = false := by decide
  have r67 : hasR ⟨#[68]⟩ 67 = false := by decide
  have r68 : hasR ⟨#[68]⟩ 68 = true := by decide
  have he : ¬ (⟨#[68]⟩ : ByteArray).toList.isEmpty = true := by decide +kernel
  unfold refS
  rw [hF, if_neg he]
  simp only [refK, okR, okD, r65, r66, r67, r68, wordR, wrap16, Bool.or_true, Bool.or_false, Bool.and_true, Bool.false_eq_true, if_true, if_false, Bool.and_eq_true, decide_eq_true_eq, bne_iff_ne, beq_iff_eq, ne_eq, ite_not]
  clear he r65 r66 r67 r68
  constructor
  · intro h
    repeat' split at h
    all_goals first
      | (have h' := Option.some.inj h; omega)
      | (cases h; done)
  · rintro ⟨hc, hx⟩
    repeat' split
    all_goals first
      | (exfalso; omega)
      | (congr 1; omega)
end Go.Proofs.YtjocifamacpamaaDoor
