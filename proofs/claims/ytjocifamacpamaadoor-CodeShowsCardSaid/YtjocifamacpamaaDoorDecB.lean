/- instr: what both programs decode is the same. Conditions: none. -/
import Derived.Test.YtjocifamacpamaaDoorDecA
namespace Go.Proofs.YtjocifamacpamaaDoor
open Go.RowKit
set_option linter.unusedVariables false
set_option linter.unusedSimpArgs false
theorem dI_range (x : Int) (h0 : 0 ≤ x) (h1 : x < 4294967296) : -32768 ≤ dI x ∧ dI x ≤ 32767 ∧ dI x % 65536 = x / 65536 := by
  have e : IntKind.i16.wrap (x / 65536) = if x / 65536 < 32768 then x / 65536 else x / 65536 - 65536 := by
    simp [IntKind.wrap, IntKind.signed, IntKind.bits]
    split <;> omega
  have e2 : dI x = if x / 65536 < 32768 then x / 65536 else x / 65536 - 65536 := by
    unfold dI; rw [e]
    unfold wrap64
    split <;> omega
  rw [e2]
  split <;> omega
theorem refS_0 (n a b c d : Int) (hF : fmI n = ⟨#[]⟩) : refS n a b c d = none := by
  unfold refS; rw [hF, if_pos (by decide +kernel)]
theorem refS_1 (n a b c d x : Int) (hF : fmI n = ⟨#[65]⟩) : refS n a b c d = some x ↔ ((0 ≤ a ∧ a ≤ 255) ∧ b = 0 ∧ c = 0 ∧ d = 0) ∧ n + a * 256 + b * 65536 + c * 16777216 + (d % 65536) * 65536 = x := by
  have hn := fm_byte n (by rw [hF]; decide +kernel)
  have r65 : hasR ⟨#[65]⟩ 65 = true := by decide
  have r66 : hasR ⟨#[65]⟩ 66 = false := by decide
  have r67 : hasR ⟨#[65]⟩ 67 = false := by decide
  have r68 : hasR ⟨#[65]⟩ 68 = false := by decide
  have he : ¬ (⟨#[65]⟩ : ByteArray).toList.isEmpty = true := by decide +kernel
  unfold refS
  rw [hF, if_neg he]
  simp only [refK, okR, okD, r65, r66, r67, r68, wordR, wrap16, Bool.or_true, Bool.or_false, Bool.and_true, Bool.false_eq_true, if_true, if_false, Bool.and_eq_true, decide_eq_true_eq, bne_iff_ne, beq_iff_eq, ne_eq, ite_not]
  clear he r65 r66 r67 r68
  constructor
  · intro h
    repeat' split at h
    all_goals first
      | (have h' := Option.some.inj h; omega)
      | (cases h; done)
  · rintro ⟨hc, hx⟩
    repeat' split
    all_goals first
      | (exfalso; omega)
      | (congr 1; omega)
theorem refS_2 (n a b c d x : Int) (hF : fmI n = ⟨#[65, 66]⟩) : refS n a b c d = some x ↔ ((0 ≤ a ∧ a ≤ 255) ∧ (0 ≤ b ∧ b ≤ 255) ∧ c = 0 ∧ d = 0) ∧ n + a * 256 + b * 65536 + c * 16777216 + (d % 65536) * 65536 = x := by
  have hn := fm_byte n (by rw [hF]; decide +kernel)
  have r65 : hasR ⟨#[65, 66]⟩ 65 = true := by decide
  have r66 : hasR ⟨#[65, 66]⟩ 66 = true := by decide
  have r67 : hasR ⟨#[65, 66]⟩ 67 = false := by decide
  have r68 : hasR ⟨#[65, 66]⟩ 68 = false := by decide
  have he : ¬ (⟨#[65, 66]⟩ : ByteArray).toList.isEmpty = true := by decide +kernel
  unfold refS
  rw [hF, if_neg he]
  simp only [refK, okR, okD, r65, r66, r67, r68, wordR, wrap16, Bool.or_true, Bool.or_false, Bool.and_true, Bool.false_eq_true, if_true, if_false, Bool.and_eq_true, decide_eq_true_eq, bne_iff_ne, beq_iff_eq, ne_eq, ite_not]
  clear he r65 r66 r67 r68
  constructor
  · intro h
    repeat' split at h
    all_goals first
      | (have h' := Option.some.inj h; omega)
      | (cases h; done)
  · rintro ⟨hc, hx⟩
    repeat' split
    all_goals first
      | (exfalso; omega)
      | (congr 1; omega)
theorem refS_3 (n a b c d x : Int) (hF : fmI n = ⟨#[65, 66, 67]⟩) : refS n a b c d = some x ↔ ((0 ≤ a ∧ a ≤ 255) ∧ (0 ≤ b ∧ b ≤ 255) ∧ (0 ≤ c ∧ c ≤ 255) ∧ d = 0) ∧ n + a * 256 + b * 65536 + c * 16777216 + (d % 65536) * 65536 = x := by
  have hn := fm_byte n (by rw [hF]; decide +kernel)
  have r65 : hasR ⟨#[65, 66, 67]⟩ 65 = true := by decide
  have r66 : hasR ⟨#[65, 66, 67]⟩ 66 = true := by decide
  have r67 : hasR ⟨#[65, 66, 67]⟩ 67 = true := by decide
  have r68 : hasR ⟨#[65, 66, 67]⟩ 68 = false := by decide
  have he : ¬ (⟨#[65, 66, 67]⟩ : ByteArray).toList.isEmpty = true := by decide +kernel
  unfold refS
  rw [hF, if_neg he]
  simp only [refK, okR, okD, r65, r66, r67, r68, wordR, wrap16, Bool.or_true, Bool.or_false, Bool.and_true, Bool.false_eq_true, if_true, if_false, Bool.and_eq_true, decide_eq_true_eq, bne_iff_ne, beq_iff_eq, ne_eq, ite_not]
  clear he r65 r66 r67 r68
  constructor
  · intro h
    repeat' split at h
    all_goals first
      | (have h' := Option.some.inj h; omega)
      | (cases h; done)
  · rintro ⟨hc, hx⟩
    repeat' split
    all_goals first
      | (exfalso; omega)
      | (congr 1; omega)
theorem refS_4 (n a b c d x : Int) (hF : fmI n = ⟨#[65, 68]⟩) : refS n a b c d = some x ↔ ((0 ≤ a ∧ a ≤ 255) ∧ b = 0 ∧ c = 0 ∧ (-32768 ≤ d ∧ d ≤ 32767)) ∧ n + a * 256 + b * 65536 + c * 16777216 + (d % 65536) * 65536 = x := by
  have hn := fm_byte n (by rw [hF]; decide +kernel)
  have r65 : hasR ⟨#[65, 68]⟩ 65 = true := by decide
  have r66 : hasR ⟨#[65, 68]⟩ 66 = false := by decide
  have r67 : hasR ⟨#[65, 68]⟩ 67 = false := by decide
  have r68 : hasR ⟨#[65, 68]⟩ 68 = true := by decide
  have he : ¬ (⟨#[65, 68]⟩ : ByteArray).toList.isEmpty = true := by decide +kernel
  unfold refS
  rw [hF, if_neg he]
  simp only [refK, okR, okD, r65, r66, r67, r68, wordR, wrap16, Bool.or_true, Bool.or_false, Bool.and_true, Bool.false_eq_true, if_true, if_false, Bool.and_eq_true, decide_eq_true_eq, bne_iff_ne, beq_iff_eq, ne_eq, ite_not]
  clear he r65 r66 r67 r68
  constructor
  · intro h
    repeat' split at h
    all_goals first
      | (have h' := Option.some.inj h; omega)
      | (cases h; done)
  · rintro ⟨hc, hx⟩
    repeat' split
    all_goals first
      | (exfalso; omega)
      | (congr 1; omega)
theorem refS_5 (n a b c d x : Int) (hF : fmI n = ⟨#[68]⟩) : refS n a b c d = some x ↔ (a = 0 ∧ b = 0 ∧ c = 0 ∧ (-32768 ≤ d ∧ d ≤ 32767)) ∧ n + a * 256 + b * 65536 + c * 16777216 + (d % 65536) * 65536 = x := by
  have hn := fm_byte n (by rw [hF]; decide +kernel)
  have r65 : hasR ⟨#[68]⟩ 65 = false := by decide
  have r66 : hasR ⟨#[68]⟩ 66 = false := by decide
  have r67 : hasR ⟨#[68]⟩ 67 = false := by decide
  have r68 : hasR ⟨#[68]⟩ 68 = true := by decide
  have he : ¬ (⟨#[68]⟩ : ByteArray).toList.isEmpty = true := by decide +kernel
  unfold refS
  rw [hF, if_neg he]
  simp only [refK, okR, okD, r65, r66, r67, r68, wordR, wrap16, Bool.or_true, Bool.or_false, Bool.and_true, Bool.false_eq_true, if_true, if_false, Bool.and_eq_true, decide_eq_true_eq, bne_iff_ne, beq_iff_eq, ne_eq, ite_not]
  clear he r65 r66 r67 r68
  constructor
  · intro h
    repeat' split at h
    all_goals first
      | (have h' := Option.some.inj h; omega)
      | (cases h; done)
  · rintro ⟨hc, hx⟩
    repeat' split
    all_goals first
      | (exfalso; omega)
      | (congr 1; omega)
theorem dec_same (x a1 b1 c1 d1 a2 b2 c2 d2 : Int) (R1 R2 : Option Int) (n : Int) (h1 : R1 = some x ↔ R2 = some x) (h2 : R1 = some x → a1 = a2 ∧ b1 = b2 ∧ c1 = c2 ∧ d1 = d2) : decV x R1 n a1 b1 c1 d1 = decV x R2 n a2 b2 c2 d2 := by
  unfold decV
  by_cases h : R1 = some x
  · obtain ⟨rfl, rfl, rfl, rfl⟩ := h2 h
    rw [if_pos h, if_pos (h1.1 h)]
  · rw [if_neg h, if_neg (fun h' => h (h1.2 h'))]
theorem dec_eq_0 (x : Int) (h0 : 0 ≤ x) (h1 : x < 4294967296) (hF : fmI (x % 256) = ⟨#[]⟩) : decV x (encS (x % 256) 0 0 0 0) (x % 256) 0 0 0 0 = decV x (refS (x % 256) (x / 256 % 256) (x / 65536 % 256) (x / 16777216) 0) (x % 256) (x / 256 % 256) (x / 65536 % 256) (x / 16777216) 0 := by
  rw [enc_eq, refS_0 _ _ _ _ _ hF, refS_0 _ _ _ _ _ hF, decV_none, decV_none]
theorem dec_eq_1 (x : Int) (h0 : 0 ≤ x) (h1 : x < 4294967296) (hF : fmI (x % 256) = ⟨#[65]⟩) : decV x (encS (x % 256) (x / 256 % 256) 0 0 0) (x % 256) (x / 256 % 256) 0 0 0 = decV x (refS (x % 256) (x / 256 % 256) (x / 65536 % 256) (x / 16777216) 0) (x % 256) (x / 256 % 256) (x / 65536 % 256) (x / 16777216) 0 := by
  obtain ⟨d0, d1, d2⟩ := dI_range x h0 h1
  rw [enc_eq]
  refine dec_same _ _ _ _ _ _ _ _ _ _ _ _ ?_ ?_
  · rw [refS_1 _ _ _ _ _ _ hF, refS_1 _ _ _ _ _ _ hF]
    omega
  · rw [refS_1 _ _ _ _ _ _ hF]
    intro h
    omega
theorem dec_eq_2 (x : Int) (h0 : 0 ≤ x) (h1 : x < 4294967296) (hF : fmI (x % 256) = ⟨#[65, 66]⟩) : decV x (encS (x % 256) (x / 256 % 256) (x / 65536 % 256) 0 0) (x % 256) (x / 256 % 256) (x / 65536 % 256) 0 0 = decV x (refS (x % 256) (x / 256 % 256) (x / 65536 % 256) (x / 16777216) 0) (x % 256) (x / 256 % 256) (x / 65536 % 256) (x / 16777216) 0 := by
  obtain ⟨d0, d1, d2⟩ := dI_range x h0 h1
  rw [enc_eq]
  refine dec_same _ _ _ _ _ _ _ _ _ _ _ _ ?_ ?_
  · rw [refS_2 _ _ _ _ _ _ hF, refS_2 _ _ _ _ _ _ hF]
    omega
  · rw [refS_2 _ _ _ _ _ _ hF]
    intro h
    omega
theorem dec_eq_3 (x : Int) (h0 : 0 ≤ x) (h1 : x < 4294967296) (hF : fmI (x % 256) = ⟨#[65, 66, 67]⟩) : decV x (encS (x % 256) (x / 256 % 256) (x / 65536 % 256) (x / 16777216 % 256) 0) (x % 256) (x / 256 % 256) (x / 65536 % 256) (x / 16777216 % 256) 0 = decV x (refS (x % 256) (x / 256 % 256) (x / 65536 % 256) (x / 16777216) 0) (x % 256) (x / 256 % 256) (x / 65536 % 256) (x / 16777216) 0 := by
  obtain ⟨d0, d1, d2⟩ := dI_range x h0 h1
  rw [enc_eq]
  refine dec_same _ _ _ _ _ _ _ _ _ _ _ _ ?_ ?_
  · rw [refS_3 _ _ _ _ _ _ hF, refS_3 _ _ _ _ _ _ hF]
    omega
  · rw [refS_3 _ _ _ _ _ _ hF]
    intro h
    omega
theorem dec_eq_4 (x : Int) (h0 : 0 ≤ x) (h1 : x < 4294967296) (hF : fmI (x % 256) = ⟨#[65, 68]⟩) : decV x (encS (x % 256) (x / 256 % 256) 0 0 (dI x)) (x % 256) (x / 256 % 256) 0 0 (dI x) = decV x (refS (x % 256) (x / 256 % 256) 0 0 (dI x)) (x % 256) (x / 256 % 256) 0 0 (dI x) := by
  rw [enc_eq]
theorem dec_eq_5 (x : Int) (h0 : 0 ≤ x) (h1 : x < 4294967296) (hF : fmI (x % 256) = ⟨#[68]⟩) : decV x (encS (x % 256) 0 0 0 (dI x)) (x % 256) 0 0 0 (dI x) = decV x (refS (x % 256) (x / 256 % 256) 0 0 (dI x)) (x % 256) (x / 256 % 256) 0 0 (dI x) := by
  obtain ⟨d0, d1, d2⟩ := dI_range x h0 h1
  rw [enc_eq]
  refine dec_same _ _ _ _ _ _ _ _ _ _ _ _ ?_ ?_
  · rw [refS_5 _ _ _ _ _ _ hF, refS_5 _ _ _ _ _ _ hF]
    omega
  · rw [refS_5 _ _ _ _ _ _ hF]
    intro h
    omega
/-- What Decode answers, for both. -/
def decS (x : Int) : Value := if hasR (fmI (x % 256)) 68 = true then decV x (refS (x % 256) (x / 256 % 256) 0 0 (dI x)) (x % 256) (x / 256 % 256) 0 0 (dI x) else decV x (refS (x % 256) (x / 256 % 256) (x / 65536 % 256) (x / 16777216) 0) (x % 256) (x / 256 % 256) (x / 65536 % 256) (x / 16777216) 0
theorem refDec_any (x : Int) (h0 : 0 ≤ x) (h1 : x < 4294967296) (w : World) : Calls Tryd.prog 22 #[.int .u32 x] w fun e w' => e = .returned (decS x) ∧ Below w.heap.size w w' := by
  unfold decS
  by_cases h : hasR (fmI (x % 256)) 68 = true
  · rw [if_pos h]; exact refDec_D x h0 h1 _ _ rfl rfl h w
  · rw [if_neg h]; exact refDec_N x h0 h1 _ _ rfl rfl (by simpa using h) w
theorem dec_any (x : Int) (h0 : 0 ≤ x) (h1 : x < 4294967296) (w : World) : Calls Tryd.prog 19 #[.int .u32 x] w fun e w' => e = .returned (decS x) ∧ Below w.heap.size w w' := by
  have hc := fmI_case (x % 256)
  generalize hF : fmI (x % 256) = F at hc
  cases hc with
  | c0 =>
    have e : decS x = decV x (encS (x % 256) 0 0 0 0) (x % 256) 0 0 0 0 := by
      rw [dec_eq_0 x h0 h1 hF]
      unfold decS
      rw [hF, if_neg (by decide)]
    rw [e]
    exact dec_c0 x h0 h1 _ _ rfl rfl hF w
  | c1 =>
    have e : decS x = decV x (encS (x % 256) (x / 256 % 256) 0 0 0) (x % 256) (x / 256 % 256) 0 0 0 := by
      rw [dec_eq_1 x h0 h1 hF]
      unfold decS
      rw [hF, if_neg (by decide)]
    rw [e]
    exact dec_c1 x h0 h1 _ _ rfl rfl hF w
  | c2 =>
    have e : decS x = decV x (encS (x % 256) (x / 256 % 256) (x / 65536 % 256) 0 0) (x % 256) (x / 256 % 256) (x / 65536 % 256) 0 0 := by
      rw [dec_eq_2 x h0 h1 hF]
      unfold decS
      rw [hF, if_neg (by decide)]
    rw [e]
    exact dec_c2 x h0 h1 _ _ rfl rfl hF w
  | c3 =>
    have e : decS x = decV x (encS (x % 256) (x / 256 % 256) (x / 65536 % 256) (x / 16777216 % 256) 0) (x % 256) (x / 256 % 256) (x / 65536 % 256) (x / 16777216 % 256) 0 := by
      rw [dec_eq_3 x h0 h1 hF]
      unfold decS
      rw [hF, if_neg (by decide)]
    rw [e]
    exact dec_c3 x h0 h1 _ _ rfl rfl hF w
  | c4 =>
    have e : decS x = decV x (encS (x % 256) (x / 256 % 256) 0 0 (dI x)) (x % 256) (x / 256 % 256) 0 0 (dI x) := by
      rw [dec_eq_4 x h0 h1 hF]
      unfold decS
      rw [hF, if_pos (by decide)]
    rw [e]
    exact dec_c4 x h0 h1 _ _ rfl rfl hF w
  | c5 =>
    have e : decS x = decV x (encS (x % 256) 0 0 0 (dI x)) (x % 256) 0 0 0 (dI x) := by
      rw [dec_eq_5 x h0 h1 hF]
      unfold decS
      rw [hF, if_pos (by decide)]
    rw [e]
    exact dec_c5 x h0 h1 _ _ rfl rfl hF w
end Go.Proofs.YtjocifamacpamaaDoor
