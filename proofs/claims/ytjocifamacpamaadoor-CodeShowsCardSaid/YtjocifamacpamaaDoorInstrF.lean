/- instr: what both programs encode is the same. Conditions: none. -/
import Derived.Test.YtjocifamacpamaaDoorInstrE
import Derived.Laws.BitsAllLaws
namespace Go.Proofs.YtjocifamacpamaaDoor
open Go.RowKit
set_option linter.unusedVariables false

/-- Which fields a form may be. -/
inductive FmCase : ByteArray → Prop
  | c0 : FmCase ⟨#[]⟩
  | c1 : FmCase ⟨#[65]⟩
  | c2 : FmCase ⟨#[65, 66]⟩
  | c3 : FmCase ⟨#[65, 66, 67]⟩
  | c4 : FmCase ⟨#[65, 68]⟩
  | c5 : FmCase ⟨#[68]⟩
theorem fmN_case (m : Nat) : FmCase (fmN m) := by
  by_cases h : 63 ≤ m
  · rw [fmN_big m h]; exact .c0
  · match m, h with
    | 0, _ => exact .c0
    | 1, _ => exact .c4
    | 2, _ => exact .c2
    | 3, _ => exact .c2
    | 4, _ => exact .c2
    | 5, _ => exact .c1
    | 6, _ => exact .c2
    | 7, _ => exact .c2
    | 8, _ => exact .c2
    | 9, _ => exact .c2
    | 10, _ => exact .c0
    | 11, _ => exact .c3
    | 12, _ => exact .c3
    | 13, _ => exact .c3
    | 14, _ => exact .c3
    | 15, _ => exact .c3
    | 16, _ => exact .c3
    | 17, _ => exact .c3
    | 18, _ => exact .c3
    | 19, _ => exact .c3
    | 20, _ => exact .c0
    | 21, _ => exact .c3
    | 22, _ => exact .c3
    | 23, _ => exact .c3
    | 24, _ => exact .c3
    | 25, _ => exact .c3
    | 26, _ => exact .c3
    | 27, _ => exact .c3
    | 28, _ => exact .c0
    | 29, _ => exact .c0
    | 30, _ => exact .c2
    | 31, _ => exact .c2
    | 32, _ => exact .c2
    | 33, _ => exact .c0
    | 34, _ => exact .c5
    | 35, _ => exact .c4
    | 36, _ => exact .c4
    | 37, _ => exact .c5
    | 38, _ => exact .c0
    | 39, _ => exact .c0
    | 40, _ => exact .c4
    | 41, _ => exact .c3
    | 42, _ => exact .c1
    | 43, _ => exact .c1
    | 44, _ => exact .c4
    | 45, _ => exact .c3
    | 46, _ => exact .c3
    | 47, _ => exact .c3
    | 48, _ => exact .c0
    | 49, _ => exact .c3
    | 50, _ => exact .c3
    | 51, _ => exact .c4
    | 52, _ => exact .c4
    | 53, _ => exact .c2
    | 54, _ => exact .c3
    | 55, _ => exact .c1
    | 56, _ => exact .c1
    | 57, _ => exact .c1
    | 58, _ => exact .c2
    | 59, _ => exact .c1
    | 60, _ => exact .c2
    | 61, _ => exact .c4
    | 62, _ => exact .c4
    | m + 63, h => exact absurd (by omega) h
theorem fmI_case (n : Int) : FmCase (fmI n) := by
  unfold fmI; split
  · exact fmN_case _
  · exact .c0
theorem fm_small {F : ByteArray} (h : FmCase F) : F.size ≤ maxLen := by
  cases h <;> decide
/-- A number that has fields is a byte. -/
theorem fm_byte (n : Int) (h : (fmI n).toList.isEmpty = false) : 0 < n ∧ n < 63 := by
  by_cases h0 : n < 1
  · exfalso
    by_cases h1 : n < 0
    · rw [fmI_out n (Or.inl h1)] at h; exact absurd h (by decide +kernel)
    · obtain rfl : n = 0 := by omega
      exact absurd h (by decide +kernel)
  by_cases h1 : 63 ≤ n
  · rw [fmI_out n (Or.inr h1)] at h; exact absurd h (by decide +kernel)
  omega
theorem or_far (x y s : Nat) (hx : x < 2 ^ s) : x ||| y * 2 ^ s = x + y * 2 ^ s := by
  have := Nat.two_pow_add_eq_or_of_lt hx y
  rw [Nat.or_comm, Nat.mul_comm, ← this]; omega
theorem orw_far (x y : Int) (s : Nat) (hs : s ≤ 32) (hx : 0 ≤ x) (hx2 : x < 2 ^ s) (hy : 0 ≤ y) (hy2 : y * 2 ^ s < 4294967296) : orw x (y * 2 ^ s) = x + y * 2 ^ s := by
  obtain ⟨x, rfl⟩ := Int.eq_ofNat_of_zero_le hx
  obtain ⟨y, rfl⟩ := Int.eq_ofNat_of_zero_le hy
  have h1 : x < 2 ^ s := by exact_mod_cast hx2
  have e : ((y : Int) * 2 ^ s) = ((y * 2 ^ s : Nat) : Int) := by push_cast; rfl
  have h2 : y * 2 ^ s < 4294967296 := by
    rw [e] at hy2
    omega
  have h3 : (2 : Nat) ^ s ≤ 4294967296 := Nat.le_trans (Nat.pow_le_pow_right (by decide) hs) (by decide)
  have h4 : x < 4294967296 := Nat.lt_of_lt_of_le h1 h3
  unfold orw
  rw [e, u32_or_nat x (y * 2 ^ s) h4 h2, or_far x y s h1]
  push_cast; rfl
theorem orw8 (x y : Int) (hx : 0 ≤ x) (hx2 : x < 256) (hy : 0 ≤ y) (hy2 : y ≤ 255) : orw x (y * 256) = x + y * 256 :=
  orw_far x y 8 (by decide) hx (by simpa using hx2) hy (by simp; omega)
theorem orw16 (x y : Int) (hx : 0 ≤ x) (hx2 : x < 65536) (hy : 0 ≤ y) (hy2 : y ≤ 65535) : orw x (y * 65536) = x + y * 65536 :=
  orw_far x y 16 (by decide) hx (by simpa using hx2) hy (by simp; omega)
theorem orw24 (x y : Int) (hx : 0 ≤ x) (hx2 : x < 16777216) (hy : 0 ≤ y) (hy2 : y ≤ 255) : orw x (y * 16777216) = x + y * 16777216 :=
  orw_far x y 24 (by decide) hx (by simpa using hx2) hy (by simp; omega)
theorem wrap16 (d : Int) : IntKind.u16.wrap d = d % 65536 := by
  simp [IntKind.wrap, IntKind.signed, IntKind.bits]
def refS (n a b c d : Int) : Option Int := if (fmI n).toList.isEmpty = true then none else refK (fmI n) n a b c d 0
theorem refEnc_any (n a b c d : Int) (w : World) :
    Calls Tryd.prog 16 #[.agg #[.int .i64 n, .int .i64 a, .int .i64 b, .int .i64 c, .int .i64 d]] w fun e w' => e = .returned (encRes (refS n a b c d)) ∧ Below w.heap.size w w' := by
  by_cases h : (fmI n).toList.isEmpty = true
  · rw [show refS n a b c d = none by simp only [refS, if_pos h]]
    have hof := row_any n
    generalize nmI n = N at hof
    generalize fmI n = F at hof h
    have Hof := hid hof
    clear hof
    go_enter Tryd.func16, Tryd.ntmps16
    go_wp2_with (go_at_call 17; refine (Hof.out _).mono ?_; rintro e w' ⟨rfl, hb⟩; obtain ⟨g1, rfl⟩ := bout hb; clear hb)
    go_ret2
    exact ⟨rfl, bG (bA (Below.refl _ _) _) _⟩
  · rw [show refS n a b c d = refK (fmI n) n a b c d 0 by simp only [refS, if_neg h]]
    exact refEnc_some n a b c d _ _ rfl rfl (by simpa using h) (fm_small (fmI_case n)) _ rfl w

set_option maxHeartbeats 2000000 in
theorem enc_eq (n a b c d : Int) : encS n a b c d = refS n a b c d := by
  unfold encS refS
  by_cases h : (fmI n).toList.isEmpty = true
  · simp only [if_pos h]
  simp only [if_neg h]
  have hn := fm_byte n (by simpa using h)
  have hc := fmI_case n
  generalize fmI n = F at *
  cases hc with
  | c0 => exact absurd (by decide +kernel) h
  | c1 =>
    have b65 : hasB ⟨#[65]⟩ 65 = true := by decide
    have r65 : hasR ⟨#[65]⟩ 65 = true := by decide
    have b66 : hasB ⟨#[65]⟩ 66 = false := by decide
    have r66 : hasR ⟨#[65]⟩ 66 = false := by decide
    have b67 : hasB ⟨#[65]⟩ 67 = false := by decide
    have r67 : hasR ⟨#[65]⟩ 67 = false := by decide
    have b68 : hasB ⟨#[65]⟩ 68 = false := by decide
    have r68 : hasR ⟨#[65]⟩ 68 = false := by decide
    simp only [encA, encB, encC, encD, refK, okR, okD, b65, b66, b67, b68, r65, r66, r67, r68, wordR, wrap16, Bool.or_true, Bool.or_false, Bool.and_true, Bool.false_eq_true, if_true, if_false, Bool.and_eq_true, decide_eq_true_eq, bne_iff_ne, beq_iff_eq, ne_eq, ite_not]
    clear b65 b66 b67 b68 r65 r66 r67 r68 h
    have en : n % 4294967296 = n := by omega
    have ed : d % 65536 % 4294967296 * 65536 % 4294967296 = d % 65536 * 65536 := by omega
    rw [en]
    repeat' split
    all_goals first
      | rfl
      | (exfalso; omega)
      | (rw [orw8 n a (by omega) (by omega) (by omega) (by omega)]; congr 1; omega)
  | c2 =>
    have b65 : hasB ⟨#[65, 66]⟩ 65 = true := by decide
    have r65 : hasR ⟨#[65, 66]⟩ 65 = true := by decide
    have b66 : hasB ⟨#[65, 66]⟩ 66 = true := by decide
    have r66 : hasR ⟨#[65, 66]⟩ 66 = true := by decide
    have b67 : hasB ⟨#[65, 66]⟩ 67 = false := by decide
    have r67 : hasR ⟨#[65, 66]⟩ 67 = false := by decide
    have b68 : hasB ⟨#[65, 66]⟩ 68 = false := by decide
    have r68 : hasR ⟨#[65, 66]⟩ 68 = false := by decide
    simp only [encA, encB, encC, encD, refK, okR, okD, b65, b66, b67, b68, r65, r66, r67, r68, wordR, wrap16, Bool.or_true, Bool.or_false, Bool.and_true, Bool.false_eq_true, if_true, if_false, Bool.and_eq_true, decide_eq_true_eq, bne_iff_ne, beq_iff_eq, ne_eq, ite_not]
    clear b65 b66 b67 b68 r65 r66 r67 r68 h
    have en : n % 4294967296 = n := by omega
    have ed : d % 65536 % 4294967296 * 65536 % 4294967296 = d % 65536 * 65536 := by omega
    rw [en]
    repeat' split
    all_goals first
      | rfl
      | (exfalso; omega)
      | (rw [orw8 n a (by omega) (by omega) (by omega) (by omega), orw16 (n + a * 256) b (by omega) (by omega) (by omega) (by omega)]; congr 1; omega)
  | c3 =>
    have b65 : hasB ⟨#[65, 66, 67]⟩ 65 = true := by decide
    have r65 : hasR ⟨#[65, 66, 67]⟩ 65 = true := by decide
    have b66 : hasB ⟨#[65, 66, 67]⟩ 66 = true := by decide
    have r66 : hasR ⟨#[65, 66, 67]⟩ 66 = true := by decide
    have b67 : hasB ⟨#[65, 66, 67]⟩ 67 = true := by decide
    have r67 : hasR ⟨#[65, 66, 67]⟩ 67 = true := by decide
    have b68 : hasB ⟨#[65, 66, 67]⟩ 68 = false := by decide
    have r68 : hasR ⟨#[65, 66, 67]⟩ 68 = false := by decide
    simp only [encA, encB, encC, encD, refK, okR, okD, b65, b66, b67, b68, r65, r66, r67, r68, wordR, wrap16, Bool.or_true, Bool.or_false, Bool.and_true, Bool.false_eq_true, if_true, if_false, Bool.and_eq_true, decide_eq_true_eq, bne_iff_ne, beq_iff_eq, ne_eq, ite_not]
    clear b65 b66 b67 b68 r65 r66 r67 r68 h
    have en : n % 4294967296 = n := by omega
    have ed : d % 65536 % 4294967296 * 65536 % 4294967296 = d % 65536 * 65536 := by omega
    rw [en]
    repeat' split
    all_goals first
      | rfl
      | (exfalso; omega)
      | (rw [orw8 n a (by omega) (by omega) (by omega) (by omega), orw16 (n + a * 256) b (by omega) (by omega) (by omega) (by omega), orw24 (n + a * 256 + b * 65536) c (by omega) (by omega) (by omega) (by omega)]; congr 1; omega)
  | c4 =>
    have b65 : hasB ⟨#[65, 68]⟩ 65 = true := by decide
    have r65 : hasR ⟨#[65, 68]⟩ 65 = true := by decide
    have b66 : hasB ⟨#[65, 68]⟩ 66 = false := by decide
    have r66 : hasR ⟨#[65, 68]⟩ 66 = false := by decide
    have b67 : hasB ⟨#[65, 68]⟩ 67 = false := by decide
    have r67 : hasR ⟨#[65, 68]⟩ 67 = false := by decide
    have b68 : hasB ⟨#[65, 68]⟩ 68 = true := by decide
    have r68 : hasR ⟨#[65, 68]⟩ 68 = true := by decide
    simp only [encA, encB, encC, encD, refK, okR, okD, b65, b66, b67, b68, r65, r66, r67, r68, wordR, wrap16, Bool.or_true, Bool.or_false, Bool.and_true, Bool.false_eq_true, if_true, if_false, Bool.and_eq_true, decide_eq_true_eq, bne_iff_ne, beq_iff_eq, ne_eq, ite_not]
    clear b65 b66 b67 b68 r65 r66 r67 r68 h
    have en : n % 4294967296 = n := by omega
    have ed : d % 65536 % 4294967296 * 65536 % 4294967296 = d % 65536 * 65536 := by omega
    rw [en]
    repeat' split
    all_goals first
      | rfl
      | (exfalso; omega)
      | (rw [ed, orw8 n a (by omega) (by omega) (by omega) (by omega), orw16 (n + a * 256) (d % 65536) (by omega) (by omega) (by omega) (by omega)]; congr 1; omega)
  | c5 =>
    have b65 : hasB ⟨#[68]⟩ 65 = false := by decide
    have r65 : hasR ⟨#[68]⟩ 65 = false := by decide
    have b66 : hasB ⟨#[68]⟩ 66 = false := by decide
    have r66 : hasR ⟨#[68]⟩ 66 = false := by decide
    have b67 : hasB ⟨#[68]⟩ 67 = false := by decide
    have r67 : hasR ⟨#[68]⟩ 67 = false := by decide
    have b68 : hasB ⟨#[68]⟩ 68 = true := by decide
    have r68 : hasR ⟨#[68]⟩ 68 = true := by decide
    simp only [encA, encB, encC, encD, refK, okR, okD, b65, b66, b67, b68, r65, r66, r67, r68, wordR, wrap16, Bool.or_true, Bool.or_false, Bool.and_true, Bool.false_eq_true, if_true, if_false, Bool.and_eq_true, decide_eq_true_eq, bne_iff_ne, beq_iff_eq, ne_eq, ite_not]
    clear b65 b66 b67 b68 r65 r66 r67 r68 h
    have en : n % 4294967296 = n := by omega
    have ed : d % 65536 % 4294967296 * 65536 % 4294967296 = d % 65536 * 65536 := by omega
    rw [en]
    repeat' split
    all_goals first
      | rfl
      | (exfalso; omega)
      | (rw [ed, orw16 n (d % 65536) (by omega) (by omega) (by omega) (by omega)]; congr 1; omega)
end Go.Proofs.YtjocifamacpamaaDoor
