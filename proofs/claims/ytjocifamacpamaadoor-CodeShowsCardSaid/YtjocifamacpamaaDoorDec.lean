/- The reference's Decode, walked. Conditions: none. -/
import Derived.Test.YtjocifamacpamaaDoorInstrG
namespace Go.Proofs.YtjocifamacpamaaDoor
open Go.RowKit
set_option linter.unusedVariables false
def insV (n a b c d : Int) : Value := .agg #[.int .i64 n, .int .i64 a, .int .i64 b, .int .i64 c, .int .i64 d]
def badV : Value := .tuple #[insV 0 0 0 0 0, .int .i64 1]
def decV (x : Int) (R : Option Int) (n a b c d : Int) : Value := if R = some x then .tuple #[insV n a b c d, .int .i64 0] else badV
def dI (x : Int) : Int := wrap64 (IntKind.i16.wrap (x / 65536))
theorem decV_none (x n a b c d : Int) : decV x none n a b c d = badV := rfl
theorem decV_ne (x y n a b c d : Int) (h : ¬ y = x) : decV x (some y) n a b c d = badV := by
  unfold decV; rw [if_neg (by simpa using h)]
theorem decV_eq (x n a b c d : Int) : decV x (some x) n a b c d = .tuple #[insV n a b c d, .int .i64 0] := by
  unfold decV; rw [if_pos rfl]
set_option maxHeartbeats 2000000 in
theorem refDec_D (x : Int) (h0 : 0 ≤ x) (h1 : x < 4294967296) (N F : ByteArray) (hN : N = nmI (x % 256)) (hF : F = fmI (x % 256)) (hD : hasR F 68 = true) (w : World) :
    Calls Tryd.prog 22 #[.int .u32 x] w fun e w' => e = .returned (decV x (refS (x % 256) (x / 256 % 256) 0 0 (dI x)) (x % 256) (x / 256 % 256) 0 0 (dI x)) ∧ Below w.heap.size w w' := by
  have hof := row_any (x % 256)
  rw [← hN, ← hF] at hof
  have hsz : F.size ≤ maxLen := by rw [hF]; exact fm_small (fmI_case _)
  have hre := refEnc_any (x % 256) (x / 256 % 256) 0 0 (dI x)
  generalize refS (x % 256) (x / 256 % 256) 0 0 (dI x) = R at *
  have Hre := hid hre
  have Hsz := hid hsz
  have Hof := hid hof
  clear hof hN hF hsz hre
  rcases R with _ | y
  · go_enter Tryd.func22, Tryd.ntmps22
    go_wp2_with (first | (go_at_call 17; refine (Hof.out _).mono ?_; rintro e w' ⟨rfl, hb⟩; obtain ⟨g1, rfl⟩ := bout hb; clear hb) | (go_at_call 26; refine (has_any F 68 _ Hsz.out).mono ?_; rintro e w2 ⟨rfl, rfl⟩) | (go_at_call 16; refine (Hre.out _).mono ?_; rintro e w' ⟨rfl, hb⟩; obtain ⟨g1, rfl⟩ := bout hb; clear hb; simp only [encRes]))
    refine bodyPost_ret (v := badV) (by simp [badV, insV, results, Tryd.results22, go_sem]) rfl ⟨by rw [decV_none], by repeat (first | exact Below.refl _ _ | refine bG ?_ _ | refine bI ?_ _ _ | refine bA ?_ _)⟩
  by_cases hy : y = x
  · obtain rfl : x = y := hy.symm
    go_enter Tryd.func22, Tryd.ntmps22
    go_wp2_with (first | (go_at_call 17; refine (Hof.out _).mono ?_; rintro e w' ⟨rfl, hb⟩; obtain ⟨g1, rfl⟩ := bout hb; clear hb) | (go_at_call 26; refine (has_any F 68 _ Hsz.out).mono ?_; rintro e w2 ⟨rfl, rfl⟩) | (go_at_call 16; refine (Hre.out _).mono ?_; rintro e w' ⟨rfl, hb⟩; obtain ⟨g1, rfl⟩ := bout hb; clear hb; simp only [encRes]))
    refine bodyPost_ret (v := .tuple #[insV (x % 256) (x / 256 % 256) 0 0 (dI x), .int .i64 0]) (by simp [insV, dI, results, Tryd.results22, go_sem]) rfl ⟨by rw [decV_eq], by repeat (first | exact Below.refl _ _ | refine bG ?_ _ | refine bI ?_ _ _ | refine bA ?_ _)⟩
  · have hy2 : (y != x) = true := by rw [bne_iff_ne]; exact hy
    have Hy := hid hy
    clear hy
    go_enter Tryd.func22, Tryd.ntmps22
    go_wp2_with (first | (go_at_call 17; refine (Hof.out _).mono ?_; rintro e w' ⟨rfl, hb⟩; obtain ⟨g1, rfl⟩ := bout hb; clear hb) | (go_at_call 26; refine (has_any F 68 _ Hsz.out).mono ?_; rintro e w2 ⟨rfl, rfl⟩) | (go_at_call 16; refine (Hre.out _).mono ?_; rintro e w' ⟨rfl, hb⟩; obtain ⟨g1, rfl⟩ := bout hb; clear hb; simp only [encRes]))
    refine bodyPost_ret (v := badV) (by simp [badV, insV, results, Tryd.results22, go_sem]) rfl ⟨by rw [decV_ne _ _ _ _ _ _ _ Hy.out], by repeat (first | exact Below.refl _ _ | refine bG ?_ _ | refine bI ?_ _ _ | refine bA ?_ _)⟩
set_option maxHeartbeats 2000000 in
theorem refDec_N (x : Int) (h0 : 0 ≤ x) (h1 : x < 4294967296) (N F : ByteArray) (hN : N = nmI (x % 256)) (hF : F = fmI (x % 256)) (hD : hasR F 68 = false) (w : World) :
    Calls Tryd.prog 22 #[.int .u32 x] w fun e w' => e = .returned (decV x (refS (x % 256) (x / 256 % 256) (x / 65536 % 256) (x / 16777216) 0) (x % 256) (x / 256 % 256) (x / 65536 % 256) (x / 16777216) 0) ∧ Below w.heap.size w w' := by
  have hof := row_any (x % 256)
  rw [← hN, ← hF] at hof
  have hsz : F.size ≤ maxLen := by rw [hF]; exact fm_small (fmI_case _)
  have hre := refEnc_any (x % 256) (x / 256 % 256) (x / 65536 % 256) (x / 16777216) 0
  generalize refS (x % 256) (x / 256 % 256) (x / 65536 % 256) (x / 16777216) 0 = R at *
  have Hre := hid hre
  have Hsz := hid hsz
  have Hof := hid hof
  clear hof hN hF hsz hre
  rcases R with _ | y
  · go_enter Tryd.func22, Tryd.ntmps22
    go_wp2_with (first | (go_at_call 17; refine (Hof.out _).mono ?_; rintro e w' ⟨rfl, hb⟩; obtain ⟨g1, rfl⟩ := bout hb; clear hb) | (go_at_call 26; refine (has_any F 68 _ Hsz.out).mono ?_; rintro e w2 ⟨rfl, rfl⟩) | (go_at_call 16; refine (Hre.out _).mono ?_; rintro e w' ⟨rfl, hb⟩; obtain ⟨g1, rfl⟩ := bout hb; clear hb; simp only [encRes]))
    refine bodyPost_ret (v := badV) (by simp [badV, insV, results, Tryd.results22, go_sem]) rfl ⟨by rw [decV_none], by repeat (first | exact Below.refl _ _ | refine bG ?_ _ | refine bI ?_ _ _ | refine bA ?_ _)⟩
  by_cases hy : y = x
  · obtain rfl : x = y := hy.symm
    go_enter Tryd.func22, Tryd.ntmps22
    go_wp2_with (first | (go_at_call 17; refine (Hof.out _).mono ?_; rintro e w' ⟨rfl, hb⟩; obtain ⟨g1, rfl⟩ := bout hb; clear hb) | (go_at_call 26; refine (has_any F 68 _ Hsz.out).mono ?_; rintro e w2 ⟨rfl, rfl⟩) | (go_at_call 16; refine (Hre.out _).mono ?_; rintro e w' ⟨rfl, hb⟩; obtain ⟨g1, rfl⟩ := bout hb; clear hb; simp only [encRes]))
    refine bodyPost_ret (v := .tuple #[insV (x % 256) (x / 256 % 256) (x / 65536 % 256) (x / 16777216) 0, .int .i64 0]) (by simp [insV, dI, results, Tryd.results22, go_sem]) rfl ⟨by rw [decV_eq], by repeat (first | exact Below.refl _ _ | refine bG ?_ _ | refine bI ?_ _ _ | refine bA ?_ _)⟩
  · have hy2 : (y != x) = true := by rw [bne_iff_ne]; exact hy
    have Hy := hid hy
    clear hy
    go_enter Tryd.func22, Tryd.ntmps22
    go_wp2_with (first | (go_at_call 17; refine (Hof.out _).mono ?_; rintro e w' ⟨rfl, hb⟩; obtain ⟨g1, rfl⟩ := bout hb; clear hb) | (go_at_call 26; refine (has_any F 68 _ Hsz.out).mono ?_; rintro e w2 ⟨rfl, rfl⟩) | (go_at_call 16; refine (Hre.out _).mono ?_; rintro e w' ⟨rfl, hb⟩; obtain ⟨g1, rfl⟩ := bout hb; clear hb; simp only [encRes]))
    refine bodyPost_ret (v := badV) (by simp [badV, insV, results, Tryd.results22, go_sem]) rfl ⟨by rw [decV_ne _ _ _ _ _ _ _ Hy.out], by repeat (first | exact Below.refl _ _ | refine bG ?_ _ | refine bI ?_ _ _ | refine bA ?_ _)⟩
end Go.Proofs.YtjocifamacpamaaDoor
