/- instr.Decode, walked. Conditions: none. -/
import Derived.Test.YtjocifamacpamaaDoorDec
import Derived.Test.YtjocifamacpamaaDoorBaseB

namespace Go.Proofs.YtjocifamacpamaaDoor
open Go.RowKit
set_option linter.unusedVariables false
set_option maxHeartbeats 4000000 in
theorem dec_c0 (x : Int) (h0 : 0 ≤ x) (h1 : x < 4294967296) (N F : ByteArray) (hN : N = nmI (x % 256)) (hF : F = fmI (x % 256)) (hC : F = ⟨#[]⟩) (w : World) :
    Calls Tryd.prog 19 #[.int .u32 x] w fun e w' => e = .returned (decV x (encS (x % 256) 0 0 0 0) (x % 256) 0 0 0 0) ∧ Below w.heap.size w w' := by
  have hof := of_any (x % 256)
  have hre := encode_any (x % 256) 0 0 0 0
  rw [← hN, ← hF, hC] at hof
  generalize encS (x % 256) 0 0 0 0 = R at *
  have Hre := hid hre
  have Hof := hid hof
  clear hof hN hF hre
  subst hC
  have a1 : 0 ≤ x / 256 := by omega
  have a2 : x / 256 < 4294967296 := by omega
  have b1 : 0 ≤ x / 65536 := by omega
  have b2 : x / 65536 < 4294967296 := by omega
  have c1 : 0 ≤ x / 16777216 := by omega
  have c2 : x / 16777216 < 4294967296 := by omega
  have hAe := next_at_end (P := Tryd.prog) ⟨#[]⟩ 0 (by decide)
  have hBe := next_new_end (P := Tryd.prog) ⟨#[]⟩ 0 (by decide)
  go_enter Tryd.func19, Tryd.ntmps19
  go_wp2_with (first | (go_at_call 23; refine (Hof.out _).mono ?_; rintro e w' ⟨rfl, hb⟩; obtain ⟨g1, rfl⟩ := bout hb; clear hb))
  refine wp_loop_rounds 1 ?_
  rw [rounds_succ]
  rcases R with _ | y
  · go_wp2_with (go_at_call 11; refine (Hre.out _).mono ?_; rintro e w' ⟨rfl, hb⟩; obtain ⟨g3, rfl⟩ := bout hb; clear hb; simp only [encRes])
    refine bodyPost_ret (v := badV) (by simp [badV, insV, results, Tryd.results19, go_sem]) rfl ⟨by rw [decV_none], by repeat (first | exact Below.refl _ _ | refine bG ?_ _ | refine bI ?_ _ _ | refine bA ?_ _)⟩
  by_cases hy : y = x
  · obtain rfl : x = y := hy.symm
    go_wp2_with (go_at_call 11; refine (Hre.out _).mono ?_; rintro e w' ⟨rfl, hb⟩; obtain ⟨g3, rfl⟩ := bout hb; clear hb; simp only [encRes])
    refine bodyPost_ret (v := .tuple #[insV (x % 256) 0 0 0 0, .int .i64 0]) (by simp [insV, dI, results, Tryd.results19, go_sem]) rfl ⟨by rw [decV_eq], by repeat (first | exact Below.refl _ _ | refine bG ?_ _ | refine bI ?_ _ _ | refine bA ?_ _)⟩
  · have hy2 : (y != x) = true := by rw [bne_iff_ne]; exact hy
    have Hy := hid hy
    clear hy
    go_wp2_with (go_at_call 11; refine (Hre.out _).mono ?_; rintro e w' ⟨rfl, hb⟩; obtain ⟨g3, rfl⟩ := bout hb; clear hb; simp only [encRes])
    refine bodyPost_ret (v := badV) (by simp [badV, insV, results, Tryd.results19, go_sem]) rfl ⟨by rw [decV_ne _ _ _ _ _ _ _ Hy.out], by repeat (first | exact Below.refl _ _ | refine bG ?_ _ | refine bI ?_ _ _ | refine bA ?_ _)⟩
set_option maxHeartbeats 4000000 in
theorem dec_c1 (x : Int) (h0 : 0 ≤ x) (h1 : x < 4294967296) (N F : ByteArray) (hN : N = nmI (x % 256)) (hF : F = fmI (x % 256)) (hC : F = ⟨#[65]⟩) (w : World) :
    Calls Tryd.prog 19 #[.int .u32 x] w fun e w' => e = .returned (decV x (encS (x % 256) (x / 256 % 256) 0 0 0) (x % 256) (x / 256 % 256) 0 0 0) ∧ Below w.heap.size w w' := by
  have hof := of_any (x % 256)
  have hre := encode_any (x % 256) (x / 256 % 256) 0 0 0
  rw [← hN, ← hF, hC] at hof
  generalize encS (x % 256) (x / 256 % 256) 0 0 0 = R at *
  have Hre := hid hre
  have Hof := hid hof
  clear hof hN hF hre
  subst hC
  have a1 : 0 ≤ x / 256 := by omega
  have a2 : x / 256 < 4294967296 := by omega
  have b1 : 0 ≤ x / 65536 := by omega
  have b2 : x / 65536 < 4294967296 := by omega
  have c1 : 0 ≤ x / 16777216 := by omega
  have c2 : x / 16777216 < 4294967296 := by omega
  have hA0 := next_at_q (P := Tryd.prog) ⟨#[65]⟩ 0 65 1 (by decide) (by decide) (by decide)
  have hB0 := next_new_q (P := Tryd.prog) ⟨#[65]⟩ 0 65 1 (by decide) (by decide) (by decide)
  have hAe := next_at_end (P := Tryd.prog) ⟨#[65]⟩ 1 (by decide)
  have hBe := next_new_end (P := Tryd.prog) ⟨#[65]⟩ 1 (by decide)
  go_enter Tryd.func19, Tryd.ntmps19
  go_wp2_with (first | (go_at_call 23; refine (Hof.out _).mono ?_; rintro e w' ⟨rfl, hb⟩; obtain ⟨g1, rfl⟩ := bout hb; clear hb))
  refine wp_loop_rounds 2 ?_
  rw [rounds_succ]
  go_wp2_with (go_at_call 14; refine (field_A _ _).mono ?_; rintro e w2 ⟨rfl, hb⟩; obtain ⟨g2, rfl⟩ := bout hb; clear hb)
  rw [rounds_succ]
  rcases R with _ | y
  · go_wp2_with (go_at_call 11; refine (Hre.out _).mono ?_; rintro e w' ⟨rfl, hb⟩; obtain ⟨g3, rfl⟩ := bout hb; clear hb; simp only [encRes])
    refine bodyPost_ret (v := badV) (by simp [badV, insV, results, Tryd.results19, go_sem]) rfl ⟨by rw [decV_none], by repeat (first | exact Below.refl _ _ | refine bG ?_ _ | refine bI ?_ _ _ | refine bA ?_ _)⟩
  by_cases hy : y = x
  · obtain rfl : x = y := hy.symm
    go_wp2_with (go_at_call 11; refine (Hre.out _).mono ?_; rintro e w' ⟨rfl, hb⟩; obtain ⟨g3, rfl⟩ := bout hb; clear hb; simp only [encRes])
    refine bodyPost_ret (v := .tuple #[insV (x % 256) (x / 256 % 256) 0 0 0, .int .i64 0]) (by simp [insV, dI, results, Tryd.results19, go_sem]) rfl ⟨by rw [decV_eq], by repeat (first | exact Below.refl _ _ | refine bG ?_ _ | refine bI ?_ _ _ | refine bA ?_ _)⟩
  · have hy2 : (y != x) = true := by rw [bne_iff_ne]; exact hy
    have Hy := hid hy
    clear hy
    go_wp2_with (go_at_call 11; refine (Hre.out _).mono ?_; rintro e w' ⟨rfl, hb⟩; obtain ⟨g3, rfl⟩ := bout hb; clear hb; simp only [encRes])
    refine bodyPost_ret (v := badV) (by simp [badV, insV, results, Tryd.results19, go_sem]) rfl ⟨by rw [decV_ne _ _ _ _ _ _ _ Hy.out], by repeat (first | exact Below.refl _ _ | refine bG ?_ _ | refine bI ?_ _ _ | refine bA ?_ _)⟩
set_option maxHeartbeats 4000000 in
theorem dec_c2 (x : Int) (h0 : 0 ≤ x) (h1 : x < 4294967296) (N F : ByteArray) (hN : N = nmI (x % 256)) (hF : F = fmI (x % 256)) (hC : F = ⟨#[65, 66]⟩) (w : World) :
    Calls Tryd.prog 19 #[.int .u32 x] w fun e w' => e = .returned (decV x (encS (x % 256) (x / 256 % 256) (x / 65536 % 256) 0 0) (x % 256) (x / 256 % 256) (x / 65536 % 256) 0 0) ∧ Below w.heap.size w w' := by
  have hof := of_any (x % 256)
  have hre := encode_any (x % 256) (x / 256 % 256) (x / 65536 % 256) 0 0
  rw [← hN, ← hF, hC] at hof
  generalize encS (x % 256) (x / 256 % 256) (x / 65536 % 256) 0 0 = R at *
  have Hre := hid hre
  have Hof := hid hof
  clear hof hN hF hre
  subst hC
  have a1 : 0 ≤ x / 256 := by omega
  have a2 : x / 256 < 4294967296 := by omega
  have b1 : 0 ≤ x / 65536 := by omega
  have b2 : x / 65536 < 4294967296 := by omega
  have c1 : 0 ≤ x / 16777216 := by omega
  have c2 : x / 16777216 < 4294967296 := by omega
  have hA0 := next_at_q (P := Tryd.prog) ⟨#[65, 66]⟩ 0 65 1 (by decide) (by decide) (by decide)
  have hB0 := next_new_q (P := Tryd.prog) ⟨#[65, 66]⟩ 0 65 1 (by decide) (by decide) (by decide)
  have hA1 := next_at_q (P := Tryd.prog) ⟨#[65, 66]⟩ 1 66 2 (by decide) (by decide) (by decide)
  have hB1 := next_new_q (P := Tryd.prog) ⟨#[65, 66]⟩ 1 66 2 (by decide) (by decide) (by decide)
  have hAe := next_at_end (P := Tryd.prog) ⟨#[65, 66]⟩ 2 (by decide)
  have hBe := next_new_end (P := Tryd.prog) ⟨#[65, 66]⟩ 2 (by decide)
  go_enter Tryd.func19, Tryd.ntmps19
  go_wp2_with (first | (go_at_call 23; refine (Hof.out _).mono ?_; rintro e w' ⟨rfl, hb⟩; obtain ⟨g1, rfl⟩ := bout hb; clear hb))
  refine wp_loop_rounds 3 ?_
  rw [rounds_succ]
  go_wp2_with (go_at_call 14; refine (field_A _ _).mono ?_; rintro e w2 ⟨rfl, hb⟩; obtain ⟨g2, rfl⟩ := bout hb; clear hb)
  rw [rounds_succ]
  go_wp2_with (go_at_call 14; refine (field_B _ _).mono ?_; rintro e w2 ⟨rfl, hb⟩; obtain ⟨g2, rfl⟩ := bout hb; clear hb)
  rw [rounds_succ]
  rcases R with _ | y
  · go_wp2_with (go_at_call 11; refine (Hre.out _).mono ?_; rintro e w' ⟨rfl, hb⟩; obtain ⟨g3, rfl⟩ := bout hb; clear hb; simp only [encRes])
    refine bodyPost_ret (v := badV) (by simp [badV, insV, results, Tryd.results19, go_sem]) rfl ⟨by rw [decV_none], by repeat (first | exact Below.refl _ _ | refine bG ?_ _ | refine bI ?_ _ _ | refine bA ?_ _)⟩
  by_cases hy : y = x
  · obtain rfl : x = y := hy.symm
    go_wp2_with (go_at_call 11; refine (Hre.out _).mono ?_; rintro e w' ⟨rfl, hb⟩; obtain ⟨g3, rfl⟩ := bout hb; clear hb; simp only [encRes])
    refine bodyPost_ret (v := .tuple #[insV (x % 256) (x / 256 % 256) (x / 65536 % 256) 0 0, .int .i64 0]) (by simp [insV, dI, results, Tryd.results19, go_sem]) rfl ⟨by rw [decV_eq], by repeat (first | exact Below.refl _ _ | refine bG ?_ _ | refine bI ?_ _ _ | refine bA ?_ _)⟩
  · have hy2 : (y != x) = true := by rw [bne_iff_ne]; exact hy
    have Hy := hid hy
    clear hy
    go_wp2_with (go_at_call 11; refine (Hre.out _).mono ?_; rintro e w' ⟨rfl, hb⟩; obtain ⟨g3, rfl⟩ := bout hb; clear hb; simp only [encRes])
    refine bodyPost_ret (v := badV) (by simp [badV, insV, results, Tryd.results19, go_sem]) rfl ⟨by rw [decV_ne _ _ _ _ _ _ _ Hy.out], by repeat (first | exact Below.refl _ _ | refine bG ?_ _ | refine bI ?_ _ _ | refine bA ?_ _)⟩
set_option maxHeartbeats 4000000 in
theorem dec_c3 (x : Int) (h0 : 0 ≤ x) (h1 : x < 4294967296) (N F : ByteArray) (hN : N = nmI (x % 256)) (hF : F = fmI (x % 256)) (hC : F = ⟨#[65, 66, 67]⟩) (w : World) :
    Calls Tryd.prog 19 #[.int .u32 x] w fun e w' => e = .returned (decV x (encS (x % 256) (x / 256 % 256) (x / 65536 % 256) (x / 16777216 % 256) 0) (x % 256) (x / 256 % 256) (x / 65536 % 256) (x / 16777216 % 256) 0) ∧ Below w.heap.size w w' := by
  have hof := of_any (x % 256)
  have hre := encode_any (x % 256) (x / 256 % 256) (x / 65536 % 256) (x / 16777216 % 256) 0
  rw [← hN, ← hF, hC] at hof
  generalize encS (x % 256) (x / 256 % 256) (x / 65536 % 256) (x / 16777216 % 256) 0 = R at *
  have Hre := hid hre
  have Hof := hid hof
  clear hof hN hF hre
  subst hC
  have a1 : 0 ≤ x / 256 := by omega
  have a2 : x / 256 < 4294967296 := by omega
  have b1 : 0 ≤ x / 65536 := by omega
  have b2 : x / 65536 < 4294967296 := by omega
  have c1 : 0 ≤ x / 16777216 := by omega
  have c2 : x / 16777216 < 4294967296 := by omega
  have hA0 := next_at_q (P := Tryd.prog) ⟨#[65, 66, 67]⟩ 0 65 1 (by decide) (by decide) (by decide)
  have hB0 := next_new_q (P := Tryd.prog) ⟨#[65, 66, 67]⟩ 0 65 1 (by decide) (by decide) (by decide)
  have hA1 := next_at_q (P := Tryd.prog) ⟨#[65, 66, 67]⟩ 1 66 2 (by decide) (by decide) (by decide)
  have hB1 := next_new_q (P := Tryd.prog) ⟨#[65, 66, 67]⟩ 1 66 2 (by decide) (by decide) (by decide)
  have hA2 := next_at_q (P := Tryd.prog) ⟨#[65, 66, 67]⟩ 2 67 3 (by decide) (by decide) (by decide)
  have hB2 := next_new_q (P := Tryd.prog) ⟨#[65, 66, 67]⟩ 2 67 3 (by decide) (by decide) (by decide)
  have hAe := next_at_end (P := Tryd.prog) ⟨#[65, 66, 67]⟩ 3 (by decide)
  have hBe := next_new_end (P := Tryd.prog) ⟨#[65, 66, 67]⟩ 3 (by decide)
  go_enter Tryd.func19, Tryd.ntmps19
  go_wp2_with (first | (go_at_call 23; refine (Hof.out _).mono ?_; rintro e w' ⟨rfl, hb⟩; obtain ⟨g1, rfl⟩ := bout hb; clear hb))
  refine wp_loop_rounds 4 ?_
  rw [rounds_succ]
  go_wp2_with (go_at_call 14; refine (field_A _ _).mono ?_; rintro e w2 ⟨rfl, hb⟩; obtain ⟨g2, rfl⟩ := bout hb; clear hb)
  rw [rounds_succ]
  go_wp2_with (go_at_call 14; refine (field_B _ _).mono ?_; rintro e w2 ⟨rfl, hb⟩; obtain ⟨g2, rfl⟩ := bout hb; clear hb)
  rw [rounds_succ]
  go_wp2_with (go_at_call 14; refine (field_C _ _).mono ?_; rintro e w2 ⟨rfl, hb⟩; obtain ⟨g2, rfl⟩ := bout hb; clear hb)
  rw [rounds_succ]
  rcases R with _ | y
  · go_wp2_with (go_at_call 11; refine (Hre.out _).mono ?_; rintro e w' ⟨rfl, hb⟩; obtain ⟨g3, rfl⟩ := bout hb; clear hb; simp only [encRes])
    refine bodyPost_ret (v := badV) (by simp [badV, insV, results, Tryd.results19, go_sem]) rfl ⟨by rw [decV_none], by repeat (first | exact Below.refl _ _ | refine bG ?_ _ | refine bI ?_ _ _ | refine bA ?_ _)⟩
  by_cases hy : y = x
  · obtain rfl : x = y := hy.symm
    go_wp2_with (go_at_call 11; refine (Hre.out _).mono ?_; rintro e w' ⟨rfl, hb⟩; obtain ⟨g3, rfl⟩ := bout hb; clear hb; simp only [encRes])
    refine bodyPost_ret (v := .tuple #[insV (x % 256) (x / 256 % 256) (x / 65536 % 256) (x / 16777216 % 256) 0, .int .i64 0]) (by simp [insV, dI, results, Tryd.results19, go_sem]) rfl ⟨by rw [decV_eq], by repeat (first | exact Below.refl _ _ | refine bG ?_ _ | refine bI ?_ _ _ | refine bA ?_ _)⟩
  · have hy2 : (y != x) = true := by rw [bne_iff_ne]; exact hy
    have Hy := hid hy
    clear hy
    go_wp2_with (go_at_call 11; refine (Hre.out _).mono ?_; rintro e w' ⟨rfl, hb⟩; obtain ⟨g3, rfl⟩ := bout hb; clear hb; simp only [encRes])
    refine bodyPost_ret (v := badV) (by simp [badV, insV, results, Tryd.results19, go_sem]) rfl ⟨by rw [decV_ne _ _ _ _ _ _ _ Hy.out], by repeat (first | exact Below.refl _ _ | refine bG ?_ _ | refine bI ?_ _ _ | refine bA ?_ _)⟩
set_option maxHeartbeats 4000000 in
theorem dec_c4 (x : Int) (h0 : 0 ≤ x) (h1 : x < 4294967296) (N F : ByteArray) (hN : N = nmI (x % 256)) (hF : F = fmI (x % 256)) (hC : F = ⟨#[65, 68]⟩) (w : World) :
    Calls Tryd.prog 19 #[.int .u32 x] w fun e w' => e = .returned (decV x (encS (x % 256) (x / 256 % 256) 0 0 (dI x)) (x % 256) (x / 256 % 256) 0 0 (dI x)) ∧ Below w.heap.size w w' := by
  have hof := of_any (x % 256)
  have hre := encode_any (x % 256) (x / 256 % 256) 0 0 (dI x)
  rw [← hN, ← hF, hC] at hof
  generalize encS (x % 256) (x / 256 % 256) 0 0 (dI x) = R at *
  have Hre := hid hre
  have Hof := hid hof
  clear hof hN hF hre
  subst hC
  have a1 : 0 ≤ x / 256 := by omega
  have a2 : x / 256 < 4294967296 := by omega
  have b1 : 0 ≤ x / 65536 := by omega
  have b2 : x / 65536 < 4294967296 := by omega
  have c1 : 0 ≤ x / 16777216 := by omega
  have c2 : x / 16777216 < 4294967296 := by omega
  have hA0 := next_at_q (P := Tryd.prog) ⟨#[65, 68]⟩ 0 65 1 (by decide) (by decide) (by decide)
  have hB0 := next_new_q (P := Tryd.prog) ⟨#[65, 68]⟩ 0 65 1 (by decide) (by decide) (by decide)
  have hA1 := next_at_q (P := Tryd.prog) ⟨#[65, 68]⟩ 1 68 2 (by decide) (by decide) (by decide)
  have hB1 := next_new_q (P := Tryd.prog) ⟨#[65, 68]⟩ 1 68 2 (by decide) (by decide) (by decide)
  have hAe := next_at_end (P := Tryd.prog) ⟨#[65, 68]⟩ 2 (by decide)
  have hBe := next_new_end (P := Tryd.prog) ⟨#[65, 68]⟩ 2 (by decide)
  go_enter Tryd.func19, Tryd.ntmps19
  go_wp2_with (first | (go_at_call 23; refine (Hof.out _).mono ?_; rintro e w' ⟨rfl, hb⟩; obtain ⟨g1, rfl⟩ := bout hb; clear hb))
  refine wp_loop_rounds 3 ?_
  rw [rounds_succ]
  go_wp2_with (go_at_call 14; refine (field_A _ _).mono ?_; rintro e w2 ⟨rfl, hb⟩; obtain ⟨g2, rfl⟩ := bout hb; clear hb)
  rw [rounds_succ]
  go_wp2_with (go_at_call 14; refine (field_D _ _).mono ?_; rintro e w2 ⟨rfl, hb⟩; obtain ⟨g2, rfl⟩ := bout hb; clear hb)
  rw [rounds_succ]
  rcases R with _ | y
  · go_wp2_with (go_at_call 11; refine (Hre.out _).mono ?_; rintro e w' ⟨rfl, hb⟩; obtain ⟨g3, rfl⟩ := bout hb; clear hb; simp only [encRes])
    refine bodyPost_ret (v := badV) (by simp [badV, insV, results, Tryd.results19, go_sem]) rfl ⟨by rw [decV_none], by repeat (first | exact Below.refl _ _ | refine bG ?_ _ | refine bI ?_ _ _ | refine bA ?_ _)⟩
  by_cases hy : y = x
  · obtain rfl : x = y := hy.symm
    go_wp2_with (go_at_call 11; refine (Hre.out _).mono ?_; rintro e w' ⟨rfl, hb⟩; obtain ⟨g3, rfl⟩ := bout hb; clear hb; simp only [encRes])
    refine bodyPost_ret (v := .tuple #[insV (x % 256) (x / 256 % 256) 0 0 (dI x), .int .i64 0]) (by simp [insV, dI, results, Tryd.results19, go_sem]) rfl ⟨by rw [decV_eq], by repeat (first | exact Below.refl _ _ | refine bG ?_ _ | refine bI ?_ _ _ | refine bA ?_ _)⟩
  · have hy2 : (y != x) = true := by rw [bne_iff_ne]; exact hy
    have Hy := hid hy
    clear hy
    go_wp2_with (go_at_call 11; refine (Hre.out _).mono ?_; rintro e w' ⟨rfl, hb⟩; obtain ⟨g3, rfl⟩ := bout hb; clear hb; simp only [encRes])
    refine bodyPost_ret (v := badV) (by simp [badV, insV, results, Tryd.results19, go_sem]) rfl ⟨by rw [decV_ne _ _ _ _ _ _ _ Hy.out], by repeat (first | exact Below.refl _ _ | refine bG ?_ _ | refine bI ?_ _ _ | refine bA ?_ _)⟩
set_option maxHeartbeats 4000000 in
theorem dec_c5 (x : Int) (h0 : 0 ≤ x) (h1 : x < 4294967296) (N F : ByteArray) (hN : N = nmI (x % 256)) (hF : F = fmI (x % 256)) (hC : F = ⟨#[68]⟩) (w : World) :
    Calls Tryd.prog 19 #[.int .u32 x] w fun e w' => e = .returned (decV x (encS (x % 256) 0 0 0 (dI x)) (x % 256) 0 0 0 (dI x)) ∧ Below w.heap.size w w' := by
  have hof := of_any (x % 256)
  have hre := encode_any (x % 256) 0 0 0 (dI x)
  rw [← hN, ← hF, hC] at hof
  generalize encS (x % 256) 0 0 0 (dI x) = R at *
  have Hre := hid hre
  have Hof := hid hof
  clear hof hN hF hre
  subst hC
  have a1 : 0 ≤ x / 256 := by omega
  have a2 : x / 256 < 4294967296 := by omega
  have b1 : 0 ≤ x / 65536 := by omega
  have b2 : x / 65536 < 4294967296 := by omega
  have c1 : 0 ≤ x / 16777216 := by omega
  have c2 : x / 16777216 < 4294967296 := by omega
  have hA0 := next_at_q (P := Tryd.prog) ⟨#[68]⟩ 0 68 1 (by decide) (by decide) (by decide)
  have hB0 := next_new_q (P := Tryd.prog) ⟨#[68]⟩ 0 68 1 (by decide) (by decide) (by decide)
  have hAe := next_at_end (P := Tryd.prog) ⟨#[68]⟩ 1 (by decide)
  have hBe := next_new_end (P := Tryd.prog) ⟨#[68]⟩ 1 (by decide)
  go_enter Tryd.func19, Tryd.ntmps19
  go_wp2_with (first | (go_at_call 23; refine (Hof.out _).mono ?_; rintro e w' ⟨rfl, hb⟩; obtain ⟨g1, rfl⟩ := bout hb; clear hb))
  refine wp_loop_rounds 2 ?_
  rw [rounds_succ]
  go_wp2_with (go_at_call 14; refine (field_D _ _).mono ?_; rintro e w2 ⟨rfl, hb⟩; obtain ⟨g2, rfl⟩ := bout hb; clear hb)
  rw [rounds_succ]
  rcases R with _ | y
  · go_wp2_with (go_at_call 11; refine (Hre.out _).mono ?_; rintro e w' ⟨rfl, hb⟩; obtain ⟨g3, rfl⟩ := bout hb; clear hb; simp only [encRes])
    refine bodyPost_ret (v := badV) (by simp [badV, insV, results, Tryd.results19, go_sem]) rfl ⟨by rw [decV_none], by repeat (first | exact Below.refl _ _ | refine bG ?_ _ | refine bI ?_ _ _ | refine bA ?_ _)⟩
  by_cases hy : y = x
  · obtain rfl : x = y := hy.symm
    go_wp2_with (go_at_call 11; refine (Hre.out _).mono ?_; rintro e w' ⟨rfl, hb⟩; obtain ⟨g3, rfl⟩ := bout hb; clear hb; simp only [encRes])
    refine bodyPost_ret (v := .tuple #[insV (x % 256) 0 0 0 (dI x), .int .i64 0]) (by simp [insV, dI, results, Tryd.results19, go_sem]) rfl ⟨by rw [decV_eq], by repeat (first | exact Below.refl _ _ | refine bG ?_ _ | refine bI ?_ _ _ | refine bA ?_ _)⟩
  · have hy2 : (y != x) = true := by rw [bne_iff_ne]; exact hy
    have Hy := hid hy
    clear hy
    go_wp2_with (go_at_call 11; refine (Hre.out _).mono ?_; rintro e w' ⟨rfl, hb⟩; obtain ⟨g3, rfl⟩ := bout hb; clear hb; simp only [encRes])
    refine bodyPost_ret (v := badV) (by simp [badV, insV, results, Tryd.results19, go_sem]) rfl ⟨by rw [decV_ne _ _ _ _ _ _ _ Hy.out], by repeat (first | exact Below.refl _ _ | refine bG ?_ _ | refine bI ?_ _ _ | refine bA ?_ _)⟩
end Go.Proofs.YtjocifamacpamaaDoor
