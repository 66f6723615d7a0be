/- InstrShows: the law, walked. Conditions: the table of powers that strconv reads is as the program lays it. -/
import Derived.Test.YtjocifamacpamaaDoorShowA
import Derived.Test.YtjocifamacpamaaDoorLift
import Derived.Deep.RegionHeld3
namespace Go.Proofs.YtjocifamacpamaaDoor
open Go.RowKit
set_option linter.unusedVariables false
set_option maxHeartbeats 1000000 in
theorem show_none (n a b c d : Int) (hR : refS n a b c d = none) (w : World) :
    Calls Tryd.prog 6 #[.agg #[.int .i64 n, .int .i64 a, .int .i64 b, .int .i64 c, .int .i64 d]] w fun e w' => e = .returned (.string ⟨#[63]⟩) ∧ Below w.heap.size w w' := by
  have hre := encode_any n a b c d
  rw [enc_eq, hR] at hre
  have Hre := hid hre
  clear hre hR
  go_enter Tryd.func6, Tryd.ntmps6
  go_wp2_with (go_at_call 11; refine (Hre.out _).mono ?_; rintro e w' ⟨rfl, hb⟩; obtain ⟨g1, rfl⟩ := bout hb; clear hb; simp only [encRes])
  go_ret
  exact ⟨rfl, by repeat (first | exact Below.refl _ _ | refine bG ?_ _ | refine bI ?_ _ _ | refine bA ?_ _ | refine bD ?_ | refine bN ?_ _)⟩
set_option maxHeartbeats 1000000 in
theorem refShow_none (n a b c d : Int) (hR : refS n a b c d = none) (w : World) :
    Calls Tryd.prog 7 #[.agg #[.int .i64 n, .int .i64 a, .int .i64 b, .int .i64 c, .int .i64 d]] w fun e w' => e = .returned (.string ⟨#[63]⟩) ∧ Below w.heap.size w w' := by
  have hre := refEnc_any n a b c d
  rw [hR] at hre
  have Hre := hid hre
  clear hre hR
  go_enter Tryd.func7, Tryd.ntmps7
  go_wp2_with (go_at_call 16; refine (Hre.out _).mono ?_; rintro e w' ⟨rfl, hb⟩; obtain ⟨g1, rfl⟩ := bout hb; clear hb; simp only [encRes])
  go_ret
  exact ⟨rfl, by repeat (first | exact Below.refl _ _ | refine bG ?_ _ | refine bI ?_ _ _ | refine bA ?_ _ | refine bD ?_ | refine bN ?_ _)⟩
theorem show_both (n a b c d : Int) : ∃ S : ByteArray, (∀ w, Tab w → Calls Tryd.prog 6 #[.agg #[.int .i64 n, .int .i64 a, .int .i64 b, .int .i64 c, .int .i64 d]] w fun e w' => e = .returned (.string S) ∧ Below w.heap.size w w') ∧
    (∀ w, Tab w → Calls Tryd.prog 7 #[.agg #[.int .i64 n, .int .i64 a, .int .i64 b, .int .i64 c, .int .i64 d]] w fun e w' => e = .returned (.string S) ∧ Below w.heap.size w w') := by
  cases hR : refS n a b c d with
  | none => exact ⟨_, fun w _ => show_none n a b c d hR w, fun w _ => refShow_none n a b c d hR w⟩
  | some y =>
    have hc := fmI_case n
    generalize hF : fmI n = F at hc
    cases hc with
    | c0 => rw [refS_0 _ _ _ _ _ hF] at hR; exact absurd hR (by simp)
    | c1 => exact ⟨_, fun w ht => show_c1 n a b c d y _ _ rfl hF.symm rfl hR w ht, fun w ht => refShow_c1 n a b c d y _ _ rfl hF.symm rfl hR w ht⟩
    | c2 => exact ⟨_, fun w ht => show_c2 n a b c d y _ _ rfl hF.symm rfl hR w ht, fun w ht => refShow_c2 n a b c d y _ _ rfl hF.symm rfl hR w ht⟩
    | c3 => exact ⟨_, fun w ht => show_c3 n a b c d y _ _ rfl hF.symm rfl hR w ht, fun w ht => refShow_c3 n a b c d y _ _ rfl hF.symm rfl hR w ht⟩
    | c4 => exact ⟨_, fun w ht => show_c4 n a b c d y _ _ rfl hF.symm rfl hR w ht, fun w ht => refShow_c4 n a b c d y _ _ rfl hF.symm rfl hR w ht⟩
    | c5 => exact ⟨_, fun w ht => show_c5 n a b c d y _ _ rfl hF.symm rfl hR w ht, fun w ht => refShow_c5 n a b c d y _ _ rfl hF.symm rfl hR w ht⟩
set_option maxHeartbeats 2000000 in
theorem shows_any (n a b c d : Int) (w : World) (hT : Tab w) :
    Calls Tryd.prog 3 #[.agg #[.int .i64 n, .int .i64 a, .int .i64 b, .int .i64 c, .int .i64 d]] w fun e w' => e = .returned (.bool true) ∧ Below w.heap.size w w' := by
  obtain ⟨S, h1, h2⟩ := show_both n a b c d
  have HT : Hid (∀ W', Below w.heap.size w W' → Tab W') := fun W' hb => hT.below hb
  have H1 := hid h1
  have H2 := hid h2
  clear h1 h2 hT
  go_enter Tryd.func3, Tryd.ntmps3
  go_wp2_with (go_at_call 5; refine (awake_any _).mono ?_; rintro e w' ⟨rfl, hb⟩; obtain ⟨g1, rfl⟩ := bout hb; clear hb)
  go_region_held3 (fun w' => w'.cell? ⟨w.heap.size, 0, none⟩ = some (.int .i64 n) ∧ w'.cell? ⟨w.heap.size, 1, none⟩ = some (.int .i64 a) ∧ w'.cell? ⟨w.heap.size, 2, none⟩ = some (.int .i64 b) ∧ w'.cell? ⟨w.heap.size, 3, none⟩ = some (.int .i64 c) ∧ w'.cell? ⟨w.heap.size, 4, none⟩ = some (.int .i64 d)) (simp [go_sem])
    (first
      | (go_at_call 6; refine (H1.out _ (HT.out _ (by repeat (first | exact Below.refl _ _ | refine bG ?_ _ | refine bI ?_ _ _ | refine bA ?_ _ | refine bD ?_ | refine bN ?_ _)))).mono ?_; rintro e w' ⟨rfl, hb⟩; obtain ⟨g2, rfl⟩ := bout hb; clear hb)
      | (go_at_call 7; refine (H2.out _ (HT.out _ (by repeat (first | exact Below.refl _ _ | refine bG ?_ _ | refine bI ?_ _ _ | refine bA ?_ _ | refine bD ?_ | refine bN ?_ _)))).mono ?_; rintro e w' ⟨rfl, hb⟩; obtain ⟨g2, rfl⟩ := bout hb; clear hb))
  go_wp2
  go_ret
  exact ⟨rfl, by repeat (first | exact Below.refl _ _ | refine bG ?_ _ | refine bI ?_ _ _ | refine bA ?_ _ | refine bD ?_ | refine bN ?_ _)⟩
end Go.Proofs.YtjocifamacpamaaDoor
