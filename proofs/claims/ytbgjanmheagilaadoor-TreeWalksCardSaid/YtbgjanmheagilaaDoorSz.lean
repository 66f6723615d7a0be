/- The texts of numbers, walked. Conditions: the library's variables; short texts. -/
import Derived.Deep.QuietTactic
import Derived.BigQuiet
import Derived.Deep.RegionWith
import Derived.Test.YtbgjanmheagilaaDoorSx
set_option linter.unusedVariables false
set_option linter.unusedSimpArgs false
namespace Go.Proofs.YtbgjanmheagilaaDoor
open Go Go.RowKit
set_option linter.unusedVariables false
set_option linter.unusedSimpArgs false
set_option maxHeartbeats 1000000 in
set_option maxRecDepth 10000 in
theorem says_15 (s : ByteArray) (hs : s.size ≤ 100000) (kp : Option Addr) (nk kc : Nat) (at1 : Int) (w : World) (hl : Lib0 w) :
    Calls Tryd.prog 65 #[.agg #[.int .i64 15, .string s, .slice kp nk kc, .int .i64 at1]] w fun e w' => e = .returned (.bool (textS 15 s.data.toList nk)) ∧ Below w.heap.size w w' := by
  show Calls _ _ _ _ fun e w' => e = .returned (.bool (intS s.data.toList)) ∧ Below w.heap.size w w'
  have Hnum : Hid (∀ w, Calls Tryd.prog 92 #[.string s] w fun e w' => e = .returned (numV (numS s.data.toList)) ∧ Below w.heap.size w w') := hid (fun w => number_any s (by omega) w)
  have HL : Hid (∀ w', Below w.heap.size w w' → Lib0 w') := hid fun w' h => hl.later h
  clear hl
  cases ho : numS s.data.toList with
  | none =>
    have Hnum2 : Hid (∀ w, Calls Tryd.prog 92 #[.string s] w fun e w' => e = .returned (.tuple #[.int .i64 0, .bool false]) ∧ Below w.heap.size w w') := by rw [ho] at Hnum; exact Hnum
    have Hr : Hid (intS s.data.toList = false) := hid (by unfold intS; rw [ho])
    clear Hnum ho
    go_enter Tryd.func65, Tryd.ntmps65
    go_wp2_with (go_at_call 92; ((with_reducible refine (Hnum2.out _).mono ?_)); rintro e w' ⟨rfl, hb⟩; obtain ⟨g1, rfl⟩ := bout hb; clear hb)
    go_quiet (fail)
    go_wp2
    go_ret
    exact ⟨by rw [Hr.out]; rfl, by repeat (first | exact Below.refl _ _ | refine bG ?_ _ | refine bI ?_ _ _ | refine bA ?_ _ | refine bD ?_ | refine bN ?_ _)⟩
  | some n =>
    have Hnum2 : Hid (∀ w, Calls Tryd.prog 92 #[.string s] w fun e w' => e = .returned (.tuple #[.int .i64 (wrap64 n), .bool true]) ∧ Below w.heap.size w w') := by rw [ho] at Hnum; exact Hnum
    have hr : intS s.data.toList = decide (Lib.itoa (wrap64 n) = s.data.toList) := by unfold intS; rw [ho]
    have z0 := wrap64_lo (n : Int)
    have z1 := wrap64_hi (n : Int)
    clear Hnum ho
    generalize wrap64 (n : Int) = z at *
    obtain ⟨S1, hS1⟩ : ∃ S : ByteArray, S = ⟨(Lib.itoa z).toArray⟩ := ⟨_, rfl⟩
    have H1 : Hid (∀ w, Lib0 w → Calls Tryd.prog 93 #[.int .i64 z] w fun e w' => e = .returned (.string S1) ∧ Below w.heap.size w w') := hid (by rw [hS1]; exact fun w h => show_any z z0 z1 w h)
    have e1 : decide (Lib.itoa z = s.data.toList) = (S1.toList == s.toList) := by
      rw [ByteArray.toList_eq, ByteArray.toList_eq, hS1]; exact (Bool.beq_eq_decide_eq _ _).symm
    rw [e1] at hr
    have Hr := hid hr
    clear hr hS1 z0 z1 e1
    go_enter Tryd.func65, Tryd.ntmps65
    go_wp2_with (go_at_call 92; ((with_reducible refine (Hnum2.out _).mono ?_)); rintro e w' ⟨rfl, hb⟩; obtain ⟨g1, rfl⟩ := bout hb; clear hb)
    go_region_with (go_at_call 93; ((with_reducible refine (H1.out _ (HL.out _ (by repeat (first | exact Below.refl _ _ | refine bG ?_ _ | refine bI ?_ _ _ | refine bA ?_ _ | refine bD ?_ | refine bN ?_ _)))).mono ?_)); rintro e w' ⟨rfl, hb⟩; obtain ⟨g2, rfl⟩ := bout hb; clear hb)
    go_wp2
    all_goals (go_ret; exact ⟨by rw [Hr.out]; rfl, by repeat (first | exact Below.refl _ _ | refine bG ?_ _ | refine bI ?_ _ _ | refine bA ?_ _ | refine bD ?_ | refine bN ?_ _)⟩)
end Go.Proofs.YtbgjanmheagilaaDoor
