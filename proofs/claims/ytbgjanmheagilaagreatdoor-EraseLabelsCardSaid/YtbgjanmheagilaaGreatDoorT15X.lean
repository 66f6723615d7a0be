/- The texts of numbers, walked. Conditions: the library's variables; short texts. -/
import Derived.Deep.QuietTactic
import Derived.BigQuiet
import Derived.Deep.RegionWith
import Derived.Test.YtbgjanmheagilaaGreatDoorSxX
import Derived.Deep.RegionHeld3
set_option linter.unusedVariables false
set_option linter.unusedSimpArgs false
namespace Go.Proofs.YtbgjanmheagilaaGreatDoor
open Go Go.RowKit
set_option linter.unusedVariables false
set_option linter.unusedSimpArgs false
set_option maxHeartbeats 1000000 in
set_option maxRecDepth 10000 in
theorem says_15 (s : ByteArray) (hs : s.size ≤ 100000) (kp : Option Addr) (nk kc : Nat) (at1 : Int) (w : World) (hl : Lib0 w) :
    Calls Tryz.prog 93 #[.agg #[.int .i64 15, .string s, .slice kp nk kc, .int .i64 at1]] w fun e w' => e = .returned (.bool (textS 15 s.data.toList nk)) ∧ Below w.heap.size w w' := by
  show Calls _ _ _ _ fun e w' => e = .returned (.bool (intS s.data.toList)) ∧ Below w.heap.size w w'
  have Hnum : Hid (∀ w, Calls Tryz.prog 126 #[.string s] w fun e w' => e = .returned (numV (numS s.data.toList)) ∧ Below w.heap.size w w') := hid (fun w => number_any s (by omega) w)
  have HL : Hid (∀ w', Below w.heap.size w w' → Lib0 w') := hid fun w' h => hl.later h
  clear hl
  cases ho : numS s.data.toList with
  | none =>
    have Hnum2 : Hid (∀ w, Calls Tryz.prog 126 #[.string s] w fun e w' => e = .returned (.tuple #[.int .i64 0, .bool false]) ∧ Below w.heap.size w w') := by rw [ho] at Hnum; exact Hnum
    have Hr : Hid (intS s.data.toList = false) := hid (by unfold intS; rw [ho])
    clear Hnum ho
    go_enter Tryz.func93, Tryz.ntmps93
    go_wp2_with (go_at_call 126; ((with_reducible refine (Hnum2.out _).mono ?_)); rintro e w' ⟨rfl, hb⟩; obtain ⟨g1, rfl⟩ := bout hb; clear hb)
    go_quiet (fail)
    go_wp2
    go_ret
    exact ⟨by rw [Hr.out]; rfl, by repeat (first | exact Below.refl _ _ | refine bG ?_ _ | refine bI ?_ _ _ | refine bA ?_ _ | refine bD ?_ | refine bN ?_ _)⟩
  | some n =>
    have Hnum2 : Hid (∀ w, Calls Tryz.prog 126 #[.string s] w fun e w' => e = .returned (.tuple #[.int .i64 (wrap64 n), .bool true]) ∧ Below w.heap.size w w') := by rw [ho] at Hnum; exact Hnum
    have hr : intS s.data.toList = decide (Lib.itoa (wrap64 n) = s.data.toList) := by unfold intS; rw [ho]
    have z0 := wrap64_lo (n : Int)
    have z1 := wrap64_hi (n : Int)
    clear Hnum ho
    generalize wrap64 (n : Int) = z at *
    obtain ⟨S1, hS1⟩ : ∃ S : ByteArray, S = ⟨(Lib.itoa z).toArray⟩ := ⟨_, rfl⟩
    have H1 : Hid (∀ w, Lib0 w → Calls Tryz.prog 127 #[.int .i64 z] w fun e w' => e = .returned (.string S1) ∧ Below w.heap.size w w') := hid (by rw [hS1]; exact fun w h => show_any z z0 z1 w h)
    have e1 : decide (Lib.itoa z = s.data.toList) = (S1.toList == s.toList) := by
      rw [ByteArray.toList_eq, ByteArray.toList_eq, hS1]; exact (Bool.beq_eq_decide_eq _ _).symm
    rw [e1] at hr
    have Hr := hid hr
    clear hr hS1 z0 z1 e1
    go_enter Tryz.func93, Tryz.ntmps93
    go_wp2_with (go_at_call 126; ((with_reducible refine (Hnum2.out _).mono ?_)); rintro e w' ⟨rfl, hb⟩; obtain ⟨g1, rfl⟩ := bout hb; clear hb)
    go_region_with (go_at_call 127; ((with_reducible refine (H1.out _ (HL.out _ (by repeat (first | exact Below.refl _ _ | refine bG ?_ _ | refine bI ?_ _ _ | refine bA ?_ _ | refine bD ?_ | refine bN ?_ _)))).mono ?_)); rintro e w' ⟨rfl, hb⟩; obtain ⟨g2, rfl⟩ := bout hb; clear hb)
    go_wp2
    all_goals (go_ret; exact ⟨by rw [Hr.out]; rfl, by repeat (first | exact Below.refl _ _ | refine bG ?_ _ | refine bI ?_ _ _ | refine bA ?_ _ | refine bD ?_ | refine bN ?_ _)⟩)
end Go.Proofs.YtbgjanmheagilaaGreatDoor

/- The texts of nodes, walked (text). Conditions: the library's variables; short texts. -/
namespace Go.Proofs.YtbgjanmheagilaaGreatDoor
open Go Go.RowKit
set_option linter.unusedVariables false
set_option linter.unusedSimpArgs false
set_option maxHeartbeats 1000000 in
set_option maxRecDepth 10000 in
theorem text_1 (s : ByteArray) (hs : s.size ≤ 100000) (kp : Option Addr) (nk kc : Nat) (at1 : Int) (w : World) (hl : Lib0 w) :
    Calls Tryz.prog 43 #[.agg #[.int .i64 1, .string s, .slice kp nk kc, .int .i64 at1]] w fun e w' => e = .returned (.bool (textS 1 s.data.toList nk)) ∧ Below w.heap.size w w' := by
  show Calls _ _ _ _ fun e w' => e = .returned (.bool s.data.toList.isEmpty) ∧ Below w.heap.size w w'
  rw [← ByteArray.toList_eq]
  clear hl
  cases h : s.toList.isEmpty
  · have h2 : (s.toList == []) = false := by cases e : s.toList with
      | nil => rw [e] at h; cases h
      | cons x l => rfl
    go_enter Tryz.func43, Tryz.ntmps43
    go_wp2
    go_ret
    exact ⟨rfl, by repeat (first | exact Below.refl _ _ | refine bG ?_ _ | refine bI ?_ _ _ | refine bA ?_ _ | refine bD ?_ | refine bN ?_ _)⟩
  · have h2 : (s.toList == []) = true := by cases e : s.toList with
      | nil => rfl
      | cons x l => rw [e] at h; cases h
    go_enter Tryz.func43, Tryz.ntmps43
    go_wp2
    go_ret
    exact ⟨rfl, by repeat (first | exact Below.refl _ _ | refine bG ?_ _ | refine bI ?_ _ _ | refine bA ?_ _ | refine bD ?_ | refine bN ?_ _)⟩
set_option maxHeartbeats 1000000 in
set_option maxRecDepth 10000 in
theorem text_3 (s : ByteArray) (hs : s.size ≤ 100000) (kp : Option Addr) (nk kc : Nat) (at1 : Int) (w : World) (hl : Lib0 w) :
    Calls Tryz.prog 43 #[.agg #[.int .i64 3, .string s, .slice kp nk kc, .int .i64 at1]] w fun e w' => e = .returned (.bool (textS 3 s.data.toList nk)) ∧ Below w.heap.size w w' := by
  show Calls _ _ _ _ fun e w' => e = .returned (.bool s.data.toList.isEmpty) ∧ Below w.heap.size w w'
  rw [← ByteArray.toList_eq]
  clear hl
  cases h : s.toList.isEmpty
  · have h2 : (s.toList == []) = false := by cases e : s.toList with
      | nil => rw [e] at h; cases h
      | cons x l => rfl
    go_enter Tryz.func43, Tryz.ntmps43
    go_wp2
    go_ret
    exact ⟨rfl, by repeat (first | exact Below.refl _ _ | refine bG ?_ _ | refine bI ?_ _ _ | refine bA ?_ _ | refine bD ?_ | refine bN ?_ _)⟩
  · have h2 : (s.toList == []) = true := by cases e : s.toList with
      | nil => rfl
      | cons x l => rw [e] at h; cases h
    go_enter Tryz.func43, Tryz.ntmps43
    go_wp2
    go_ret
    exact ⟨rfl, by repeat (first | exact Below.refl _ _ | refine bG ?_ _ | refine bI ?_ _ _ | refine bA ?_ _ | refine bD ?_ | refine bN ?_ _)⟩
set_option maxHeartbeats 1000000 in
set_option maxRecDepth 10000 in
theorem text_4 (s : ByteArray) (hs : s.size ≤ 100000) (kp : Option Addr) (nk kc : Nat) (at1 : Int) (w : World) (hl : Lib0 w) :
    Calls Tryz.prog 43 #[.agg #[.int .i64 4, .string s, .slice kp nk kc, .int .i64 at1]] w fun e w' => e = .returned (.bool (textS 4 s.data.toList nk)) ∧ Below w.heap.size w w' := by
  show Calls _ _ _ _ fun e w' => e = .returned (.bool (nameS s.data.toList && decide (bn s.data.toList < 0))) ∧ Below w.heap.size w w'
  have H1 : Hid (∀ w', Below w.heap.size w w' → Calls Tryz.prog 70 #[.string s] w' fun e w2 => e = .returned (.bool (nameS s.data.toList)) ∧ Below w'.heap.size w' w2) := hid fun w' h => rname_any s (by omega) w'
  have H2 : Hid (∀ w', Below w.heap.size w w' → Calls Tryz.prog 71 #[.string s] w' fun e w2 => e = .returned (.int .i64 (bn s.data.toList)) ∧ Below w'.heap.size w' w2) := hid fun w' h => by
    have := builtin_19 s w'
    rwa [ByteArray.toList_eq] at this
  clear hl
  generalize nameS s.data.toList = x at *
  generalize bn s.data.toList = n at *
  cases x
  all_goals
    go_enter Tryz.func43, Tryz.ntmps43
    go_wp2_with (first
      | (go_at_call 70; ((with_reducible refine (H1.out _ ?_).mono ?_)); rotate_left; rintro e w' ⟨rfl, hb⟩; obtain ⟨g1, rfl⟩ := bout hb; clear hb)
      | (go_at_call 71; ((with_reducible refine (H2.out _ ?_).mono ?_)); rotate_left; rintro e w' ⟨rfl, hb⟩; obtain ⟨g1, rfl⟩ := bout hb; clear hb))
    all_goals first
      | (go_ret; exact ⟨rfl, by repeat (first | exact Below.refl _ _ | refine bG ?_ _ | refine bI ?_ _ _ | refine bA ?_ _ | refine bD ?_ | refine bN ?_ _)⟩)
      | exact by repeat (first | exact Below.refl _ _ | refine bG ?_ _ | refine bI ?_ _ _ | refine bA ?_ _ | refine bD ?_ | refine bN ?_ _)
set_option maxHeartbeats 1000000 in
set_option maxRecDepth 10000 in
theorem text_5 (s : ByteArray) (hs : s.size ≤ 100000) (kp : Option Addr) (nk kc : Nat) (at1 : Int) (w : World) (hl : Lib0 w) :
    Calls Tryz.prog 43 #[.agg #[.int .i64 5, .string s, .slice kp nk kc, .int .i64 at1]] w fun e w' => e = .returned (.bool (textS 5 s.data.toList nk)) ∧ Below w.heap.size w w' := by
  show Calls _ _ _ _ fun e w' => e = .returned (.bool (nameS s.data.toList && decide (bn s.data.toList < 0))) ∧ Below w.heap.size w w'
  have H1 : Hid (∀ w', Below w.heap.size w w' → Calls Tryz.prog 70 #[.string s] w' fun e w2 => e = .returned (.bool (nameS s.data.toList)) ∧ Below w'.heap.size w' w2) := hid fun w' h => rname_any s (by omega) w'
  have H2 : Hid (∀ w', Below w.heap.size w w' → Calls Tryz.prog 71 #[.string s] w' fun e w2 => e = .returned (.int .i64 (bn s.data.toList)) ∧ Below w'.heap.size w' w2) := hid fun w' h => by
    have := builtin_19 s w'
    rwa [ByteArray.toList_eq] at this
  clear hl
  generalize nameS s.data.toList = x at *
  generalize bn s.data.toList = n at *
  cases x
  all_goals
    go_enter Tryz.func43, Tryz.ntmps43
    go_wp2_with (first
      | (go_at_call 70; ((with_reducible refine (H1.out _ ?_).mono ?_)); rotate_left; rintro e w' ⟨rfl, hb⟩; obtain ⟨g1, rfl⟩ := bout hb; clear hb)
      | (go_at_call 71; ((with_reducible refine (H2.out _ ?_).mono ?_)); rotate_left; rintro e w' ⟨rfl, hb⟩; obtain ⟨g1, rfl⟩ := bout hb; clear hb))
    all_goals first
      | (go_ret; exact ⟨rfl, by repeat (first | exact Below.refl _ _ | refine bG ?_ _ | refine bI ?_ _ _ | refine bA ?_ _ | refine bD ?_ | refine bN ?_ _)⟩)
      | exact by repeat (first | exact Below.refl _ _ | refine bG ?_ _ | refine bI ?_ _ _ | refine bA ?_ _ | refine bD ?_ | refine bN ?_ _)
set_option maxHeartbeats 1000000 in
set_option maxRecDepth 10000 in
theorem text_6 (s : ByteArray) (hs : s.size ≤ 100000) (kp : Option Addr) (nk kc : Nat) (at1 : Int) (w : World) (hl : Lib0 w) :
    Calls Tryz.prog 43 #[.agg #[.int .i64 6, .string s, .slice kp nk kc, .int .i64 at1]] w fun e w' => e = .returned (.bool (textS 6 s.data.toList nk)) ∧ Below w.heap.size w w' := by
  show Calls _ _ _ _ fun e w' => e = .returned (.bool s.data.toList.isEmpty) ∧ Below w.heap.size w w'
  rw [← ByteArray.toList_eq]
  clear hl
  cases h : s.toList.isEmpty
  · have h2 : (s.toList == []) = false := by cases e : s.toList with
      | nil => rw [e] at h; cases h
      | cons x l => rfl
    go_enter Tryz.func43, Tryz.ntmps43
    go_wp2
    go_ret
    exact ⟨rfl, by repeat (first | exact Below.refl _ _ | refine bG ?_ _ | refine bI ?_ _ _ | refine bA ?_ _ | refine bD ?_ | refine bN ?_ _)⟩
  · have h2 : (s.toList == []) = true := by cases e : s.toList with
      | nil => rfl
      | cons x l => rw [e] at h; cases h
    go_enter Tryz.func43, Tryz.ntmps43
    go_wp2
    go_ret
    exact ⟨rfl, by repeat (first | exact Below.refl _ _ | refine bG ?_ _ | refine bI ?_ _ _ | refine bA ?_ _ | refine bD ?_ | refine bN ?_ _)⟩
set_option maxHeartbeats 1000000 in
set_option maxRecDepth 10000 in
theorem text_7 (s : ByteArray) (hs : s.size ≤ 100000) (kp : Option Addr) (nk kc : Nat) (at1 : Int) (w : World) (hl : Lib0 w) :
    Calls Tryz.prog 43 #[.agg #[.int .i64 7, .string s, .slice kp nk kc, .int .i64 at1]] w fun e w' => e = .returned (.bool (textS 7 s.data.toList nk)) ∧ Below w.heap.size w w' := by
  show Calls _ _ _ _ fun e w' => e = .returned (.bool s.data.toList.isEmpty) ∧ Below w.heap.size w w'
  rw [← ByteArray.toList_eq]
  clear hl
  cases h : s.toList.isEmpty
  · have h2 : (s.toList == []) = false := by cases e : s.toList with
      | nil => rw [e] at h; cases h
      | cons x l => rfl
    go_enter Tryz.func43, Tryz.ntmps43
    go_wp2
    go_ret
    exact ⟨rfl, by repeat (first | exact Below.refl _ _ | refine bG ?_ _ | refine bI ?_ _ _ | refine bA ?_ _ | refine bD ?_ | refine bN ?_ _)⟩
  · have h2 : (s.toList == []) = true := by cases e : s.toList with
      | nil => rfl
      | cons x l => rw [e] at h; cases h
    go_enter Tryz.func43, Tryz.ntmps43
    go_wp2
    go_ret
    exact ⟨rfl, by repeat (first | exact Below.refl _ _ | refine bG ?_ _ | refine bI ?_ _ _ | refine bA ?_ _ | refine bD ?_ | refine bN ?_ _)⟩
set_option maxHeartbeats 1000000 in
set_option maxRecDepth 10000 in
theorem text_8 (s : ByteArray) (hs : s.size ≤ 100000) (kp : Option Addr) (nk kc : Nat) (at1 : Int) (w : World) (hl : Lib0 w) :
    Calls Tryz.prog 43 #[.agg #[.int .i64 8, .string s, .slice kp nk kc, .int .i64 at1]] w fun e w' => e = .returned (.bool (textS 8 s.data.toList nk)) ∧ Below w.heap.size w w' := by
  show Calls _ _ _ _ fun e w' => e = .returned (.bool s.data.toList.isEmpty) ∧ Below w.heap.size w w'
  rw [← ByteArray.toList_eq]
  clear hl
  cases h : s.toList.isEmpty
  · have h2 : (s.toList == []) = false := by cases e : s.toList with
      | nil => rw [e] at h; cases h
      | cons x l => rfl
    go_enter Tryz.func43, Tryz.ntmps43
    go_wp2
    go_ret
    exact ⟨rfl, by repeat (first | exact Below.refl _ _ | refine bG ?_ _ | refine bI ?_ _ _ | refine bA ?_ _ | refine bD ?_ | refine bN ?_ _)⟩
  · have h2 : (s.toList == []) = true := by cases e : s.toList with
      | nil => rfl
      | cons x l => rw [e] at h; cases h
    go_enter Tryz.func43, Tryz.ntmps43
    go_wp2
    go_ret
    exact ⟨rfl, by repeat (first | exact Below.refl _ _ | refine bG ?_ _ | refine bI ?_ _ _ | refine bA ?_ _ | refine bD ?_ | refine bN ?_ _)⟩
set_option maxHeartbeats 1000000 in
set_option maxRecDepth 10000 in
theorem text_9 (s : ByteArray) (hs : s.size ≤ 100000) (kp : Option Addr) (nk kc : Nat) (at1 : Int) (w : World) (hl : Lib0 w) :
    Calls Tryz.prog 43 #[.agg #[.int .i64 9, .string s, .slice kp nk kc, .int .i64 at1]] w fun e w' => e = .returned (.bool (textS 9 s.data.toList nk)) ∧ Below w.heap.size w w' := by
  show Calls _ _ _ _ fun e w' => e = .returned (.bool s.data.toList.isEmpty) ∧ Below w.heap.size w w'
  rw [← ByteArray.toList_eq]
  clear hl
  cases h : s.toList.isEmpty
  · have h2 : (s.toList == []) = false := by cases e : s.toList with
      | nil => rw [e] at h; cases h
      | cons x l => rfl
    go_enter Tryz.func43, Tryz.ntmps43
    go_wp2
    go_ret
    exact ⟨rfl, by repeat (first | exact Below.refl _ _ | refine bG ?_ _ | refine bI ?_ _ _ | refine bA ?_ _ | refine bD ?_ | refine bN ?_ _)⟩
  · have h2 : (s.toList == []) = true := by cases e : s.toList with
      | nil => rfl
      | cons x l => rw [e] at h; cases h
    go_enter Tryz.func43, Tryz.ntmps43
    go_wp2
    go_ret
    exact ⟨rfl, by repeat (first | exact Below.refl _ _ | refine bG ?_ _ | refine bI ?_ _ _ | refine bA ?_ _ | refine bD ?_ | refine bN ?_ _)⟩
set_option maxHeartbeats 1000000 in
set_option maxRecDepth 10000 in
theorem text_10 (s : ByteArray) (hs : s.size ≤ 100000) (kp : Option Addr) (nk kc : Nat) (at1 : Int) (w : World) (hl : Lib0 w) :
    Calls Tryz.prog 43 #[.agg #[.int .i64 10, .string s, .slice kp nk kc, .int .i64 at1]] w fun e w' => e = .returned (.bool (textS 10 s.data.toList nk)) ∧ Below w.heap.size w w' := by
  show Calls _ _ _ _ fun e w' => e = .returned (.bool s.data.toList.isEmpty) ∧ Below w.heap.size w w'
  rw [← ByteArray.toList_eq]
  clear hl
  cases h : s.toList.isEmpty
  · have h2 : (s.toList == []) = false := by cases e : s.toList with
      | nil => rw [e] at h; cases h
      | cons x l => rfl
    go_enter Tryz.func43, Tryz.ntmps43
    go_wp2
    go_ret
    exact ⟨rfl, by repeat (first | exact Below.refl _ _ | refine bG ?_ _ | refine bI ?_ _ _ | refine bA ?_ _ | refine bD ?_ | refine bN ?_ _)⟩
  · have h2 : (s.toList == []) = true := by cases e : s.toList with
      | nil => rfl
      | cons x l => rw [e] at h; cases h
    go_enter Tryz.func43, Tryz.ntmps43
    go_wp2
    go_ret
    exact ⟨rfl, by repeat (first | exact Below.refl _ _ | refine bG ?_ _ | refine bI ?_ _ _ | refine bA ?_ _ | refine bD ?_ | refine bN ?_ _)⟩
set_option maxHeartbeats 1000000 in
set_option maxRecDepth 10000 in
theorem text_11 (s : ByteArray) (hs : s.size ≤ 100000) (kp : Option Addr) (nk kc : Nat) (at1 : Int) (w : World) (hl : Lib0 w) :
    Calls Tryz.prog 43 #[.agg #[.int .i64 11, .string s, .slice kp nk kc, .int .i64 at1]] w fun e w' => e = .returned (.bool (textS 11 s.data.toList nk)) ∧ Below w.heap.size w w' := by
  show Calls _ _ _ _ fun e w' => e = .returned (.bool s.data.toList.isEmpty) ∧ Below w.heap.size w w'
  rw [← ByteArray.toList_eq]
  clear hl
  cases h : s.toList.isEmpty
  · have h2 : (s.toList == []) = false := by cases e : s.toList with
      | nil => rw [e] at h; cases h
      | cons x l => rfl
    go_enter Tryz.func43, Tryz.ntmps43
    go_wp2
    go_ret
    exact ⟨rfl, by repeat (first | exact Below.refl _ _ | refine bG ?_ _ | refine bI ?_ _ _ | refine bA ?_ _ | refine bD ?_ | refine bN ?_ _)⟩
  · have h2 : (s.toList == []) = true := by cases e : s.toList with
      | nil => rfl
      | cons x l => rw [e] at h; cases h
    go_enter Tryz.func43, Tryz.ntmps43
    go_wp2
    go_ret
    exact ⟨rfl, by repeat (first | exact Below.refl _ _ | refine bG ?_ _ | refine bI ?_ _ _ | refine bA ?_ _ | refine bD ?_ | refine bN ?_ _)⟩
set_option maxHeartbeats 1000000 in
set_option maxRecDepth 10000 in
theorem text_12 (s : ByteArray) (hs : s.size ≤ 100000) (kp : Option Addr) (nk kc : Nat) (at1 : Int) (w : World) (hl : Lib0 w) :
    Calls Tryz.prog 43 #[.agg #[.int .i64 12, .string s, .slice kp nk kc, .int .i64 at1]] w fun e w' => e = .returned (.bool (textS 12 s.data.toList nk)) ∧ Below w.heap.size w w' := by
  show Calls _ _ _ _ fun e w' => e = .returned (.bool s.data.toList.isEmpty) ∧ Below w.heap.size w w'
  rw [← ByteArray.toList_eq]
  clear hl
  cases h : s.toList.isEmpty
  · have h2 : (s.toList == []) = false := by cases e : s.toList with
      | nil => rw [e] at h; cases h
      | cons x l => rfl
    go_enter Tryz.func43, Tryz.ntmps43
    go_wp2
    go_ret
    exact ⟨rfl, by repeat (first | exact Below.refl _ _ | refine bG ?_ _ | refine bI ?_ _ _ | refine bA ?_ _ | refine bD ?_ | refine bN ?_ _)⟩
  · have h2 : (s.toList == []) = true := by cases e : s.toList with
      | nil => rfl
      | cons x l => rw [e] at h; cases h
    go_enter Tryz.func43, Tryz.ntmps43
    go_wp2
    go_ret
    exact ⟨rfl, by repeat (first | exact Below.refl _ _ | refine bG ?_ _ | refine bI ?_ _ _ | refine bA ?_ _ | refine bD ?_ | refine bN ?_ _)⟩
set_option maxHeartbeats 1000000 in
set_option maxRecDepth 10000 in
theorem text_13 (s : ByteArray) (hs : s.size ≤ 100000) (kp : Option Addr) (nk kc : Nat) (at1 : Int) (w : World) (hl : Lib0 w) :
    Calls Tryz.prog 43 #[.agg #[.int .i64 13, .string s, .slice kp nk kc, .int .i64 at1]] w fun e w' => e = .returned (.bool (textS 13 s.data.toList nk)) ∧ Below w.heap.size w w' := by
  show Calls _ _ _ _ fun e w' => e = .returned (.bool s.data.toList.isEmpty) ∧ Below w.heap.size w w'
  rw [← ByteArray.toList_eq]
  clear hl
  cases h : s.toList.isEmpty
  · have h2 : (s.toList == []) = false := by cases e : s.toList with
      | nil => rw [e] at h; cases h
      | cons x l => rfl
    go_enter Tryz.func43, Tryz.ntmps43
    go_wp2
    go_ret
    exact ⟨rfl, by repeat (first | exact Below.refl _ _ | refine bG ?_ _ | refine bI ?_ _ _ | refine bA ?_ _ | refine bD ?_ | refine bN ?_ _)⟩
  · have h2 : (s.toList == []) = true := by cases e : s.toList with
      | nil => rfl
      | cons x l => rw [e] at h; cases h
    go_enter Tryz.func43, Tryz.ntmps43
    go_wp2
    go_ret
    exact ⟨rfl, by repeat (first | exact Below.refl _ _ | refine bG ?_ _ | refine bI ?_ _ _ | refine bA ?_ _ | refine bD ?_ | refine bN ?_ _)⟩
set_option maxHeartbeats 1000000 in
set_option maxRecDepth 10000 in
theorem text_14 (s : ByteArray) (hs : s.size ≤ 100000) (kp : Option Addr) (nk kc : Nat) (at1 : Int) (w : World) (hl : Lib0 w) :
    Calls Tryz.prog 43 #[.agg #[.int .i64 14, .string s, .slice kp nk kc, .int .i64 at1]] w fun e w' => e = .returned (.bool (textS 14 s.data.toList nk)) ∧ Below w.heap.size w w' := by
  show Calls _ _ _ _ fun e w' => e = .returned (.bool (boolW.contains s.data.toList)) ∧ Below w.heap.size w w'
  rw [← ByteArray.toList_eq]
  clear hl
  by_cases h0 : s.toList = [116, 114, 117, 101]
  · have hr : boolW.contains s.toList = true := by rw [h0]; decide
    have Hr := hid hr
    clear hr
    have b0 : (s.toList == [116, 114, 117, 101]) = true := by rw [h0]; decide
    clear h0
    go_enter Tryz.func43, Tryz.ntmps43
    go_wp2
    go_ret
    exact ⟨by rw [Hr.out]; rfl, by repeat (first | exact Below.refl _ _ | refine bG ?_ _ | refine bI ?_ _ _ | refine bA ?_ _ | refine bD ?_ | refine bN ?_ _)⟩
  have b0 : (s.toList == [116, 114, 117, 101]) = false := by simpa using h0
  by_cases h1 : s.toList = [102, 97, 108, 115, 101]
  · have hr : boolW.contains s.toList = true := by rw [h1]; decide
    have Hr := hid hr
    clear hr
    have b1 : (s.toList == [102, 97, 108, 115, 101]) = true := by rw [h1]; decide
    clear h1
    go_enter Tryz.func43, Tryz.ntmps43
    go_wp2
    go_ret
    exact ⟨by rw [Hr.out]; rfl, by repeat (first | exact Below.refl _ _ | refine bG ?_ _ | refine bI ?_ _ _ | refine bA ?_ _ | refine bD ?_ | refine bN ?_ _)⟩
  have b1 : (s.toList == [102, 97, 108, 115, 101]) = false := by simpa using h1
  have hr : boolW.contains s.toList = false := by simp [boolW, h0, h1]
  have Hr := hid hr
  clear hr h0 h1
  go_enter Tryz.func43, Tryz.ntmps43
  go_wp2
  go_ret
  exact ⟨by rw [Hr.out]; rfl, by repeat (first | exact Below.refl _ _ | refine bG ?_ _ | refine bI ?_ _ _ | refine bA ?_ _ | refine bD ?_ | refine bN ?_ _)⟩
set_option maxHeartbeats 1000000 in
set_option maxRecDepth 10000 in
theorem text_16 (s : ByteArray) (hs : s.size ≤ 100000) (kp : Option Addr) (nk kc : Nat) (at1 : Int) (w : World) (hl : Lib0 w) :
    Calls Tryz.prog 43 #[.agg #[.int .i64 16, .string s, .slice kp nk kc, .int .i64 at1]] w fun e w' => e = .returned (.bool (textS 16 s.data.toList nk)) ∧ Below w.heap.size w w' := by
  show Calls _ _ _ _ fun e w' => e = .returned (.bool true) ∧ Below w.heap.size w w'
  clear hl
  go_enter Tryz.func43, Tryz.ntmps43
  go_wp2
  go_ret
  exact ⟨rfl, by repeat (first | exact Below.refl _ _ | refine bG ?_ _ | refine bI ?_ _ _ | refine bA ?_ _ | refine bD ?_ | refine bN ?_ _)⟩
set_option maxHeartbeats 1000000 in
set_option maxRecDepth 10000 in
theorem text_17 (s : ByteArray) (hs : s.size ≤ 100000) (kp : Option Addr) (nk kc : Nat) (at1 : Int) (w : World) (hl : Lib0 w) :
    Calls Tryz.prog 43 #[.agg #[.int .i64 17, .string s, .slice kp nk kc, .int .i64 at1]] w fun e w' => e = .returned (.bool (textS 17 s.data.toList nk)) ∧ Below w.heap.size w w' := by
  show Calls _ _ _ _ fun e w' => e = .returned (.bool (nameS s.data.toList && decide (bn s.data.toList < 0))) ∧ Below w.heap.size w w'
  have H1 : Hid (∀ w', Below w.heap.size w w' → Calls Tryz.prog 70 #[.string s] w' fun e w2 => e = .returned (.bool (nameS s.data.toList)) ∧ Below w'.heap.size w' w2) := hid fun w' h => rname_any s (by omega) w'
  have H2 : Hid (∀ w', Below w.heap.size w w' → Calls Tryz.prog 71 #[.string s] w' fun e w2 => e = .returned (.int .i64 (bn s.data.toList)) ∧ Below w'.heap.size w' w2) := hid fun w' h => by
    have := builtin_19 s w'
    rwa [ByteArray.toList_eq] at this
  clear hl
  generalize nameS s.data.toList = x at *
  generalize bn s.data.toList = n at *
  cases x
  all_goals
    go_enter Tryz.func43, Tryz.ntmps43
    go_wp2_with (first
      | (go_at_call 70; ((with_reducible refine (H1.out _ ?_).mono ?_)); rotate_left; rintro e w' ⟨rfl, hb⟩; obtain ⟨g1, rfl⟩ := bout hb; clear hb)
      | (go_at_call 71; ((with_reducible refine (H2.out _ ?_).mono ?_)); rotate_left; rintro e w' ⟨rfl, hb⟩; obtain ⟨g1, rfl⟩ := bout hb; clear hb))
    all_goals first
      | (go_ret; exact ⟨rfl, by repeat (first | exact Below.refl _ _ | refine bG ?_ _ | refine bI ?_ _ _ | refine bA ?_ _ | refine bD ?_ | refine bN ?_ _)⟩)
      | exact by repeat (first | exact Below.refl _ _ | refine bG ?_ _ | refine bI ?_ _ _ | refine bA ?_ _ | refine bD ?_ | refine bN ?_ _)
set_option maxHeartbeats 1000000 in
set_option maxRecDepth 10000 in
theorem text_18 (s : ByteArray) (hs : s.size ≤ 100000) (kp : Option Addr) (nk kc : Nat) (at1 : Int) (w : World) (hl : Lib0 w) :
    Calls Tryz.prog 43 #[.agg #[.int .i64 18, .string s, .slice kp nk kc, .int .i64 at1]] w fun e w' => e = .returned (.bool (textS 18 s.data.toList nk)) ∧ Below w.heap.size w w' := by
  show Calls _ _ _ _ fun e w' => e = .returned (.bool (nameS s.data.toList)) ∧ Below w.heap.size w w'
  have H1 : Hid (∀ w', Below w.heap.size w w' → Calls Tryz.prog 70 #[.string s] w' fun e w2 => e = .returned (.bool (nameS s.data.toList)) ∧ Below w'.heap.size w' w2) := hid fun w' h => rname_any s (by omega) w'
  clear hl
  generalize nameS s.data.toList = x at *
  go_enter Tryz.func43, Tryz.ntmps43
  go_wp2_with (first
    | (go_at_call 70; ((with_reducible refine (H1.out _ ?_).mono ?_)); rotate_left; rintro e w' ⟨rfl, hb⟩; obtain ⟨g1, rfl⟩ := bout hb; clear hb))
  all_goals first
    | (go_ret; exact ⟨rfl, by repeat (first | exact Below.refl _ _ | refine bG ?_ _ | refine bI ?_ _ _ | refine bA ?_ _ | refine bD ?_ | refine bN ?_ _)⟩)
    | exact by repeat (first | exact Below.refl _ _ | refine bG ?_ _ | refine bI ?_ _ _ | refine bA ?_ _ | refine bD ?_ | refine bN ?_ _)
set_option maxHeartbeats 1000000 in
set_option maxRecDepth 10000 in
theorem text_19 (s : ByteArray) (hs : s.size ≤ 100000) (kp : Option Addr) (nk kc : Nat) (at1 : Int) (w : World) (hl : Lib0 w) :
    Calls Tryz.prog 43 #[.agg #[.int .i64 19, .string s, .slice kp nk kc, .int .i64 at1]] w fun e w' => e = .returned (.bool (textS 19 s.data.toList nk)) ∧ Below w.heap.size w w' := by
  show Calls _ _ _ _ fun e w' => e = .returned (.bool s.data.toList.isEmpty) ∧ Below w.heap.size w w'
  rw [← ByteArray.toList_eq]
  clear hl
  cases h : s.toList.isEmpty
  · have h2 : (s.toList == []) = false := by cases e : s.toList with
      | nil => rw [e] at h; cases h
      | cons x l => rfl
    go_enter Tryz.func43, Tryz.ntmps43
    go_wp2
    go_ret
    exact ⟨rfl, by repeat (first | exact Below.refl _ _ | refine bG ?_ _ | refine bI ?_ _ _ | refine bA ?_ _ | refine bD ?_ | refine bN ?_ _)⟩
  · have h2 : (s.toList == []) = true := by cases e : s.toList with
      | nil => rfl
      | cons x l => rw [e] at h; cases h
    go_enter Tryz.func43, Tryz.ntmps43
    go_wp2
    go_ret
    exact ⟨rfl, by repeat (first | exact Below.refl _ _ | refine bG ?_ _ | refine bI ?_ _ _ | refine bA ?_ _ | refine bD ?_ | refine bN ?_ _)⟩
set_option maxHeartbeats 1000000 in
set_option maxRecDepth 10000 in
theorem text_20 (s : ByteArray) (hs : s.size ≤ 100000) (kp : Option Addr) (nk kc : Nat) (at1 : Int) (w : World) (hl : Lib0 w) :
    Calls Tryz.prog 43 #[.agg #[.int .i64 20, .string s, .slice kp nk kc, .int .i64 at1]] w fun e w' => e = .returned (.bool (textS 20 s.data.toList nk)) ∧ Below w.heap.size w w' := by
  show Calls _ _ _ _ fun e w' => e = .returned (.bool s.data.toList.isEmpty) ∧ Below w.heap.size w w'
  rw [← ByteArray.toList_eq]
  clear hl
  cases h : s.toList.isEmpty
  · have h2 : (s.toList == []) = false := by cases e : s.toList with
      | nil => rw [e] at h; cases h
      | cons x l => rfl
    go_enter Tryz.func43, Tryz.ntmps43
    go_wp2
    go_ret
    exact ⟨rfl, by repeat (first | exact Below.refl _ _ | refine bG ?_ _ | refine bI ?_ _ _ | refine bA ?_ _ | refine bD ?_ | refine bN ?_ _)⟩
  · have h2 : (s.toList == []) = true := by cases e : s.toList with
      | nil => rfl
      | cons x l => rw [e] at h; cases h
    go_enter Tryz.func43, Tryz.ntmps43
    go_wp2
    go_ret
    exact ⟨rfl, by repeat (first | exact Below.refl _ _ | refine bG ?_ _ | refine bI ?_ _ _ | refine bA ?_ _ | refine bD ?_ | refine bN ?_ _)⟩
set_option maxHeartbeats 1000000 in
set_option maxRecDepth 10000 in
theorem text_21 (s : ByteArray) (hs : s.size ≤ 100000) (kp : Option Addr) (nk kc : Nat) (at1 : Int) (w : World) (hl : Lib0 w) :
    Calls Tryz.prog 43 #[.agg #[.int .i64 21, .string s, .slice kp nk kc, .int .i64 at1]] w fun e w' => e = .returned (.bool (textS 21 s.data.toList nk)) ∧ Below w.heap.size w w' := by
  show Calls _ _ _ _ fun e w' => e = .returned (.bool (decide (bn s.data.toList = (nk : Int)))) ∧ Below w.heap.size w w'
  have H2 : Hid (∀ w', Calls Tryz.prog 71 #[.string s] w' fun e w2 => e = .returned (.int .i64 (bn s.data.toList)) ∧ Below w'.heap.size w' w2) := hid fun w' => by
    have := builtin_19 s w'
    rwa [ByteArray.toList_eq] at this
  clear hl
  generalize bn s.data.toList = n at *
  go_enter Tryz.func43, Tryz.ntmps43
  go_wp2_with fail
  go_region_held3 (fun w' => w'.cell? ⟨w.heap.size, 1, none⟩ = some (.string s) ∧ w'.cell? ⟨w.heap.size, 2, none⟩ = some (.slice kp nk kc)) (simp [go_sem])
    (first | (go_at_call 71; ((with_reducible refine (H2.out _).mono ?_)); rintro e w' ⟨rfl, hb⟩; obtain ⟨g2, rfl⟩ := bout hb; clear hb))
  go_wp2
  go_ret
  exact ⟨by rw [← Bool.beq_eq_decide_eq]; rfl, by repeat (first | exact Below.refl _ _ | refine bG ?_ _ | refine bI ?_ _ _ | refine bA ?_ _ | refine bD ?_ | refine bN ?_ _)⟩
set_option maxHeartbeats 1000000 in
set_option maxRecDepth 10000 in
theorem text_22 (s : ByteArray) (hs : s.size ≤ 100000) (kp : Option Addr) (nk kc : Nat) (at1 : Int) (w : World) (hl : Lib0 w) :
    Calls Tryz.prog 43 #[.agg #[.int .i64 22, .string s, .slice kp nk kc, .int .i64 at1]] w fun e w' => e = .returned (.bool (textS 22 s.data.toList nk)) ∧ Below w.heap.size w w' := by
  show Calls _ _ _ _ fun e w' => e = .returned (.bool s.data.toList.isEmpty) ∧ Below w.heap.size w w'
  rw [← ByteArray.toList_eq]
  clear hl
  cases h : s.toList.isEmpty
  · have h2 : (s.toList == []) = false := by cases e : s.toList with
      | nil => rw [e] at h; cases h
      | cons x l => rfl
    go_enter Tryz.func43, Tryz.ntmps43
    go_wp2
    go_ret
    exact ⟨rfl, by repeat (first | exact Below.refl _ _ | refine bG ?_ _ | refine bI ?_ _ _ | refine bA ?_ _ | refine bD ?_ | refine bN ?_ _)⟩
  · have h2 : (s.toList == []) = true := by cases e : s.toList with
      | nil => rfl
      | cons x l => rw [e] at h; cases h
    go_enter Tryz.func43, Tryz.ntmps43
    go_wp2
    go_ret
    exact ⟨rfl, by repeat (first | exact Below.refl _ _ | refine bG ?_ _ | refine bI ?_ _ _ | refine bA ?_ _ | refine bD ?_ | refine bN ?_ _)⟩
set_option maxHeartbeats 1000000 in
set_option maxRecDepth 10000 in
theorem text_23 (s : ByteArray) (hs : s.size ≤ 100000) (kp : Option Addr) (nk kc : Nat) (at1 : Int) (w : World) (hl : Lib0 w) :
    Calls Tryz.prog 43 #[.agg #[.int .i64 23, .string s, .slice kp nk kc, .int .i64 at1]] w fun e w' => e = .returned (.bool (textS 23 s.data.toList nk)) ∧ Below w.heap.size w w' := by
  show Calls _ _ _ _ fun e w' => e = .returned (.bool (nameS s.data.toList && decide (bn s.data.toList < 0))) ∧ Below w.heap.size w w'
  have H1 : Hid (∀ w', Below w.heap.size w w' → Calls Tryz.prog 70 #[.string s] w' fun e w2 => e = .returned (.bool (nameS s.data.toList)) ∧ Below w'.heap.size w' w2) := hid fun w' h => rname_any s (by omega) w'
  have H2 : Hid (∀ w', Below w.heap.size w w' → Calls Tryz.prog 71 #[.string s] w' fun e w2 => e = .returned (.int .i64 (bn s.data.toList)) ∧ Below w'.heap.size w' w2) := hid fun w' h => by
    have := builtin_19 s w'
    rwa [ByteArray.toList_eq] at this
  clear hl
  generalize nameS s.data.toList = x at *
  generalize bn s.data.toList = n at *
  cases x
  all_goals
    go_enter Tryz.func43, Tryz.ntmps43
    go_wp2_with (first
      | (go_at_call 70; ((with_reducible refine (H1.out _ ?_).mono ?_)); rotate_left; rintro e w' ⟨rfl, hb⟩; obtain ⟨g1, rfl⟩ := bout hb; clear hb)
      | (go_at_call 71; ((with_reducible refine (H2.out _ ?_).mono ?_)); rotate_left; rintro e w' ⟨rfl, hb⟩; obtain ⟨g1, rfl⟩ := bout hb; clear hb))
    all_goals first
      | (go_ret; exact ⟨rfl, by repeat (first | exact Below.refl _ _ | refine bG ?_ _ | refine bI ?_ _ _ | refine bA ?_ _ | refine bD ?_ | refine bN ?_ _)⟩)
      | exact by repeat (first | exact Below.refl _ _ | refine bG ?_ _ | refine bI ?_ _ _ | refine bA ?_ _ | refine bD ?_ | refine bN ?_ _)
set_option maxHeartbeats 1000000 in
set_option maxRecDepth 10000 in
theorem text_24 (s : ByteArray) (hs : s.size ≤ 100000) (kp : Option Addr) (nk kc : Nat) (at1 : Int) (w : World) (hl : Lib0 w) :
    Calls Tryz.prog 43 #[.agg #[.int .i64 24, .string s, .slice kp nk kc, .int .i64 at1]] w fun e w' => e = .returned (.bool (textS 24 s.data.toList nk)) ∧ Below w.heap.size w w' := by
  show Calls _ _ _ _ fun e w' => e = .returned (.bool s.data.toList.isEmpty) ∧ Below w.heap.size w w'
  rw [← ByteArray.toList_eq]
  clear hl
  cases h : s.toList.isEmpty
  · have h2 : (s.toList == []) = false := by cases e : s.toList with
      | nil => rw [e] at h; cases h
      | cons x l => rfl
    go_enter Tryz.func43, Tryz.ntmps43
    go_wp2
    go_ret
    exact ⟨rfl, by repeat (first | exact Below.refl _ _ | refine bG ?_ _ | refine bI ?_ _ _ | refine bA ?_ _ | refine bD ?_ | refine bN ?_ _)⟩
  · have h2 : (s.toList == []) = true := by cases e : s.toList with
      | nil => rfl
      | cons x l => rw [e] at h; cases h
    go_enter Tryz.func43, Tryz.ntmps43
    go_wp2
    go_ret
    exact ⟨rfl, by repeat (first | exact Below.refl _ _ | refine bG ?_ _ | refine bI ?_ _ _ | refine bA ?_ _ | refine bD ?_ | refine bN ?_ _)⟩
set_option maxHeartbeats 1000000 in
set_option maxRecDepth 10000 in
theorem text_25 (s : ByteArray) (hs : s.size ≤ 100000) (kp : Option Addr) (nk kc : Nat) (at1 : Int) (w : World) (hl : Lib0 w) :
    Calls Tryz.prog 43 #[.agg #[.int .i64 25, .string s, .slice kp nk kc, .int .i64 at1]] w fun e w' => e = .returned (.bool (textS 25 s.data.toList nk)) ∧ Below w.heap.size w w' := by
  show Calls _ _ _ _ fun e w' => e = .returned (.bool (nameS s.data.toList)) ∧ Below w.heap.size w w'
  have H1 : Hid (∀ w', Below w.heap.size w w' → Calls Tryz.prog 70 #[.string s] w' fun e w2 => e = .returned (.bool (nameS s.data.toList)) ∧ Below w'.heap.size w' w2) := hid fun w' h => rname_any s (by omega) w'
  clear hl
  generalize nameS s.data.toList = x at *
  go_enter Tryz.func43, Tryz.ntmps43
  go_wp2_with (first
    | (go_at_call 70; ((with_reducible refine (H1.out _ ?_).mono ?_)); rotate_left; rintro e w' ⟨rfl, hb⟩; obtain ⟨g1, rfl⟩ := bout hb; clear hb))
  all_goals first
    | (go_ret; exact ⟨rfl, by repeat (first | exact Below.refl _ _ | refine bG ?_ _ | refine bI ?_ _ _ | refine bA ?_ _ | refine bD ?_ | refine bN ?_ _)⟩)
    | exact by repeat (first | exact Below.refl _ _ | refine bG ?_ _ | refine bI ?_ _ _ | refine bA ?_ _ | refine bD ?_ | refine bN ?_ _)
set_option maxHeartbeats 1000000 in
set_option maxRecDepth 10000 in
theorem text_26 (s : ByteArray) (hs : s.size ≤ 100000) (kp : Option Addr) (nk kc : Nat) (at1 : Int) (w : World) (hl : Lib0 w) :
    Calls Tryz.prog 43 #[.agg #[.int .i64 26, .string s, .slice kp nk kc, .int .i64 at1]] w fun e w' => e = .returned (.bool (textS 26 s.data.toList nk)) ∧ Below w.heap.size w w' := by
  show Calls _ _ _ _ fun e w' => e = .returned (.bool s.data.toList.isEmpty) ∧ Below w.heap.size w w'
  rw [← ByteArray.toList_eq]
  clear hl
  cases h : s.toList.isEmpty
  · have h2 : (s.toList == []) = false := by cases e : s.toList with
      | nil => rw [e] at h; cases h
      | cons x l => rfl
    go_enter Tryz.func43, Tryz.ntmps43
    go_wp2
    go_ret
    exact ⟨rfl, by repeat (first | exact Below.refl _ _ | refine bG ?_ _ | refine bI ?_ _ _ | refine bA ?_ _ | refine bD ?_ | refine bN ?_ _)⟩
  · have h2 : (s.toList == []) = true := by cases e : s.toList with
      | nil => rfl
      | cons x l => rw [e] at h; cases h
    go_enter Tryz.func43, Tryz.ntmps43
    go_wp2
    go_ret
    exact ⟨rfl, by repeat (first | exact Below.refl _ _ | refine bG ?_ _ | refine bI ?_ _ _ | refine bA ?_ _ | refine bD ?_ | refine bN ?_ _)⟩
set_option maxHeartbeats 1000000 in
set_option maxRecDepth 10000 in
theorem text_27 (s : ByteArray) (hs : s.size ≤ 100000) (kp : Option Addr) (nk kc : Nat) (at1 : Int) (w : World) (hl : Lib0 w) :
    Calls Tryz.prog 43 #[.agg #[.int .i64 27, .string s, .slice kp nk kc, .int .i64 at1]] w fun e w' => e = .returned (.bool (textS 27 s.data.toList nk)) ∧ Below w.heap.size w w' := by
  show Calls _ _ _ _ fun e w' => e = .returned (.bool (binW.contains s.data.toList)) ∧ Below w.heap.size w w'
  rw [← ByteArray.toList_eq]
  clear hl
  by_cases h0 : s.toList = [43]
  · have hr : binW.contains s.toList = true := by rw [h0]; decide
    have Hr := hid hr
    clear hr
    have b0 : (s.toList == [43]) = true := by rw [h0]; decide
    clear h0
    go_enter Tryz.func43, Tryz.ntmps43
    go_wp2
    go_ret
    exact ⟨by rw [Hr.out]; rfl, by repeat (first | exact Below.refl _ _ | refine bG ?_ _ | refine bI ?_ _ _ | refine bA ?_ _ | refine bD ?_ | refine bN ?_ _)⟩
  have b0 : (s.toList == [43]) = false := by simpa using h0
  by_cases h1 : s.toList = [45]
  · have hr : binW.contains s.toList = true := by rw [h1]; decide
    have Hr := hid hr
    clear hr
    have b1 : (s.toList == [45]) = true := by rw [h1]; decide
    clear h1
    go_enter Tryz.func43, Tryz.ntmps43
    go_wp2
    go_ret
    exact ⟨by rw [Hr.out]; rfl, by repeat (first | exact Below.refl _ _ | refine bG ?_ _ | refine bI ?_ _ _ | refine bA ?_ _ | refine bD ?_ | refine bN ?_ _)⟩
  have b1 : (s.toList == [45]) = false := by simpa using h1
  by_cases h2 : s.toList = [42]
  · have hr : binW.contains s.toList = true := by rw [h2]; decide
    have Hr := hid hr
    clear hr
    have b2 : (s.toList == [42]) = true := by rw [h2]; decide
    clear h2
    go_enter Tryz.func43, Tryz.ntmps43
    go_wp2
    go_ret
    exact ⟨by rw [Hr.out]; rfl, by repeat (first | exact Below.refl _ _ | refine bG ?_ _ | refine bI ?_ _ _ | refine bA ?_ _ | refine bD ?_ | refine bN ?_ _)⟩
  have b2 : (s.toList == [42]) = false := by simpa using h2
  by_cases h3 : s.toList = [47, 47]
  · have hr : binW.contains s.toList = true := by rw [h3]; decide
    have Hr := hid hr
    clear hr
    have b3 : (s.toList == [47, 47]) = true := by rw [h3]; decide
    clear h3
    go_enter Tryz.func43, Tryz.ntmps43
    go_wp2
    go_ret
    exact ⟨by rw [Hr.out]; rfl, by repeat (first | exact Below.refl _ _ | refine bG ?_ _ | refine bI ?_ _ _ | refine bA ?_ _ | refine bD ?_ | refine bN ?_ _)⟩
  have b3 : (s.toList == [47, 47]) = false := by simpa using h3
  by_cases h4 : s.toList = [37]
  · have hr : binW.contains s.toList = true := by rw [h4]; decide
    have Hr := hid hr
    clear hr
    have b4 : (s.toList == [37]) = true := by rw [h4]; decide
    clear h4
    go_enter Tryz.func43, Tryz.ntmps43
    go_wp2
    go_ret
    exact ⟨by rw [Hr.out]; rfl, by repeat (first | exact Below.refl _ _ | refine bG ?_ _ | refine bI ?_ _ _ | refine bA ?_ _ | refine bD ?_ | refine bN ?_ _)⟩
  have b4 : (s.toList == [37]) = false := by simpa using h4
  by_cases h5 : s.toList = [46, 46]
  · have hr : binW.contains s.toList = true := by rw [h5]; decide
    have Hr := hid hr
    clear hr
    have b5 : (s.toList == [46, 46]) = true := by rw [h5]; decide
    clear h5
    go_enter Tryz.func43, Tryz.ntmps43
    go_wp2
    go_ret
    exact ⟨by rw [Hr.out]; rfl, by repeat (first | exact Below.refl _ _ | refine bG ?_ _ | refine bI ?_ _ _ | refine bA ?_ _ | refine bD ?_ | refine bN ?_ _)⟩
  have b5 : (s.toList == [46, 46]) = false := by simpa using h5
  by_cases h6 : s.toList = [61, 61]
  · have hr : binW.contains s.toList = true := by rw [h6]; decide
    have Hr := hid hr
    clear hr
    have b6 : (s.toList == [61, 61]) = true := by rw [h6]; decide
    clear h6
    go_enter Tryz.func43, Tryz.ntmps43
    go_wp2
    go_ret
    exact ⟨by rw [Hr.out]; rfl, by repeat (first | exact Below.refl _ _ | refine bG ?_ _ | refine bI ?_ _ _ | refine bA ?_ _ | refine bD ?_ | refine bN ?_ _)⟩
  have b6 : (s.toList == [61, 61]) = false := by simpa using h6
  by_cases h7 : s.toList = [126, 61]
  · have hr : binW.contains s.toList = true := by rw [h7]; decide
    have Hr := hid hr
    clear hr
    have b7 : (s.toList == [126, 61]) = true := by rw [h7]; decide
    clear h7
    go_enter Tryz.func43, Tryz.ntmps43
    go_wp2
    go_ret
    exact ⟨by rw [Hr.out]; rfl, by repeat (first | exact Below.refl _ _ | refine bG ?_ _ | refine bI ?_ _ _ | refine bA ?_ _ | refine bD ?_ | refine bN ?_ _)⟩
  have b7 : (s.toList == [126, 61]) = false := by simpa using h7
  by_cases h8 : s.toList = [60]
  · have hr : binW.contains s.toList = true := by rw [h8]; decide
    have Hr := hid hr
    clear hr
    have b8 : (s.toList == [60]) = true := by rw [h8]; decide
    clear h8
    go_enter Tryz.func43, Tryz.ntmps43
    go_wp2
    go_ret
    exact ⟨by rw [Hr.out]; rfl, by repeat (first | exact Below.refl _ _ | refine bG ?_ _ | refine bI ?_ _ _ | refine bA ?_ _ | refine bD ?_ | refine bN ?_ _)⟩
  have b8 : (s.toList == [60]) = false := by simpa using h8
  by_cases h9 : s.toList = [60, 61]
  · have hr : binW.contains s.toList = true := by rw [h9]; decide
    have Hr := hid hr
    clear hr
    have b9 : (s.toList == [60, 61]) = true := by rw [h9]; decide
    clear h9
    go_enter Tryz.func43, Tryz.ntmps43
    go_wp2
    go_ret
    exact ⟨by rw [Hr.out]; rfl, by repeat (first | exact Below.refl _ _ | refine bG ?_ _ | refine bI ?_ _ _ | refine bA ?_ _ | refine bD ?_ | refine bN ?_ _)⟩
  have b9 : (s.toList == [60, 61]) = false := by simpa using h9
  by_cases h10 : s.toList = [62]
  · have hr : binW.contains s.toList = true := by rw [h10]; decide
    have Hr := hid hr
    clear hr
    have b10 : (s.toList == [62]) = true := by rw [h10]; decide
    clear h10
    go_enter Tryz.func43, Tryz.ntmps43
    go_wp2
    go_ret
    exact ⟨by rw [Hr.out]; rfl, by repeat (first | exact Below.refl _ _ | refine bG ?_ _ | refine bI ?_ _ _ | refine bA ?_ _ | refine bD ?_ | refine bN ?_ _)⟩
  have b10 : (s.toList == [62]) = false := by simpa using h10
  by_cases h11 : s.toList = [62, 61]
  · have hr : binW.contains s.toList = true := by rw [h11]; decide
    have Hr := hid hr
    clear hr
    have b11 : (s.toList == [62, 61]) = true := by rw [h11]; decide
    clear h11
    go_enter Tryz.func43, Tryz.ntmps43
    go_wp2
    go_ret
    exact ⟨by rw [Hr.out]; rfl, by repeat (first | exact Below.refl _ _ | refine bG ?_ _ | refine bI ?_ _ _ | refine bA ?_ _ | refine bD ?_ | refine bN ?_ _)⟩
  have b11 : (s.toList == [62, 61]) = false := by simpa using h11
  have hr : binW.contains s.toList = false := by simp [binW, h0, h1, h2, h3, h4, h5, h6, h7, h8, h9, h10, h11]
  have Hr := hid hr
  clear hr h0 h1 h2 h3 h4 h5 h6 h7 h8 h9 h10 h11
  go_enter Tryz.func43, Tryz.ntmps43
  go_wp2
  go_ret
  exact ⟨by rw [Hr.out]; rfl, by repeat (first | exact Below.refl _ _ | refine bG ?_ _ | refine bI ?_ _ _ | refine bA ?_ _ | refine bD ?_ | refine bN ?_ _)⟩
set_option maxHeartbeats 1000000 in
set_option maxRecDepth 10000 in
theorem text_28 (s : ByteArray) (hs : s.size ≤ 100000) (kp : Option Addr) (nk kc : Nat) (at1 : Int) (w : World) (hl : Lib0 w) :
    Calls Tryz.prog 43 #[.agg #[.int .i64 28, .string s, .slice kp nk kc, .int .i64 at1]] w fun e w' => e = .returned (.bool (textS 28 s.data.toList nk)) ∧ Below w.heap.size w w' := by
  show Calls _ _ _ _ fun e w' => e = .returned (.bool (unW.contains s.data.toList)) ∧ Below w.heap.size w w'
  rw [← ByteArray.toList_eq]
  clear hl
  by_cases h0 : s.toList = [45]
  · have hr : unW.contains s.toList = true := by rw [h0]; decide
    have Hr := hid hr
    clear hr
    have b0 : (s.toList == [45]) = true := by rw [h0]; decide
    clear h0
    go_enter Tryz.func43, Tryz.ntmps43
    go_wp2
    go_ret
    exact ⟨by rw [Hr.out]; rfl, by repeat (first | exact Below.refl _ _ | refine bG ?_ _ | refine bI ?_ _ _ | refine bA ?_ _ | refine bD ?_ | refine bN ?_ _)⟩
  have b0 : (s.toList == [45]) = false := by simpa using h0
  by_cases h1 : s.toList = [110, 111, 116]
  · have hr : unW.contains s.toList = true := by rw [h1]; decide
    have Hr := hid hr
    clear hr
    have b1 : (s.toList == [110, 111, 116]) = true := by rw [h1]; decide
    clear h1
    go_enter Tryz.func43, Tryz.ntmps43
    go_wp2
    go_ret
    exact ⟨by rw [Hr.out]; rfl, by repeat (first | exact Below.refl _ _ | refine bG ?_ _ | refine bI ?_ _ _ | refine bA ?_ _ | refine bD ?_ | refine bN ?_ _)⟩
  have b1 : (s.toList == [110, 111, 116]) = false := by simpa using h1
  by_cases h2 : s.toList = [35]
  · have hr : unW.contains s.toList = true := by rw [h2]; decide
    have Hr := hid hr
    clear hr
    have b2 : (s.toList == [35]) = true := by rw [h2]; decide
    clear h2
    go_enter Tryz.func43, Tryz.ntmps43
    go_wp2
    go_ret
    exact ⟨by rw [Hr.out]; rfl, by repeat (first | exact Below.refl _ _ | refine bG ?_ _ | refine bI ?_ _ _ | refine bA ?_ _ | refine bD ?_ | refine bN ?_ _)⟩
  have b2 : (s.toList == [35]) = false := by simpa using h2
  have hr : unW.contains s.toList = false := by simp [unW, h0, h1, h2]
  have Hr := hid hr
  clear hr h0 h1 h2
  go_enter Tryz.func43, Tryz.ntmps43
  go_wp2
  go_ret
  exact ⟨by rw [Hr.out]; rfl, by repeat (first | exact Below.refl _ _ | refine bG ?_ _ | refine bI ?_ _ _ | refine bA ?_ _ | refine bD ?_ | refine bN ?_ _)⟩
set_option maxHeartbeats 1000000 in
set_option maxRecDepth 10000 in
theorem text_29 (s : ByteArray) (hs : s.size ≤ 100000) (kp : Option Addr) (nk kc : Nat) (at1 : Int) (w : World) (hl : Lib0 w) :
    Calls Tryz.prog 43 #[.agg #[.int .i64 29, .string s, .slice kp nk kc, .int .i64 at1]] w fun e w' => e = .returned (.bool (textS 29 s.data.toList nk)) ∧ Below w.heap.size w w' := by
  show Calls _ _ _ _ fun e w' => e = .returned (.bool s.data.toList.isEmpty) ∧ Below w.heap.size w w'
  rw [← ByteArray.toList_eq]
  clear hl
  cases h : s.toList.isEmpty
  · have h2 : (s.toList == []) = false := by cases e : s.toList with
      | nil => rw [e] at h; cases h
      | cons x l => rfl
    go_enter Tryz.func43, Tryz.ntmps43
    go_wp2
    go_ret
    exact ⟨rfl, by repeat (first | exact Below.refl _ _ | refine bG ?_ _ | refine bI ?_ _ _ | refine bA ?_ _ | refine bD ?_ | refine bN ?_ _)⟩
  · have h2 : (s.toList == []) = true := by cases e : s.toList with
      | nil => rfl
      | cons x l => rw [e] at h; cases h
    go_enter Tryz.func43, Tryz.ntmps43
    go_wp2
    go_ret
    exact ⟨rfl, by repeat (first | exact Below.refl _ _ | refine bG ?_ _ | refine bI ?_ _ _ | refine bA ?_ _ | refine bD ?_ | refine bN ?_ _)⟩
set_option maxHeartbeats 1000000 in
set_option maxRecDepth 10000 in
theorem text_30 (s : ByteArray) (hs : s.size ≤ 100000) (kp : Option Addr) (nk kc : Nat) (at1 : Int) (w : World) (hl : Lib0 w) :
    Calls Tryz.prog 43 #[.agg #[.int .i64 30, .string s, .slice kp nk kc, .int .i64 at1]] w fun e w' => e = .returned (.bool (textS 30 s.data.toList nk)) ∧ Below w.heap.size w w' := by
  show Calls _ _ _ _ fun e w' => e = .returned (.bool s.data.toList.isEmpty) ∧ Below w.heap.size w w'
  rw [← ByteArray.toList_eq]
  clear hl
  cases h : s.toList.isEmpty
  · have h2 : (s.toList == []) = false := by cases e : s.toList with
      | nil => rw [e] at h; cases h
      | cons x l => rfl
    go_enter Tryz.func43, Tryz.ntmps43
    go_wp2
    go_ret
    exact ⟨rfl, by repeat (first | exact Below.refl _ _ | refine bG ?_ _ | refine bI ?_ _ _ | refine bA ?_ _ | refine bD ?_ | refine bN ?_ _)⟩
  · have h2 : (s.toList == []) = true := by cases e : s.toList with
      | nil => rfl
      | cons x l => rw [e] at h; cases h
    go_enter Tryz.func43, Tryz.ntmps43
    go_wp2
    go_ret
    exact ⟨rfl, by repeat (first | exact Below.refl _ _ | refine bG ?_ _ | refine bI ?_ _ _ | refine bA ?_ _ | refine bD ?_ | refine bN ?_ _)⟩
set_option maxHeartbeats 1000000 in
set_option maxRecDepth 10000 in
theorem text_31 (s : ByteArray) (hs : s.size ≤ 100000) (kp : Option Addr) (nk kc : Nat) (at1 : Int) (w : World) (hl : Lib0 w) :
    Calls Tryz.prog 43 #[.agg #[.int .i64 31, .string s, .slice kp nk kc, .int .i64 at1]] w fun e w' => e = .returned (.bool (textS 31 s.data.toList nk)) ∧ Below w.heap.size w w' := by
  show Calls _ _ _ _ fun e w' => e = .returned (.bool (tnameW.contains s.data.toList)) ∧ Below w.heap.size w w'
  have H1 : Hid (∀ w', Below w.heap.size w w' → Calls Tryz.prog 76 #[.string s] w' fun e w2 => e = .returned (.bool (tnameW.contains s.data.toList)) ∧ Below w'.heap.size w' w2) := hid fun w' h => base_any s w'
  clear hl
  generalize tnameW.contains s.data.toList = x at *
  go_enter Tryz.func43, Tryz.ntmps43
  go_wp2_with (first
    | (go_at_call 76; ((with_reducible refine (H1.out _ ?_).mono ?_)); rotate_left; rintro e w' ⟨rfl, hb⟩; obtain ⟨g1, rfl⟩ := bout hb; clear hb))
  all_goals first
    | (go_ret; exact ⟨rfl, by repeat (first | exact Below.refl _ _ | refine bG ?_ _ | refine bI ?_ _ _ | refine bA ?_ _ | refine bD ?_ | refine bN ?_ _)⟩)
    | exact by repeat (first | exact Below.refl _ _ | refine bG ?_ _ | refine bI ?_ _ _ | refine bA ?_ _ | refine bD ?_ | refine bN ?_ _)
set_option maxHeartbeats 1000000 in
set_option maxRecDepth 10000 in
theorem text_32 (s : ByteArray) (hs : s.size ≤ 100000) (kp : Option Addr) (nk kc : Nat) (at1 : Int) (w : World) (hl : Lib0 w) :
    Calls Tryz.prog 43 #[.agg #[.int .i64 32, .string s, .slice kp nk kc, .int .i64 at1]] w fun e w' => e = .returned (.bool (textS 32 s.data.toList nk)) ∧ Below w.heap.size w w' := by
  show Calls _ _ _ _ fun e w' => e = .returned (.bool s.data.toList.isEmpty) ∧ Below w.heap.size w w'
  rw [← ByteArray.toList_eq]
  clear hl
  cases h : s.toList.isEmpty
  · have h2 : (s.toList == []) = false := by cases e : s.toList with
      | nil => rw [e] at h; cases h
      | cons x l => rfl
    go_enter Tryz.func43, Tryz.ntmps43
    go_wp2
    go_ret
    exact ⟨rfl, by repeat (first | exact Below.refl _ _ | refine bG ?_ _ | refine bI ?_ _ _ | refine bA ?_ _ | refine bD ?_ | refine bN ?_ _)⟩
  · have h2 : (s.toList == []) = true := by cases e : s.toList with
      | nil => rfl
      | cons x l => rw [e] at h; cases h
    go_enter Tryz.func43, Tryz.ntmps43
    go_wp2
    go_ret
    exact ⟨rfl, by repeat (first | exact Below.refl _ _ | refine bG ?_ _ | refine bI ?_ _ _ | refine bA ?_ _ | refine bD ?_ | refine bN ?_ _)⟩
set_option maxHeartbeats 1000000 in
set_option maxRecDepth 10000 in
theorem text_33 (s : ByteArray) (hs : s.size ≤ 100000) (kp : Option Addr) (nk kc : Nat) (at1 : Int) (w : World) (hl : Lib0 w) :
    Calls Tryz.prog 43 #[.agg #[.int .i64 33, .string s, .slice kp nk kc, .int .i64 at1]] w fun e w' => e = .returned (.bool (textS 33 s.data.toList nk)) ∧ Below w.heap.size w w' := by
  show Calls _ _ _ _ fun e w' => e = .returned (.bool (nameS s.data.toList)) ∧ Below w.heap.size w w'
  have H1 : Hid (∀ w', Below w.heap.size w w' → Calls Tryz.prog 70 #[.string s] w' fun e w2 => e = .returned (.bool (nameS s.data.toList)) ∧ Below w'.heap.size w' w2) := hid fun w' h => rname_any s (by omega) w'
  clear hl
  generalize nameS s.data.toList = x at *
  go_enter Tryz.func43, Tryz.ntmps43
  go_wp2_with (first
    | (go_at_call 70; ((with_reducible refine (H1.out _ ?_).mono ?_)); rotate_left; rintro e w' ⟨rfl, hb⟩; obtain ⟨g1, rfl⟩ := bout hb; clear hb))
  all_goals first
    | (go_ret; exact ⟨rfl, by repeat (first | exact Below.refl _ _ | refine bG ?_ _ | refine bI ?_ _ _ | refine bA ?_ _ | refine bD ?_ | refine bN ?_ _)⟩)
    | exact by repeat (first | exact Below.refl _ _ | refine bG ?_ _ | refine bI ?_ _ _ | refine bA ?_ _ | refine bD ?_ | refine bN ?_ _)
set_option maxHeartbeats 1000000 in
set_option maxRecDepth 10000 in
theorem text_34 (s : ByteArray) (hs : s.size ≤ 100000) (kp : Option Addr) (nk kc : Nat) (at1 : Int) (w : World) (hl : Lib0 w) :
    Calls Tryz.prog 43 #[.agg #[.int .i64 34, .string s, .slice kp nk kc, .int .i64 at1]] w fun e w' => e = .returned (.bool (textS 34 s.data.toList nk)) ∧ Below w.heap.size w w' := by
  show Calls _ _ _ _ fun e w' => e = .returned (.bool s.data.toList.isEmpty) ∧ Below w.heap.size w w'
  rw [← ByteArray.toList_eq]
  clear hl
  cases h : s.toList.isEmpty
  · have h2 : (s.toList == []) = false := by cases e : s.toList with
      | nil => rw [e] at h; cases h
      | cons x l => rfl
    go_enter Tryz.func43, Tryz.ntmps43
    go_wp2
    go_ret
    exact ⟨rfl, by repeat (first | exact Below.refl _ _ | refine bG ?_ _ | refine bI ?_ _ _ | refine bA ?_ _ | refine bD ?_ | refine bN ?_ _)⟩
  · have h2 : (s.toList == []) = true := by cases e : s.toList with
      | nil => rfl
      | cons x l => rw [e] at h; cases h
    go_enter Tryz.func43, Tryz.ntmps43
    go_wp2
    go_ret
    exact ⟨rfl, by repeat (first | exact Below.refl _ _ | refine bG ?_ _ | refine bI ?_ _ _ | refine bA ?_ _ | refine bD ?_ | refine bN ?_ _)⟩
set_option maxHeartbeats 1000000 in
set_option maxRecDepth 10000 in
theorem text_35 (s : ByteArray) (hs : s.size ≤ 100000) (kp : Option Addr) (nk kc : Nat) (at1 : Int) (w : World) (hl : Lib0 w) :
    Calls Tryz.prog 43 #[.agg #[.int .i64 35, .string s, .slice kp nk kc, .int .i64 at1]] w fun e w' => e = .returned (.bool (textS 35 s.data.toList nk)) ∧ Below w.heap.size w w' := by
  show Calls _ _ _ _ fun e w' => e = .returned (.bool s.data.toList.isEmpty) ∧ Below w.heap.size w w'
  rw [← ByteArray.toList_eq]
  clear hl
  cases h : s.toList.isEmpty
  · have h2 : (s.toList == []) = false := by cases e : s.toList with
      | nil => rw [e] at h; cases h
      | cons x l => rfl
    go_enter Tryz.func43, Tryz.ntmps43
    go_wp2
    go_ret
    exact ⟨rfl, by repeat (first | exact Below.refl _ _ | refine bG ?_ _ | refine bI ?_ _ _ | refine bA ?_ _ | refine bD ?_ | refine bN ?_ _)⟩
  · have h2 : (s.toList == []) = true := by cases e : s.toList with
      | nil => rfl
      | cons x l => rw [e] at h; cases h
    go_enter Tryz.func43, Tryz.ntmps43
    go_wp2
    go_ret
    exact ⟨rfl, by repeat (first | exact Below.refl _ _ | refine bG ?_ _ | refine bI ?_ _ _ | refine bA ?_ _ | refine bD ?_ | refine bN ?_ _)⟩
set_option maxHeartbeats 1000000 in
set_option maxRecDepth 10000 in
theorem text_36 (s : ByteArray) (hs : s.size ≤ 100000) (kp : Option Addr) (nk kc : Nat) (at1 : Int) (w : World) (hl : Lib0 w) :
    Calls Tryz.prog 43 #[.agg #[.int .i64 36, .string s, .slice kp nk kc, .int .i64 at1]] w fun e w' => e = .returned (.bool (textS 36 s.data.toList nk)) ∧ Below w.heap.size w w' := by
  show Calls _ _ _ _ fun e w' => e = .returned (.bool (maskS s.data.toList)) ∧ Below w.heap.size w w'
  have H1 : Hid (∀ w', Below w.heap.size w w' → Calls Tryz.prog 73 #[.string s] w' (MaskPost (maskS s.data.toList) w')) := hid fun w' h => rmask_any s hs w' (hl.later h)
  clear hl
  generalize maskS s.data.toList = x at *
  go_enter Tryz.func43, Tryz.ntmps43
  go_wp2_with (first
    | (go_at_call 73; ((with_reducible refine (H1.out _ ?_).mono ?_)); rotate_left; rintro e w' ⟨⟨z, rfl⟩, hb⟩; obtain ⟨g1, rfl⟩ := bout hb; clear hb))
  all_goals first
    | (go_ret; exact ⟨rfl, by repeat (first | exact Below.refl _ _ | refine bG ?_ _ | refine bI ?_ _ _ | refine bA ?_ _ | refine bD ?_ | refine bN ?_ _)⟩)
    | exact by repeat (first | exact Below.refl _ _ | refine bG ?_ _ | refine bI ?_ _ _ | refine bA ?_ _ | refine bD ?_ | refine bN ?_ _)
end Go.Proofs.YtbgjanmheagilaaGreatDoor

/- The texts of numbers, walked. Conditions: the library's variables; short texts. -/
namespace Go.Proofs.YtbgjanmheagilaaGreatDoor
open Go Go.RowKit
set_option linter.unusedVariables false
set_option linter.unusedSimpArgs false
set_option maxHeartbeats 1000000 in
set_option maxRecDepth 10000 in
theorem text_15 (s : ByteArray) (hs : s.size ≤ 100000) (kp : Option Addr) (nk kc : Nat) (at1 : Int) (w : World) (hl : Lib0 w) :
    Calls Tryz.prog 43 #[.agg #[.int .i64 15, .string s, .slice kp nk kc, .int .i64 at1]] w fun e w' => e = .returned (.bool (textS 15 s.data.toList nk)) ∧ Below w.heap.size w w' := by
  show Calls _ _ _ _ fun e w' => e = .returned (.bool (intS s.data.toList)) ∧ Below w.heap.size w w'
  have Hnum : Hid (∀ w, Calls Tryz.prog 74 #[.string s] w fun e w' => e = .returned (numV (numS s.data.toList)) ∧ Below w.heap.size w w') := hid (fun w => rnumber_any s (by omega) w)
  have HL : Hid (∀ w', Below w.heap.size w w' → Lib0 w') := hid fun w' h => hl.later h
  clear hl
  cases ho : numS s.data.toList with
  | none =>
    have Hnum2 : Hid (∀ w, Calls Tryz.prog 74 #[.string s] w fun e w' => e = .returned (.tuple #[.int .i64 0, .bool false]) ∧ Below w.heap.size w w') := by rw [ho] at Hnum; exact Hnum
    have Hr : Hid (intS s.data.toList = false) := hid (by unfold intS; rw [ho])
    clear Hnum ho
    go_enter Tryz.func43, Tryz.ntmps43
    go_wp2_with (go_at_call 74; ((with_reducible refine (Hnum2.out _).mono ?_)); rintro e w' ⟨rfl, hb⟩; obtain ⟨g1, rfl⟩ := bout hb; clear hb)
    go_quiet (fail)
    go_wp2
    go_ret
    exact ⟨by rw [Hr.out]; rfl, by repeat (first | exact Below.refl _ _ | refine bG ?_ _ | refine bI ?_ _ _ | refine bA ?_ _ | refine bD ?_ | refine bN ?_ _)⟩
  | some n =>
    have Hnum2 : Hid (∀ w, Calls Tryz.prog 74 #[.string s] w fun e w' => e = .returned (.tuple #[.int .i64 (wrap64 n), .bool true]) ∧ Below w.heap.size w w') := by rw [ho] at Hnum; exact Hnum
    have hr : intS s.data.toList = decide (Lib.itoa (wrap64 n) = s.data.toList) := by unfold intS; rw [ho]
    have z0 := wrap64_lo (n : Int)
    have z1 := wrap64_hi (n : Int)
    have hneg : wrap64 (n : Int) < 0 → intS s.data.toList = false := fun h => by
      rw [hr, decide_eq_false_iff_not]
      intro e
      rw [itoa_ng h] at e
      rw [← e, numS_45] at ho
      cases ho
    clear Hnum ho
    generalize wrap64 (n : Int) = z at *
    by_cases hz : z < 0
    · have Hr := hid (hneg hz)
      have hz3 : decide (0 ≤ z) = false := decide_eq_false (by omega)
      clear hneg hr z0 z1 hz
      go_enter Tryz.func43, Tryz.ntmps43
      go_wp2_with (go_at_call 74; ((with_reducible refine (Hnum2.out _).mono ?_)); rintro e w' ⟨rfl, hb⟩; obtain ⟨g1, rfl⟩ := bout hb; clear hb)
      go_quiet (fail)
      go_wp2
      go_ret
      exact ⟨by rw [Hr.out]; rfl, by repeat (first | exact Below.refl _ _ | refine bG ?_ _ | refine bI ?_ _ _ | refine bA ?_ _ | refine bD ?_ | refine bN ?_ _)⟩
    have hz0 : decide (0 ≤ z) = true := decide_eq_true (by omega)
    clear hneg hz
    obtain ⟨S1, hS1⟩ : ∃ S : ByteArray, S = ⟨(Lib.itoa z).toArray⟩ := ⟨_, rfl⟩
    have H1 : Hid (∀ w, Lib0 w → Calls Tryz.prog 75 #[.int .i64 z] w fun e w' => e = .returned (.string S1) ∧ Below w.heap.size w w') := hid (by rw [hS1]; exact fun w h => rshow_any z z0 z1 w h)
    have e1 : decide (Lib.itoa z = s.data.toList) = (S1.toList == s.toList) := by
      rw [ByteArray.toList_eq, ByteArray.toList_eq, hS1]; exact (Bool.beq_eq_decide_eq _ _).symm
    rw [e1] at hr
    have Hr := hid hr
    clear hr hS1 z0 z1 e1
    go_enter Tryz.func43, Tryz.ntmps43
    go_wp2_with (go_at_call 74; ((with_reducible refine (Hnum2.out _).mono ?_)); rintro e w' ⟨rfl, hb⟩; obtain ⟨g1, rfl⟩ := bout hb; clear hb)
    go_region_held3 (fun w' => w'.cell? ⟨w.heap.size, 1, none⟩ = some (.string s) ∧ Lib0 w')
      ((go_split_ands; (try refine ⟨?_, ?_⟩) <;> first | exact HL.out _ (by repeat (first | exact Below.refl _ _ | refine bG ?_ _ | refine bI ?_ _ _ | refine bA ?_ _ | refine bD ?_ | refine bN ?_ _)) | exact Lib0.later (by assumption) (below_grow _ _) | assumption | (simp [go_sem]; done) | (simp [go_sem, *]; done)))
      (first | (go_at_call 75; go_split_ands; ((with_reducible refine (H1.out _ (by assumption)).mono ?_)); rintro e w' ⟨rfl, hb⟩; obtain ⟨g2, rfl⟩ := bout hb; clear hb))
    go_wp2
    all_goals (go_ret; exact ⟨by rw [Hr.out]; rfl, by repeat (first | exact Below.refl _ _ | refine bG ?_ _ | refine bI ?_ _ _ | refine bA ?_ _ | refine bD ?_ | refine bN ?_ _)⟩)
end Go.Proofs.YtbgjanmheagilaaGreatDoor
