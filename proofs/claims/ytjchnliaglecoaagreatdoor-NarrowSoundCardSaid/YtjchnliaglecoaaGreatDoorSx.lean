/- The texts of nodes, walked (says). Conditions: the library's variables; short texts. -/
import Derived.Deep.RegionHeld3
import Derived.Test.YtjchnliaglecoaaGreatDoorCh
set_option linter.unusedVariables false
set_option linter.unusedSimpArgs false
namespace Go.Proofs.YtjchnliaglecoaaGreatDoor
open Go Go.RowKit
set_option linter.unusedVariables false
set_option linter.unusedSimpArgs false
/-- A number as it is shown. -/
def intS (l : List UInt8) : Bool := match numS l with
  | none => false
  | some n => decide (Lib.itoa (wrap64 n) = l)
/-- A channel's text. -/
def chanS (l : List UInt8) : Bool := match l with
  | c :: 32 :: m => chan1 [c] && maskS m
  | _ => false
/-- Whether a node's text is as its kind wants it. -/
def textS (k : Nat) (l : List UInt8) (nk : Nat) : Bool :=
  if k = 4 ∨ k = 5 ∨ k = 17 ∨ k = 23 then nameS l && decide (bn l < 0) else if k = 18 ∨ k = 25 ∨ k = 33 then nameS l else if k = 16 then true else if k = 14 then boolW.contains l
  else if k = 15 then intS l else if k = 31 then tnameW.contains l else if k = 28 then unW.contains l else if k = 27 then binW.contains l else if k = 21 then decide (bn l = (nk : Int))
  else if k = 36 then maskS l else if k = 2 then chanS l else l.isEmpty
set_option maxHeartbeats 1000000 in
set_option maxRecDepth 10000 in
theorem says_1 (s : ByteArray) (hs : s.size ≤ 100000) (kp : Option Addr) (nk kc : Nat) (at1 : Int) (w : World) (hl : Lib0 w) :
    Calls Tryz.prog 141 #[.agg #[.int .i64 1, .string s, .slice kp nk kc, .int .i64 at1]] w fun e w' => e = .returned (.bool (textS 1 s.data.toList nk)) ∧ Below w.heap.size w w' := by
  show Calls _ _ _ _ fun e w' => e = .returned (.bool s.data.toList.isEmpty) ∧ Below w.heap.size w w'
  rw [← ByteArray.toList_eq]
  clear hl
  cases h : s.toList.isEmpty
  · have h2 : (s.toList == []) = false := by cases e : s.toList with
      | nil => rw [e] at h; cases h
      | cons x l => rfl
    go_enter Tryz.func141, Tryz.ntmps141
    go_wp2
    go_ret
    exact ⟨rfl, by repeat (first | exact Below.refl _ _ | refine bG ?_ _ | refine bI ?_ _ _ | refine bA ?_ _ | refine bD ?_ | refine bN ?_ _)⟩
  · have h2 : (s.toList == []) = true := by cases e : s.toList with
      | nil => rfl
      | cons x l => rw [e] at h; cases h
    go_enter Tryz.func141, Tryz.ntmps141
    go_wp2
    go_ret
    exact ⟨rfl, by repeat (first | exact Below.refl _ _ | refine bG ?_ _ | refine bI ?_ _ _ | refine bA ?_ _ | refine bD ?_ | refine bN ?_ _)⟩
set_option maxHeartbeats 1000000 in
set_option maxRecDepth 10000 in
theorem says_3 (s : ByteArray) (hs : s.size ≤ 100000) (kp : Option Addr) (nk kc : Nat) (at1 : Int) (w : World) (hl : Lib0 w) :
    Calls Tryz.prog 141 #[.agg #[.int .i64 3, .string s, .slice kp nk kc, .int .i64 at1]] w fun e w' => e = .returned (.bool (textS 3 s.data.toList nk)) ∧ Below w.heap.size w w' := by
  show Calls _ _ _ _ fun e w' => e = .returned (.bool s.data.toList.isEmpty) ∧ Below w.heap.size w w'
  rw [← ByteArray.toList_eq]
  clear hl
  cases h : s.toList.isEmpty
  · have h2 : (s.toList == []) = false := by cases e : s.toList with
      | nil => rw [e] at h; cases h
      | cons x l => rfl
    go_enter Tryz.func141, Tryz.ntmps141
    go_wp2
    go_ret
    exact ⟨rfl, by repeat (first | exact Below.refl _ _ | refine bG ?_ _ | refine bI ?_ _ _ | refine bA ?_ _ | refine bD ?_ | refine bN ?_ _)⟩
  · have h2 : (s.toList == []) = true := by cases e : s.toList with
      | nil => rfl
      | cons x l => rw [e] at h; cases h
    go_enter Tryz.func141, Tryz.ntmps141
    go_wp2
    go_ret
    exact ⟨rfl, by repeat (first | exact Below.refl _ _ | refine bG ?_ _ | refine bI ?_ _ _ | refine bA ?_ _ | refine bD ?_ | refine bN ?_ _)⟩
set_option maxHeartbeats 1000000 in
set_option maxRecDepth 10000 in
theorem says_4 (s : ByteArray) (hs : s.size ≤ 100000) (kp : Option Addr) (nk kc : Nat) (at1 : Int) (w : World) (hl : Lib0 w) :
    Calls Tryz.prog 141 #[.agg #[.int .i64 4, .string s, .slice kp nk kc, .int .i64 at1]] w fun e w' => e = .returned (.bool (textS 4 s.data.toList nk)) ∧ Below w.heap.size w w' := by
  show Calls _ _ _ _ fun e w' => e = .returned (.bool (nameS s.data.toList && decide (bn s.data.toList < 0))) ∧ Below w.heap.size w w'
  have H1 : Hid (∀ w', Below w.heap.size w w' → Calls Tryz.prog 134 #[.string s] w' fun e w2 => e = .returned (.bool (nameS s.data.toList)) ∧ Below w'.heap.size w' w2) := hid fun w' h => name_any s (by omega) w' (hl.later h)
  have H2 : Hid (∀ w', Below w.heap.size w w' → Calls Tryz.prog 181 #[.string s] w' fun e w2 => e = .returned (.int .i64 (bn s.data.toList)) ∧ Below w'.heap.size w' w2) := hid fun w' h => by
    have := builtin_18 s w'
    rwa [ByteArray.toList_eq] at this
  clear hl
  generalize nameS s.data.toList = x at *
  generalize bn s.data.toList = n at *
  cases x
  all_goals
    go_enter Tryz.func141, Tryz.ntmps141
    go_wp2_with (first
      | (go_at_call 134; ((with_reducible refine (H1.out _ ?_).mono ?_)); rotate_left; rintro e w' ⟨rfl, hb⟩; obtain ⟨g1, rfl⟩ := bout hb; clear hb)
      | (go_at_call 181; ((with_reducible refine (H2.out _ ?_).mono ?_)); rotate_left; rintro e w' ⟨rfl, hb⟩; obtain ⟨g1, rfl⟩ := bout hb; clear hb))
    all_goals first
      | (go_ret; exact ⟨rfl, by repeat (first | exact Below.refl _ _ | refine bG ?_ _ | refine bI ?_ _ _ | refine bA ?_ _ | refine bD ?_ | refine bN ?_ _)⟩)
      | exact by repeat (first | exact Below.refl _ _ | refine bG ?_ _ | refine bI ?_ _ _ | refine bA ?_ _ | refine bD ?_ | refine bN ?_ _)
set_option maxHeartbeats 1000000 in
set_option maxRecDepth 10000 in
theorem says_5 (s : ByteArray) (hs : s.size ≤ 100000) (kp : Option Addr) (nk kc : Nat) (at1 : Int) (w : World) (hl : Lib0 w) :
    Calls Tryz.prog 141 #[.agg #[.int .i64 5, .string s, .slice kp nk kc, .int .i64 at1]] w fun e w' => e = .returned (.bool (textS 5 s.data.toList nk)) ∧ Below w.heap.size w w' := by
  show Calls _ _ _ _ fun e w' => e = .returned (.bool (nameS s.data.toList && decide (bn s.data.toList < 0))) ∧ Below w.heap.size w w'
  have H1 : Hid (∀ w', Below w.heap.size w w' → Calls Tryz.prog 134 #[.string s] w' fun e w2 => e = .returned (.bool (nameS s.data.toList)) ∧ Below w'.heap.size w' w2) := hid fun w' h => name_any s (by omega) w' (hl.later h)
  have H2 : Hid (∀ w', Below w.heap.size w w' → Calls Tryz.prog 181 #[.string s] w' fun e w2 => e = .returned (.int .i64 (bn s.data.toList)) ∧ Below w'.heap.size w' w2) := hid fun w' h => by
    have := builtin_18 s w'
    rwa [ByteArray.toList_eq] at this
  clear hl
  generalize nameS s.data.toList = x at *
  generalize bn s.data.toList = n at *
  cases x
  all_goals
    go_enter Tryz.func141, Tryz.ntmps141
    go_wp2_with (first
      | (go_at_call 134; ((with_reducible refine (H1.out _ ?_).mono ?_)); rotate_left; rintro e w' ⟨rfl, hb⟩; obtain ⟨g1, rfl⟩ := bout hb; clear hb)
      | (go_at_call 181; ((with_reducible refine (H2.out _ ?_).mono ?_)); rotate_left; rintro e w' ⟨rfl, hb⟩; obtain ⟨g1, rfl⟩ := bout hb; clear hb))
    all_goals first
      | (go_ret; exact ⟨rfl, by repeat (first | exact Below.refl _ _ | refine bG ?_ _ | refine bI ?_ _ _ | refine bA ?_ _ | refine bD ?_ | refine bN ?_ _)⟩)
      | exact by repeat (first | exact Below.refl _ _ | refine bG ?_ _ | refine bI ?_ _ _ | refine bA ?_ _ | refine bD ?_ | refine bN ?_ _)
set_option maxHeartbeats 1000000 in
set_option maxRecDepth 10000 in
theorem says_6 (s : ByteArray) (hs : s.size ≤ 100000) (kp : Option Addr) (nk kc : Nat) (at1 : Int) (w : World) (hl : Lib0 w) :
    Calls Tryz.prog 141 #[.agg #[.int .i64 6, .string s, .slice kp nk kc, .int .i64 at1]] w fun e w' => e = .returned (.bool (textS 6 s.data.toList nk)) ∧ Below w.heap.size w w' := by
  show Calls _ _ _ _ fun e w' => e = .returned (.bool s.data.toList.isEmpty) ∧ Below w.heap.size w w'
  rw [← ByteArray.toList_eq]
  clear hl
  cases h : s.toList.isEmpty
  · have h2 : (s.toList == []) = false := by cases e : s.toList with
      | nil => rw [e] at h; cases h
      | cons x l => rfl
    go_enter Tryz.func141, Tryz.ntmps141
    go_wp2
    go_ret
    exact ⟨rfl, by repeat (first | exact Below.refl _ _ | refine bG ?_ _ | refine bI ?_ _ _ | refine bA ?_ _ | refine bD ?_ | refine bN ?_ _)⟩
  · have h2 : (s.toList == []) = true := by cases e : s.toList with
      | nil => rfl
      | cons x l => rw [e] at h; cases h
    go_enter Tryz.func141, Tryz.ntmps141
    go_wp2
    go_ret
    exact ⟨rfl, by repeat (first | exact Below.refl _ _ | refine bG ?_ _ | refine bI ?_ _ _ | refine bA ?_ _ | refine bD ?_ | refine bN ?_ _)⟩
set_option maxHeartbeats 1000000 in
set_option maxRecDepth 10000 in
theorem says_7 (s : ByteArray) (hs : s.size ≤ 100000) (kp : Option Addr) (nk kc : Nat) (at1 : Int) (w : World) (hl : Lib0 w) :
    Calls Tryz.prog 141 #[.agg #[.int .i64 7, .string s, .slice kp nk kc, .int .i64 at1]] w fun e w' => e = .returned (.bool (textS 7 s.data.toList nk)) ∧ Below w.heap.size w w' := by
  show Calls _ _ _ _ fun e w' => e = .returned (.bool s.data.toList.isEmpty) ∧ Below w.heap.size w w'
  rw [← ByteArray.toList_eq]
  clear hl
  cases h : s.toList.isEmpty
  · have h2 : (s.toList == []) = false := by cases e : s.toList with
      | nil => rw [e] at h; cases h
      | cons x l => rfl
    go_enter Tryz.func141, Tryz.ntmps141
    go_wp2
    go_ret
    exact ⟨rfl, by repeat (first | exact Below.refl _ _ | refine bG ?_ _ | refine bI ?_ _ _ | refine bA ?_ _ | refine bD ?_ | refine bN ?_ _)⟩
  · have h2 : (s.toList == []) = true := by cases e : s.toList with
      | nil => rfl
      | cons x l => rw [e] at h; cases h
    go_enter Tryz.func141, Tryz.ntmps141
    go_wp2
    go_ret
    exact ⟨rfl, by repeat (first | exact Below.refl _ _ | refine bG ?_ _ | refine bI ?_ _ _ | refine bA ?_ _ | refine bD ?_ | refine bN ?_ _)⟩
set_option maxHeartbeats 1000000 in
set_option maxRecDepth 10000 in
theorem says_8 (s : ByteArray) (hs : s.size ≤ 100000) (kp : Option Addr) (nk kc : Nat) (at1 : Int) (w : World) (hl : Lib0 w) :
    Calls Tryz.prog 141 #[.agg #[.int .i64 8, .string s, .slice kp nk kc, .int .i64 at1]] w fun e w' => e = .returned (.bool (textS 8 s.data.toList nk)) ∧ Below w.heap.size w w' := by
  show Calls _ _ _ _ fun e w' => e = .returned (.bool s.data.toList.isEmpty) ∧ Below w.heap.size w w'
  rw [← ByteArray.toList_eq]
  clear hl
  cases h : s.toList.isEmpty
  · have h2 : (s.toList == []) = false := by cases e : s.toList with
      | nil => rw [e] at h; cases h
      | cons x l => rfl
    go_enter Tryz.func141, Tryz.ntmps141
    go_wp2
    go_ret
    exact ⟨rfl, by repeat (first | exact Below.refl _ _ | refine bG ?_ _ | refine bI ?_ _ _ | refine bA ?_ _ | refine bD ?_ | refine bN ?_ _)⟩
  · have h2 : (s.toList == []) = true := by cases e : s.toList with
      | nil => rfl
      | cons x l => rw [e] at h; cases h
    go_enter Tryz.func141, Tryz.ntmps141
    go_wp2
    go_ret
    exact ⟨rfl, by repeat (first | exact Below.refl _ _ | refine bG ?_ _ | refine bI ?_ _ _ | refine bA ?_ _ | refine bD ?_ | refine bN ?_ _)⟩
set_option maxHeartbeats 1000000 in
set_option maxRecDepth 10000 in
theorem says_9 (s : ByteArray) (hs : s.size ≤ 100000) (kp : Option Addr) (nk kc : Nat) (at1 : Int) (w : World) (hl : Lib0 w) :
    Calls Tryz.prog 141 #[.agg #[.int .i64 9, .string s, .slice kp nk kc, .int .i64 at1]] w fun e w' => e = .returned (.bool (textS 9 s.data.toList nk)) ∧ Below w.heap.size w w' := by
  show Calls _ _ _ _ fun e w' => e = .returned (.bool s.data.toList.isEmpty) ∧ Below w.heap.size w w'
  rw [← ByteArray.toList_eq]
  clear hl
  cases h : s.toList.isEmpty
  · have h2 : (s.toList == []) = false := by cases e : s.toList with
      | nil => rw [e] at h; cases h
      | cons x l => rfl
    go_enter Tryz.func141, Tryz.ntmps141
    go_wp2
    go_ret
    exact ⟨rfl, by repeat (first | exact Below.refl _ _ | refine bG ?_ _ | refine bI ?_ _ _ | refine bA ?_ _ | refine bD ?_ | refine bN ?_ _)⟩
  · have h2 : (s.toList == []) = true := by cases e : s.toList with
      | nil => rfl
      | cons x l => rw [e] at h; cases h
    go_enter Tryz.func141, Tryz.ntmps141
    go_wp2
    go_ret
    exact ⟨rfl, by repeat (first | exact Below.refl _ _ | refine bG ?_ _ | refine bI ?_ _ _ | refine bA ?_ _ | refine bD ?_ | refine bN ?_ _)⟩
set_option maxHeartbeats 1000000 in
set_option maxRecDepth 10000 in
theorem says_10 (s : ByteArray) (hs : s.size ≤ 100000) (kp : Option Addr) (nk kc : Nat) (at1 : Int) (w : World) (hl : Lib0 w) :
    Calls Tryz.prog 141 #[.agg #[.int .i64 10, .string s, .slice kp nk kc, .int .i64 at1]] w fun e w' => e = .returned (.bool (textS 10 s.data.toList nk)) ∧ Below w.heap.size w w' := by
  show Calls _ _ _ _ fun e w' => e = .returned (.bool s.data.toList.isEmpty) ∧ Below w.heap.size w w'
  rw [← ByteArray.toList_eq]
  clear hl
  cases h : s.toList.isEmpty
  · have h2 : (s.toList == []) = false := by cases e : s.toList with
      | nil => rw [e] at h; cases h
      | cons x l => rfl
    go_enter Tryz.func141, Tryz.ntmps141
    go_wp2
    go_ret
    exact ⟨rfl, by repeat (first | exact Below.refl _ _ | refine bG ?_ _ | refine bI ?_ _ _ | refine bA ?_ _ | refine bD ?_ | refine bN ?_ _)⟩
  · have h2 : (s.toList == []) = true := by cases e : s.toList with
      | nil => rfl
      | cons x l => rw [e] at h; cases h
    go_enter Tryz.func141, Tryz.ntmps141
    go_wp2
    go_ret
    exact ⟨rfl, by repeat (first | exact Below.refl _ _ | refine bG ?_ _ | refine bI ?_ _ _ | refine bA ?_ _ | refine bD ?_ | refine bN ?_ _)⟩
set_option maxHeartbeats 1000000 in
set_option maxRecDepth 10000 in
theorem says_11 (s : ByteArray) (hs : s.size ≤ 100000) (kp : Option Addr) (nk kc : Nat) (at1 : Int) (w : World) (hl : Lib0 w) :
    Calls Tryz.prog 141 #[.agg #[.int .i64 11, .string s, .slice kp nk kc, .int .i64 at1]] w fun e w' => e = .returned (.bool (textS 11 s.data.toList nk)) ∧ Below w.heap.size w w' := by
  show Calls _ _ _ _ fun e w' => e = .returned (.bool s.data.toList.isEmpty) ∧ Below w.heap.size w w'
  rw [← ByteArray.toList_eq]
  clear hl
  cases h : s.toList.isEmpty
  · have h2 : (s.toList == []) = false := by cases e : s.toList with
      | nil => rw [e] at h; cases h
      | cons x l => rfl
    go_enter Tryz.func141, Tryz.ntmps141
    go_wp2
    go_ret
    exact ⟨rfl, by repeat (first | exact Below.refl _ _ | refine bG ?_ _ | refine bI ?_ _ _ | refine bA ?_ _ | refine bD ?_ | refine bN ?_ _)⟩
  · have h2 : (s.toList == []) = true := by cases e : s.toList with
      | nil => rfl
      | cons x l => rw [e] at h; cases h
    go_enter Tryz.func141, Tryz.ntmps141
    go_wp2
    go_ret
    exact ⟨rfl, by repeat (first | exact Below.refl _ _ | refine bG ?_ _ | refine bI ?_ _ _ | refine bA ?_ _ | refine bD ?_ | refine bN ?_ _)⟩
set_option maxHeartbeats 1000000 in
set_option maxRecDepth 10000 in
theorem says_12 (s : ByteArray) (hs : s.size ≤ 100000) (kp : Option Addr) (nk kc : Nat) (at1 : Int) (w : World) (hl : Lib0 w) :
    Calls Tryz.prog 141 #[.agg #[.int .i64 12, .string s, .slice kp nk kc, .int .i64 at1]] w fun e w' => e = .returned (.bool (textS 12 s.data.toList nk)) ∧ Below w.heap.size w w' := by
  show Calls _ _ _ _ fun e w' => e = .returned (.bool s.data.toList.isEmpty) ∧ Below w.heap.size w w'
  rw [← ByteArray.toList_eq]
  clear hl
  cases h : s.toList.isEmpty
  · have h2 : (s.toList == []) = false := by cases e : s.toList with
      | nil => rw [e] at h; cases h
      | cons x l => rfl
    go_enter Tryz.func141, Tryz.ntmps141
    go_wp2
    go_ret
    exact ⟨rfl, by repeat (first | exact Below.refl _ _ | refine bG ?_ _ | refine bI ?_ _ _ | refine bA ?_ _ | refine bD ?_ | refine bN ?_ _)⟩
  · have h2 : (s.toList == []) = true := by cases e : s.toList with
      | nil => rfl
      | cons x l => rw [e] at h; cases h
    go_enter Tryz.func141, Tryz.ntmps141
    go_wp2
    go_ret
    exact ⟨rfl, by repeat (first | exact Below.refl _ _ | refine bG ?_ _ | refine bI ?_ _ _ | refine bA ?_ _ | refine bD ?_ | refine bN ?_ _)⟩
set_option maxHeartbeats 1000000 in
set_option maxRecDepth 10000 in
theorem says_13 (s : ByteArray) (hs : s.size ≤ 100000) (kp : Option Addr) (nk kc : Nat) (at1 : Int) (w : World) (hl : Lib0 w) :
    Calls Tryz.prog 141 #[.agg #[.int .i64 13, .string s, .slice kp nk kc, .int .i64 at1]] w fun e w' => e = .returned (.bool (textS 13 s.data.toList nk)) ∧ Below w.heap.size w w' := by
  show Calls _ _ _ _ fun e w' => e = .returned (.bool s.data.toList.isEmpty) ∧ Below w.heap.size w w'
  rw [← ByteArray.toList_eq]
  clear hl
  cases h : s.toList.isEmpty
  · have h2 : (s.toList == []) = false := by cases e : s.toList with
      | nil => rw [e] at h; cases h
      | cons x l => rfl
    go_enter Tryz.func141, Tryz.ntmps141
    go_wp2
    go_ret
    exact ⟨rfl, by repeat (first | exact Below.refl _ _ | refine bG ?_ _ | refine bI ?_ _ _ | refine bA ?_ _ | refine bD ?_ | refine bN ?_ _)⟩
  · have h2 : (s.toList == []) = true := by cases e : s.toList with
      | nil => rfl
      | cons x l => rw [e] at h; cases h
    go_enter Tryz.func141, Tryz.ntmps141
    go_wp2
    go_ret
    exact ⟨rfl, by repeat (first | exact Below.refl _ _ | refine bG ?_ _ | refine bI ?_ _ _ | refine bA ?_ _ | refine bD ?_ | refine bN ?_ _)⟩
set_option maxHeartbeats 1000000 in
set_option maxRecDepth 10000 in
theorem says_14 (s : ByteArray) (hs : s.size ≤ 100000) (kp : Option Addr) (nk kc : Nat) (at1 : Int) (w : World) (hl : Lib0 w) :
    Calls Tryz.prog 141 #[.agg #[.int .i64 14, .string s, .slice kp nk kc, .int .i64 at1]] w fun e w' => e = .returned (.bool (textS 14 s.data.toList nk)) ∧ Below w.heap.size w w' := by
  show Calls _ _ _ _ fun e w' => e = .returned (.bool (boolW.contains s.data.toList)) ∧ Below w.heap.size w w'
  have H1 : Hid (∀ w', Below w.heap.size w w' → Calls Tryz.prog 182 #[.string s, .string ⟨#[116, 114, 117, 101, 32, 102, 97, 108, 115, 101]⟩] w' fun e w2 => e = .returned (.bool (boolW.contains s.data.toList)) ∧ Below w'.heap.size w' w2) := hid fun w' h => one_bool s hs w' (hl.later h)
  clear hl
  generalize boolW.contains s.data.toList = x at *
  go_enter Tryz.func141, Tryz.ntmps141
  go_wp2_with (first
    | (go_at_call 182; ((with_reducible refine (H1.out _ ?_).mono ?_)); rotate_left; rintro e w' ⟨rfl, hb⟩; obtain ⟨g1, rfl⟩ := bout hb; clear hb))
  all_goals first
    | (go_ret; exact ⟨rfl, by repeat (first | exact Below.refl _ _ | refine bG ?_ _ | refine bI ?_ _ _ | refine bA ?_ _ | refine bD ?_ | refine bN ?_ _)⟩)
    | exact by repeat (first | exact Below.refl _ _ | refine bG ?_ _ | refine bI ?_ _ _ | refine bA ?_ _ | refine bD ?_ | refine bN ?_ _)
set_option maxHeartbeats 1000000 in
set_option maxRecDepth 10000 in
theorem says_16 (s : ByteArray) (hs : s.size ≤ 100000) (kp : Option Addr) (nk kc : Nat) (at1 : Int) (w : World) (hl : Lib0 w) :
    Calls Tryz.prog 141 #[.agg #[.int .i64 16, .string s, .slice kp nk kc, .int .i64 at1]] w fun e w' => e = .returned (.bool (textS 16 s.data.toList nk)) ∧ Below w.heap.size w w' := by
  show Calls _ _ _ _ fun e w' => e = .returned (.bool true) ∧ Below w.heap.size w w'
  clear hl
  go_enter Tryz.func141, Tryz.ntmps141
  go_wp2
  go_ret
  exact ⟨rfl, by repeat (first | exact Below.refl _ _ | refine bG ?_ _ | refine bI ?_ _ _ | refine bA ?_ _ | refine bD ?_ | refine bN ?_ _)⟩
set_option maxHeartbeats 1000000 in
set_option maxRecDepth 10000 in
theorem says_17 (s : ByteArray) (hs : s.size ≤ 100000) (kp : Option Addr) (nk kc : Nat) (at1 : Int) (w : World) (hl : Lib0 w) :
    Calls Tryz.prog 141 #[.agg #[.int .i64 17, .string s, .slice kp nk kc, .int .i64 at1]] w fun e w' => e = .returned (.bool (textS 17 s.data.toList nk)) ∧ Below w.heap.size w w' := by
  show Calls _ _ _ _ fun e w' => e = .returned (.bool (nameS s.data.toList && decide (bn s.data.toList < 0))) ∧ Below w.heap.size w w'
  have H1 : Hid (∀ w', Below w.heap.size w w' → Calls Tryz.prog 134 #[.string s] w' fun e w2 => e = .returned (.bool (nameS s.data.toList)) ∧ Below w'.heap.size w' w2) := hid fun w' h => name_any s (by omega) w' (hl.later h)
  have H2 : Hid (∀ w', Below w.heap.size w w' → Calls Tryz.prog 181 #[.string s] w' fun e w2 => e = .returned (.int .i64 (bn s.data.toList)) ∧ Below w'.heap.size w' w2) := hid fun w' h => by
    have := builtin_18 s w'
    rwa [ByteArray.toList_eq] at this
  clear hl
  generalize nameS s.data.toList = x at *
  generalize bn s.data.toList = n at *
  cases x
  all_goals
    go_enter Tryz.func141, Tryz.ntmps141
    go_wp2_with (first
      | (go_at_call 134; ((with_reducible refine (H1.out _ ?_).mono ?_)); rotate_left; rintro e w' ⟨rfl, hb⟩; obtain ⟨g1, rfl⟩ := bout hb; clear hb)
      | (go_at_call 181; ((with_reducible refine (H2.out _ ?_).mono ?_)); rotate_left; rintro e w' ⟨rfl, hb⟩; obtain ⟨g1, rfl⟩ := bout hb; clear hb))
    all_goals first
      | (go_ret; exact ⟨rfl, by repeat (first | exact Below.refl _ _ | refine bG ?_ _ | refine bI ?_ _ _ | refine bA ?_ _ | refine bD ?_ | refine bN ?_ _)⟩)
      | exact by repeat (first | exact Below.refl _ _ | refine bG ?_ _ | refine bI ?_ _ _ | refine bA ?_ _ | refine bD ?_ | refine bN ?_ _)
set_option maxHeartbeats 1000000 in
set_option maxRecDepth 10000 in
theorem says_18 (s : ByteArray) (hs : s.size ≤ 100000) (kp : Option Addr) (nk kc : Nat) (at1 : Int) (w : World) (hl : Lib0 w) :
    Calls Tryz.prog 141 #[.agg #[.int .i64 18, .string s, .slice kp nk kc, .int .i64 at1]] w fun e w' => e = .returned (.bool (textS 18 s.data.toList nk)) ∧ Below w.heap.size w w' := by
  show Calls _ _ _ _ fun e w' => e = .returned (.bool (nameS s.data.toList)) ∧ Below w.heap.size w w'
  have H1 : Hid (∀ w', Below w.heap.size w w' → Calls Tryz.prog 134 #[.string s] w' fun e w2 => e = .returned (.bool (nameS s.data.toList)) ∧ Below w'.heap.size w' w2) := hid fun w' h => name_any s (by omega) w' (hl.later h)
  clear hl
  generalize nameS s.data.toList = x at *
  go_enter Tryz.func141, Tryz.ntmps141
  go_wp2_with (first
    | (go_at_call 134; ((with_reducible refine (H1.out _ ?_).mono ?_)); rotate_left; rintro e w' ⟨rfl, hb⟩; obtain ⟨g1, rfl⟩ := bout hb; clear hb))
  all_goals first
    | (go_ret; exact ⟨rfl, by repeat (first | exact Below.refl _ _ | refine bG ?_ _ | refine bI ?_ _ _ | refine bA ?_ _ | refine bD ?_ | refine bN ?_ _)⟩)
    | exact by repeat (first | exact Below.refl _ _ | refine bG ?_ _ | refine bI ?_ _ _ | refine bA ?_ _ | refine bD ?_ | refine bN ?_ _)
set_option maxHeartbeats 1000000 in
set_option maxRecDepth 10000 in
theorem says_19 (s : ByteArray) (hs : s.size ≤ 100000) (kp : Option Addr) (nk kc : Nat) (at1 : Int) (w : World) (hl : Lib0 w) :
    Calls Tryz.prog 141 #[.agg #[.int .i64 19, .string s, .slice kp nk kc, .int .i64 at1]] w fun e w' => e = .returned (.bool (textS 19 s.data.toList nk)) ∧ Below w.heap.size w w' := by
  show Calls _ _ _ _ fun e w' => e = .returned (.bool s.data.toList.isEmpty) ∧ Below w.heap.size w w'
  rw [← ByteArray.toList_eq]
  clear hl
  cases h : s.toList.isEmpty
  · have h2 : (s.toList == []) = false := by cases e : s.toList with
      | nil => rw [e] at h; cases h
      | cons x l => rfl
    go_enter Tryz.func141, Tryz.ntmps141
    go_wp2
    go_ret
    exact ⟨rfl, by repeat (first | exact Below.refl _ _ | refine bG ?_ _ | refine bI ?_ _ _ | refine bA ?_ _ | refine bD ?_ | refine bN ?_ _)⟩
  · have h2 : (s.toList == []) = true := by cases e : s.toList with
      | nil => rfl
      | cons x l => rw [e] at h; cases h
    go_enter Tryz.func141, Tryz.ntmps141
    go_wp2
    go_ret
    exact ⟨rfl, by repeat (first | exact Below.refl _ _ | refine bG ?_ _ | refine bI ?_ _ _ | refine bA ?_ _ | refine bD ?_ | refine bN ?_ _)⟩
set_option maxHeartbeats 1000000 in
set_option maxRecDepth 10000 in
theorem says_20 (s : ByteArray) (hs : s.size ≤ 100000) (kp : Option Addr) (nk kc : Nat) (at1 : Int) (w : World) (hl : Lib0 w) :
    Calls Tryz.prog 141 #[.agg #[.int .i64 20, .string s, .slice kp nk kc, .int .i64 at1]] w fun e w' => e = .returned (.bool (textS 20 s.data.toList nk)) ∧ Below w.heap.size w w' := by
  show Calls _ _ _ _ fun e w' => e = .returned (.bool s.data.toList.isEmpty) ∧ Below w.heap.size w w'
  rw [← ByteArray.toList_eq]
  clear hl
  cases h : s.toList.isEmpty
  · have h2 : (s.toList == []) = false := by cases e : s.toList with
      | nil => rw [e] at h; cases h
      | cons x l => rfl
    go_enter Tryz.func141, Tryz.ntmps141
    go_wp2
    go_ret
    exact ⟨rfl, by repeat (first | exact Below.refl _ _ | refine bG ?_ _ | refine bI ?_ _ _ | refine bA ?_ _ | refine bD ?_ | refine bN ?_ _)⟩
  · have h2 : (s.toList == []) = true := by cases e : s.toList with
      | nil => rfl
      | cons x l => rw [e] at h; cases h
    go_enter Tryz.func141, Tryz.ntmps141
    go_wp2
    go_ret
    exact ⟨rfl, by repeat (first | exact Below.refl _ _ | refine bG ?_ _ | refine bI ?_ _ _ | refine bA ?_ _ | refine bD ?_ | refine bN ?_ _)⟩
set_option maxHeartbeats 1000000 in
set_option maxRecDepth 10000 in
theorem says_21 (s : ByteArray) (hs : s.size ≤ 100000) (kp : Option Addr) (nk kc : Nat) (at1 : Int) (w : World) (hl : Lib0 w) :
    Calls Tryz.prog 141 #[.agg #[.int .i64 21, .string s, .slice kp nk kc, .int .i64 at1]] w fun e w' => e = .returned (.bool (textS 21 s.data.toList nk)) ∧ Below w.heap.size w w' := by
  show Calls _ _ _ _ fun e w' => e = .returned (.bool (decide (bn s.data.toList = (nk : Int)))) ∧ Below w.heap.size w w'
  have H2 : Hid (∀ w', Calls Tryz.prog 181 #[.string s] w' fun e w2 => e = .returned (.int .i64 (bn s.data.toList)) ∧ Below w'.heap.size w' w2) := hid fun w' => by
    have := builtin_18 s w'
    rwa [ByteArray.toList_eq] at this
  clear hl
  generalize bn s.data.toList = n at *
  go_enter Tryz.func141, Tryz.ntmps141
  go_wp2_with fail
  go_region_held3 (fun w' => w'.cell? ⟨w.heap.size, 1, none⟩ = some (.string s) ∧ w'.cell? ⟨w.heap.size, 2, none⟩ = some (.slice kp nk kc)) (simp [go_sem])
    (first | (go_at_call 181; ((with_reducible refine (H2.out _).mono ?_)); rintro e w' ⟨rfl, hb⟩; obtain ⟨g2, rfl⟩ := bout hb; clear hb))
  go_wp2
  go_ret
  exact ⟨by rw [← Bool.beq_eq_decide_eq]; rfl, by repeat (first | exact Below.refl _ _ | refine bG ?_ _ | refine bI ?_ _ _ | refine bA ?_ _ | refine bD ?_ | refine bN ?_ _)⟩
set_option maxHeartbeats 1000000 in
set_option maxRecDepth 10000 in
theorem says_22 (s : ByteArray) (hs : s.size ≤ 100000) (kp : Option Addr) (nk kc : Nat) (at1 : Int) (w : World) (hl : Lib0 w) :
    Calls Tryz.prog 141 #[.agg #[.int .i64 22, .string s, .slice kp nk kc, .int .i64 at1]] w fun e w' => e = .returned (.bool (textS 22 s.data.toList nk)) ∧ Below w.heap.size w w' := by
  show Calls _ _ _ _ fun e w' => e = .returned (.bool s.data.toList.isEmpty) ∧ Below w.heap.size w w'
  rw [← ByteArray.toList_eq]
  clear hl
  cases h : s.toList.isEmpty
  · have h2 : (s.toList == []) = false := by cases e : s.toList with
      | nil => rw [e] at h; cases h
      | cons x l => rfl
    go_enter Tryz.func141, Tryz.ntmps141
    go_wp2
    go_ret
    exact ⟨rfl, by repeat (first | exact Below.refl _ _ | refine bG ?_ _ | refine bI ?_ _ _ | refine bA ?_ _ | refine bD ?_ | refine bN ?_ _)⟩
  · have h2 : (s.toList == []) = true := by cases e : s.toList with
      | nil => rfl
      | cons x l => rw [e] at h; cases h
    go_enter Tryz.func141, Tryz.ntmps141
    go_wp2
    go_ret
    exact ⟨rfl, by repeat (first | exact Below.refl _ _ | refine bG ?_ _ | refine bI ?_ _ _ | refine bA ?_ _ | refine bD ?_ | refine bN ?_ _)⟩
set_option maxHeartbeats 1000000 in
set_option maxRecDepth 10000 in
theorem says_23 (s : ByteArray) (hs : s.size ≤ 100000) (kp : Option Addr) (nk kc : Nat) (at1 : Int) (w : World) (hl : Lib0 w) :
    Calls Tryz.prog 141 #[.agg #[.int .i64 23, .string s, .slice kp nk kc, .int .i64 at1]] w fun e w' => e = .returned (.bool (textS 23 s.data.toList nk)) ∧ Below w.heap.size w w' := by
  show Calls _ _ _ _ fun e w' => e = .returned (.bool (nameS s.data.toList && decide (bn s.data.toList < 0))) ∧ Below w.heap.size w w'
  have H1 : Hid (∀ w', Below w.heap.size w w' → Calls Tryz.prog 134 #[.string s] w' fun e w2 => e = .returned (.bool (nameS s.data.toList)) ∧ Below w'.heap.size w' w2) := hid fun w' h => name_any s (by omega) w' (hl.later h)
  have H2 : Hid (∀ w', Below w.heap.size w w' → Calls Tryz.prog 181 #[.string s] w' fun e w2 => e = .returned (.int .i64 (bn s.data.toList)) ∧ Below w'.heap.size w' w2) := hid fun w' h => by
    have := builtin_18 s w'
    rwa [ByteArray.toList_eq] at this
  clear hl
  generalize nameS s.data.toList = x at *
  generalize bn s.data.toList = n at *
  cases x
  all_goals
    go_enter Tryz.func141, Tryz.ntmps141
    go_wp2_with (first
      | (go_at_call 134; ((with_reducible refine (H1.out _ ?_).mono ?_)); rotate_left; rintro e w' ⟨rfl, hb⟩; obtain ⟨g1, rfl⟩ := bout hb; clear hb)
      | (go_at_call 181; ((with_reducible refine (H2.out _ ?_).mono ?_)); rotate_left; rintro e w' ⟨rfl, hb⟩; obtain ⟨g1, rfl⟩ := bout hb; clear hb))
    all_goals first
      | (go_ret; exact ⟨rfl, by repeat (first | exact Below.refl _ _ | refine bG ?_ _ | refine bI ?_ _ _ | refine bA ?_ _ | refine bD ?_ | refine bN ?_ _)⟩)
      | exact by repeat (first | exact Below.refl _ _ | refine bG ?_ _ | refine bI ?_ _ _ | refine bA ?_ _ | refine bD ?_ | refine bN ?_ _)
set_option maxHeartbeats 1000000 in
set_option maxRecDepth 10000 in
theorem says_24 (s : ByteArray) (hs : s.size ≤ 100000) (kp : Option Addr) (nk kc : Nat) (at1 : Int) (w : World) (hl : Lib0 w) :
    Calls Tryz.prog 141 #[.agg #[.int .i64 24, .string s, .slice kp nk kc, .int .i64 at1]] w fun e w' => e = .returned (.bool (textS 24 s.data.toList nk)) ∧ Below w.heap.size w w' := by
  show Calls _ _ _ _ fun e w' => e = .returned (.bool s.data.toList.isEmpty) ∧ Below w.heap.size w w'
  rw [← ByteArray.toList_eq]
  clear hl
  cases h : s.toList.isEmpty
  · have h2 : (s.toList == []) = false := by cases e : s.toList with
      | nil => rw [e] at h; cases h
      | cons x l => rfl
    go_enter Tryz.func141, Tryz.ntmps141
    go_wp2
    go_ret
    exact ⟨rfl, by repeat (first | exact Below.refl _ _ | refine bG ?_ _ | refine bI ?_ _ _ | refine bA ?_ _ | refine bD ?_ | refine bN ?_ _)⟩
  · have h2 : (s.toList == []) = true := by cases e : s.toList with
      | nil => rfl
      | cons x l => rw [e] at h; cases h
    go_enter Tryz.func141, Tryz.ntmps141
    go_wp2
    go_ret
    exact ⟨rfl, by repeat (first | exact Below.refl _ _ | refine bG ?_ _ | refine bI ?_ _ _ | refine bA ?_ _ | refine bD ?_ | refine bN ?_ _)⟩
set_option maxHeartbeats 1000000 in
set_option maxRecDepth 10000 in
theorem says_25 (s : ByteArray) (hs : s.size ≤ 100000) (kp : Option Addr) (nk kc : Nat) (at1 : Int) (w : World) (hl : Lib0 w) :
    Calls Tryz.prog 141 #[.agg #[.int .i64 25, .string s, .slice kp nk kc, .int .i64 at1]] w fun e w' => e = .returned (.bool (textS 25 s.data.toList nk)) ∧ Below w.heap.size w w' := by
  show Calls _ _ _ _ fun e w' => e = .returned (.bool (nameS s.data.toList)) ∧ Below w.heap.size w w'
  have H1 : Hid (∀ w', Below w.heap.size w w' → Calls Tryz.prog 134 #[.string s] w' fun e w2 => e = .returned (.bool (nameS s.data.toList)) ∧ Below w'.heap.size w' w2) := hid fun w' h => name_any s (by omega) w' (hl.later h)
  clear hl
  generalize nameS s.data.toList = x at *
  go_enter Tryz.func141, Tryz.ntmps141
  go_wp2_with (first
    | (go_at_call 134; ((with_reducible refine (H1.out _ ?_).mono ?_)); rotate_left; rintro e w' ⟨rfl, hb⟩; obtain ⟨g1, rfl⟩ := bout hb; clear hb))
  all_goals first
    | (go_ret; exact ⟨rfl, by repeat (first | exact Below.refl _ _ | refine bG ?_ _ | refine bI ?_ _ _ | refine bA ?_ _ | refine bD ?_ | refine bN ?_ _)⟩)
    | exact by repeat (first | exact Below.refl _ _ | refine bG ?_ _ | refine bI ?_ _ _ | refine bA ?_ _ | refine bD ?_ | refine bN ?_ _)
set_option maxHeartbeats 1000000 in
set_option maxRecDepth 10000 in
theorem says_26 (s : ByteArray) (hs : s.size ≤ 100000) (kp : Option Addr) (nk kc : Nat) (at1 : Int) (w : World) (hl : Lib0 w) :
    Calls Tryz.prog 141 #[.agg #[.int .i64 26, .string s, .slice kp nk kc, .int .i64 at1]] w fun e w' => e = .returned (.bool (textS 26 s.data.toList nk)) ∧ Below w.heap.size w w' := by
  show Calls _ _ _ _ fun e w' => e = .returned (.bool s.data.toList.isEmpty) ∧ Below w.heap.size w w'
  rw [← ByteArray.toList_eq]
  clear hl
  cases h : s.toList.isEmpty
  · have h2 : (s.toList == []) = false := by cases e : s.toList with
      | nil => rw [e] at h; cases h
      | cons x l => rfl
    go_enter Tryz.func141, Tryz.ntmps141
    go_wp2
    go_ret
    exact ⟨rfl, by repeat (first | exact Below.refl _ _ | refine bG ?_ _ | refine bI ?_ _ _ | refine bA ?_ _ | refine bD ?_ | refine bN ?_ _)⟩
  · have h2 : (s.toList == []) = true := by cases e : s.toList with
      | nil => rfl
      | cons x l => rw [e] at h; cases h
    go_enter Tryz.func141, Tryz.ntmps141
    go_wp2
    go_ret
    exact ⟨rfl, by repeat (first | exact Below.refl _ _ | refine bG ?_ _ | refine bI ?_ _ _ | refine bA ?_ _ | refine bD ?_ | refine bN ?_ _)⟩
set_option maxHeartbeats 1000000 in
set_option maxRecDepth 10000 in
theorem says_27 (s : ByteArray) (hs : s.size ≤ 100000) (kp : Option Addr) (nk kc : Nat) (at1 : Int) (w : World) (hl : Lib0 w) :
    Calls Tryz.prog 141 #[.agg #[.int .i64 27, .string s, .slice kp nk kc, .int .i64 at1]] w fun e w' => e = .returned (.bool (textS 27 s.data.toList nk)) ∧ Below w.heap.size w w' := by
  show Calls _ _ _ _ fun e w' => e = .returned (.bool (binW.contains s.data.toList)) ∧ Below w.heap.size w w'
  have H1 : Hid (∀ w', Below w.heap.size w w' → Calls Tryz.prog 182 #[.string s, .string ⟨#[43, 32, 45, 32, 42, 32, 47, 47, 32, 37, 32, 46, 46, 32, 61, 61, 32, 126, 61, 32, 60, 32, 60, 61, 32, 62, 32, 62, 61]⟩] w' fun e w2 => e = .returned (.bool (binW.contains s.data.toList)) ∧ Below w'.heap.size w' w2) := hid fun w' h => one_bin s hs w' (hl.later h)
  clear hl
  generalize binW.contains s.data.toList = x at *
  go_enter Tryz.func141, Tryz.ntmps141
  go_wp2_with (first
    | (go_at_call 182; ((with_reducible refine (H1.out _ ?_).mono ?_)); rotate_left; rintro e w' ⟨rfl, hb⟩; obtain ⟨g1, rfl⟩ := bout hb; clear hb))
  all_goals first
    | (go_ret; exact ⟨rfl, by repeat (first | exact Below.refl _ _ | refine bG ?_ _ | refine bI ?_ _ _ | refine bA ?_ _ | refine bD ?_ | refine bN ?_ _)⟩)
    | exact by repeat (first | exact Below.refl _ _ | refine bG ?_ _ | refine bI ?_ _ _ | refine bA ?_ _ | refine bD ?_ | refine bN ?_ _)
set_option maxHeartbeats 1000000 in
set_option maxRecDepth 10000 in
theorem says_28 (s : ByteArray) (hs : s.size ≤ 100000) (kp : Option Addr) (nk kc : Nat) (at1 : Int) (w : World) (hl : Lib0 w) :
    Calls Tryz.prog 141 #[.agg #[.int .i64 28, .string s, .slice kp nk kc, .int .i64 at1]] w fun e w' => e = .returned (.bool (textS 28 s.data.toList nk)) ∧ Below w.heap.size w w' := by
  show Calls _ _ _ _ fun e w' => e = .returned (.bool (unW.contains s.data.toList)) ∧ Below w.heap.size w w'
  have H1 : Hid (∀ w', Below w.heap.size w w' → Calls Tryz.prog 182 #[.string s, .string ⟨#[45, 32, 110, 111, 116, 32, 35]⟩] w' fun e w2 => e = .returned (.bool (unW.contains s.data.toList)) ∧ Below w'.heap.size w' w2) := hid fun w' h => one_un s hs w' (hl.later h)
  clear hl
  generalize unW.contains s.data.toList = x at *
  go_enter Tryz.func141, Tryz.ntmps141
  go_wp2_with (first
    | (go_at_call 182; ((with_reducible refine (H1.out _ ?_).mono ?_)); rotate_left; rintro e w' ⟨rfl, hb⟩; obtain ⟨g1, rfl⟩ := bout hb; clear hb))
  all_goals first
    | (go_ret; exact ⟨rfl, by repeat (first | exact Below.refl _ _ | refine bG ?_ _ | refine bI ?_ _ _ | refine bA ?_ _ | refine bD ?_ | refine bN ?_ _)⟩)
    | exact by repeat (first | exact Below.refl _ _ | refine bG ?_ _ | refine bI ?_ _ _ | refine bA ?_ _ | refine bD ?_ | refine bN ?_ _)
set_option maxHeartbeats 1000000 in
set_option maxRecDepth 10000 in
theorem says_29 (s : ByteArray) (hs : s.size ≤ 100000) (kp : Option Addr) (nk kc : Nat) (at1 : Int) (w : World) (hl : Lib0 w) :
    Calls Tryz.prog 141 #[.agg #[.int .i64 29, .string s, .slice kp nk kc, .int .i64 at1]] w fun e w' => e = .returned (.bool (textS 29 s.data.toList nk)) ∧ Below w.heap.size w w' := by
  show Calls _ _ _ _ fun e w' => e = .returned (.bool s.data.toList.isEmpty) ∧ Below w.heap.size w w'
  rw [← ByteArray.toList_eq]
  clear hl
  cases h : s.toList.isEmpty
  · have h2 : (s.toList == []) = false := by cases e : s.toList with
      | nil => rw [e] at h; cases h
      | cons x l => rfl
    go_enter Tryz.func141, Tryz.ntmps141
    go_wp2
    go_ret
    exact ⟨rfl, by repeat (first | exact Below.refl _ _ | refine bG ?_ _ | refine bI ?_ _ _ | refine bA ?_ _ | refine bD ?_ | refine bN ?_ _)⟩
  · have h2 : (s.toList == []) = true := by cases e : s.toList with
      | nil => rfl
      | cons x l => rw [e] at h; cases h
    go_enter Tryz.func141, Tryz.ntmps141
    go_wp2
    go_ret
    exact ⟨rfl, by repeat (first | exact Below.refl _ _ | refine bG ?_ _ | refine bI ?_ _ _ | refine bA ?_ _ | refine bD ?_ | refine bN ?_ _)⟩
set_option maxHeartbeats 1000000 in
set_option maxRecDepth 10000 in
theorem says_30 (s : ByteArray) (hs : s.size ≤ 100000) (kp : Option Addr) (nk kc : Nat) (at1 : Int) (w : World) (hl : Lib0 w) :
    Calls Tryz.prog 141 #[.agg #[.int .i64 30, .string s, .slice kp nk kc, .int .i64 at1]] w fun e w' => e = .returned (.bool (textS 30 s.data.toList nk)) ∧ Below w.heap.size w w' := by
  show Calls _ _ _ _ fun e w' => e = .returned (.bool s.data.toList.isEmpty) ∧ Below w.heap.size w w'
  rw [← ByteArray.toList_eq]
  clear hl
  cases h : s.toList.isEmpty
  · have h2 : (s.toList == []) = false := by cases e : s.toList with
      | nil => rw [e] at h; cases h
      | cons x l => rfl
    go_enter Tryz.func141, Tryz.ntmps141
    go_wp2
    go_ret
    exact ⟨rfl, by repeat (first | exact Below.refl _ _ | refine bG ?_ _ | refine bI ?_ _ _ | refine bA ?_ _ | refine bD ?_ | refine bN ?_ _)⟩
  · have h2 : (s.toList == []) = true := by cases e : s.toList with
      | nil => rfl
      | cons x l => rw [e] at h; cases h
    go_enter Tryz.func141, Tryz.ntmps141
    go_wp2
    go_ret
    exact ⟨rfl, by repeat (first | exact Below.refl _ _ | refine bG ?_ _ | refine bI ?_ _ _ | refine bA ?_ _ | refine bD ?_ | refine bN ?_ _)⟩
set_option maxHeartbeats 1000000 in
set_option maxRecDepth 10000 in
theorem says_31 (s : ByteArray) (hs : s.size ≤ 100000) (kp : Option Addr) (nk kc : Nat) (at1 : Int) (w : World) (hl : Lib0 w) :
    Calls Tryz.prog 141 #[.agg #[.int .i64 31, .string s, .slice kp nk kc, .int .i64 at1]] w fun e w' => e = .returned (.bool (textS 31 s.data.toList nk)) ∧ Below w.heap.size w w' := by
  show Calls _ _ _ _ fun e w' => e = .returned (.bool (tnameW.contains s.data.toList)) ∧ Below w.heap.size w w'
  have H1 : Hid (∀ w', Below w.heap.size w w' → Calls Tryz.prog 182 #[.string s, .string ⟨#[97, 110, 121, 32, 110, 105, 108, 32, 98, 111, 111, 108, 32, 105, 110, 116, 32, 115, 116, 114, 105, 110, 103, 32, 116, 97, 98, 108, 101, 32, 116, 104, 114, 101, 97, 100]⟩] w' fun e w2 => e = .returned (.bool (tnameW.contains s.data.toList)) ∧ Below w'.heap.size w' w2) := hid fun w' h => one_tname s hs w' (hl.later h)
  clear hl
  generalize tnameW.contains s.data.toList = x at *
  go_enter Tryz.func141, Tryz.ntmps141
  go_wp2_with (first
    | (go_at_call 182; ((with_reducible refine (H1.out _ ?_).mono ?_)); rotate_left; rintro e w' ⟨rfl, hb⟩; obtain ⟨g1, rfl⟩ := bout hb; clear hb))
  all_goals first
    | (go_ret; exact ⟨rfl, by repeat (first | exact Below.refl _ _ | refine bG ?_ _ | refine bI ?_ _ _ | refine bA ?_ _ | refine bD ?_ | refine bN ?_ _)⟩)
    | exact by repeat (first | exact Below.refl _ _ | refine bG ?_ _ | refine bI ?_ _ _ | refine bA ?_ _ | refine bD ?_ | refine bN ?_ _)
set_option maxHeartbeats 1000000 in
set_option maxRecDepth 10000 in
theorem says_32 (s : ByteArray) (hs : s.size ≤ 100000) (kp : Option Addr) (nk kc : Nat) (at1 : Int) (w : World) (hl : Lib0 w) :
    Calls Tryz.prog 141 #[.agg #[.int .i64 32, .string s, .slice kp nk kc, .int .i64 at1]] w fun e w' => e = .returned (.bool (textS 32 s.data.toList nk)) ∧ Below w.heap.size w w' := by
  show Calls _ _ _ _ fun e w' => e = .returned (.bool s.data.toList.isEmpty) ∧ Below w.heap.size w w'
  rw [← ByteArray.toList_eq]
  clear hl
  cases h : s.toList.isEmpty
  · have h2 : (s.toList == []) = false := by cases e : s.toList with
      | nil => rw [e] at h; cases h
      | cons x l => rfl
    go_enter Tryz.func141, Tryz.ntmps141
    go_wp2
    go_ret
    exact ⟨rfl, by repeat (first | exact Below.refl _ _ | refine bG ?_ _ | refine bI ?_ _ _ | refine bA ?_ _ | refine bD ?_ | refine bN ?_ _)⟩
  · have h2 : (s.toList == []) = true := by cases e : s.toList with
      | nil => rfl
      | cons x l => rw [e] at h; cases h
    go_enter Tryz.func141, Tryz.ntmps141
    go_wp2
    go_ret
    exact ⟨rfl, by repeat (first | exact Below.refl _ _ | refine bG ?_ _ | refine bI ?_ _ _ | refine bA ?_ _ | refine bD ?_ | refine bN ?_ _)⟩
set_option maxHeartbeats 1000000 in
set_option maxRecDepth 10000 in
theorem says_33 (s : ByteArray) (hs : s.size ≤ 100000) (kp : Option Addr) (nk kc : Nat) (at1 : Int) (w : World) (hl : Lib0 w) :
    Calls Tryz.prog 141 #[.agg #[.int .i64 33, .string s, .slice kp nk kc, .int .i64 at1]] w fun e w' => e = .returned (.bool (textS 33 s.data.toList nk)) ∧ Below w.heap.size w w' := by
  show Calls _ _ _ _ fun e w' => e = .returned (.bool (nameS s.data.toList)) ∧ Below w.heap.size w w'
  have H1 : Hid (∀ w', Below w.heap.size w w' → Calls Tryz.prog 134 #[.string s] w' fun e w2 => e = .returned (.bool (nameS s.data.toList)) ∧ Below w'.heap.size w' w2) := hid fun w' h => name_any s (by omega) w' (hl.later h)
  clear hl
  generalize nameS s.data.toList = x at *
  go_enter Tryz.func141, Tryz.ntmps141
  go_wp2_with (first
    | (go_at_call 134; ((with_reducible refine (H1.out _ ?_).mono ?_)); rotate_left; rintro e w' ⟨rfl, hb⟩; obtain ⟨g1, rfl⟩ := bout hb; clear hb))
  all_goals first
    | (go_ret; exact ⟨rfl, by repeat (first | exact Below.refl _ _ | refine bG ?_ _ | refine bI ?_ _ _ | refine bA ?_ _ | refine bD ?_ | refine bN ?_ _)⟩)
    | exact by repeat (first | exact Below.refl _ _ | refine bG ?_ _ | refine bI ?_ _ _ | refine bA ?_ _ | refine bD ?_ | refine bN ?_ _)
set_option maxHeartbeats 1000000 in
set_option maxRecDepth 10000 in
theorem says_34 (s : ByteArray) (hs : s.size ≤ 100000) (kp : Option Addr) (nk kc : Nat) (at1 : Int) (w : World) (hl : Lib0 w) :
    Calls Tryz.prog 141 #[.agg #[.int .i64 34, .string s, .slice kp nk kc, .int .i64 at1]] w fun e w' => e = .returned (.bool (textS 34 s.data.toList nk)) ∧ Below w.heap.size w w' := by
  show Calls _ _ _ _ fun e w' => e = .returned (.bool s.data.toList.isEmpty) ∧ Below w.heap.size w w'
  rw [← ByteArray.toList_eq]
  clear hl
  cases h : s.toList.isEmpty
  · have h2 : (s.toList == []) = false := by cases e : s.toList with
      | nil => rw [e] at h; cases h
      | cons x l => rfl
    go_enter Tryz.func141, Tryz.ntmps141
    go_wp2
    go_ret
    exact ⟨rfl, by repeat (first | exact Below.refl _ _ | refine bG ?_ _ | refine bI ?_ _ _ | refine bA ?_ _ | refine bD ?_ | refine bN ?_ _)⟩
  · have h2 : (s.toList == []) = true := by cases e : s.toList with
      | nil => rfl
      | cons x l => rw [e] at h; cases h
    go_enter Tryz.func141, Tryz.ntmps141
    go_wp2
    go_ret
    exact ⟨rfl, by repeat (first | exact Below.refl _ _ | refine bG ?_ _ | refine bI ?_ _ _ | refine bA ?_ _ | refine bD ?_ | refine bN ?_ _)⟩
set_option maxHeartbeats 1000000 in
set_option maxRecDepth 10000 in
theorem says_35 (s : ByteArray) (hs : s.size ≤ 100000) (kp : Option Addr) (nk kc : Nat) (at1 : Int) (w : World) (hl : Lib0 w) :
    Calls Tryz.prog 141 #[.agg #[.int .i64 35, .string s, .slice kp nk kc, .int .i64 at1]] w fun e w' => e = .returned (.bool (textS 35 s.data.toList nk)) ∧ Below w.heap.size w w' := by
  show Calls _ _ _ _ fun e w' => e = .returned (.bool s.data.toList.isEmpty) ∧ Below w.heap.size w w'
  rw [← ByteArray.toList_eq]
  clear hl
  cases h : s.toList.isEmpty
  · have h2 : (s.toList == []) = false := by cases e : s.toList with
      | nil => rw [e] at h; cases h
      | cons x l => rfl
    go_enter Tryz.func141, Tryz.ntmps141
    go_wp2
    go_ret
    exact ⟨rfl, by repeat (first | exact Below.refl _ _ | refine bG ?_ _ | refine bI ?_ _ _ | refine bA ?_ _ | refine bD ?_ | refine bN ?_ _)⟩
  · have h2 : (s.toList == []) = true := by cases e : s.toList with
      | nil => rfl
      | cons x l => rw [e] at h; cases h
    go_enter Tryz.func141, Tryz.ntmps141
    go_wp2
    go_ret
    exact ⟨rfl, by repeat (first | exact Below.refl _ _ | refine bG ?_ _ | refine bI ?_ _ _ | refine bA ?_ _ | refine bD ?_ | refine bN ?_ _)⟩
set_option maxHeartbeats 1000000 in
set_option maxRecDepth 10000 in
theorem says_36 (s : ByteArray) (hs : s.size ≤ 100000) (kp : Option Addr) (nk kc : Nat) (at1 : Int) (w : World) (hl : Lib0 w) :
    Calls Tryz.prog 141 #[.agg #[.int .i64 36, .string s, .slice kp nk kc, .int .i64 at1]] w fun e w' => e = .returned (.bool (textS 36 s.data.toList nk)) ∧ Below w.heap.size w w' := by
  show Calls _ _ _ _ fun e w' => e = .returned (.bool (maskS s.data.toList)) ∧ Below w.heap.size w w'
  have H1 : Hid (∀ w', Below w.heap.size w w' → Calls Tryz.prog 185 #[.string s] w' fun e w2 => e = .returned (.bool (maskS s.data.toList)) ∧ Below w'.heap.size w' w2) := hid fun w' h => mask_any s hs w' (hl.later h)
  clear hl
  generalize maskS s.data.toList = x at *
  go_enter Tryz.func141, Tryz.ntmps141
  go_wp2_with (first
    | (go_at_call 185; ((with_reducible refine (H1.out _ ?_).mono ?_)); rotate_left; rintro e w' ⟨rfl, hb⟩; obtain ⟨g1, rfl⟩ := bout hb; clear hb))
  all_goals first
    | (go_ret; exact ⟨rfl, by repeat (first | exact Below.refl _ _ | refine bG ?_ _ | refine bI ?_ _ _ | refine bA ?_ _ | refine bD ?_ | refine bN ?_ _)⟩)
    | exact by repeat (first | exact Below.refl _ _ | refine bG ?_ _ | refine bI ?_ _ _ | refine bA ?_ _ | refine bD ?_ | refine bN ?_ _)
end Go.Proofs.YtjchnliaglecoaaGreatDoor
