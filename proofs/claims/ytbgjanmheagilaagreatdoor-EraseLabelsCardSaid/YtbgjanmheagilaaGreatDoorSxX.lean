/- Words of a kind: what 'one' answers; channels and bases. Conditions: the library's variables; short texts. -/
import Derived.Test.YtbgjanmheagilaaGreatDoorMpX
import Derived.Test.YtbgjanmheagilaaGreatDoorTb
import Derived.Deep.RegionHeld3
set_option linter.unusedVariables false
set_option linter.unusedSimpArgs false
namespace Go.Proofs.YtbgjanmheagilaaGreatDoor
open Go Go.RowKit
set_option linter.unusedVariables false
set_option linter.unusedSimpArgs false
def chanW : List (List UInt8) := [[48], [49], [50], [51], [52], [53], [54], [55]]
theorem one_chan (s : ByteArray) (hs : s.size ≤ 100000) (w : World) (hl : Lib0 w) : Calls Tryz.prog 125 #[.string s, .string ⟨#[48, 32, 49, 32, 50, 32, 51, 32, 52, 32, 53, 32, 54, 32, 55]⟩] w fun e w' => e = .returned (.bool (chanW.contains s.data.toList)) ∧ Below w.heap.size w w' := by
  have := one_any s ⟨#[48, 32, 49, 32, 50, 32, 51, 32, 52, 32, 53, 32, 54, 32, 55]⟩ hs (by decide) w hl
  rwa [one_eq (W := chanW) (by decide +kernel) (by decide +kernel)] at this
def boolW : List (List UInt8) := [[116, 114, 117, 101], [102, 97, 108, 115, 101]]
theorem one_bool (s : ByteArray) (hs : s.size ≤ 100000) (w : World) (hl : Lib0 w) : Calls Tryz.prog 125 #[.string s, .string ⟨#[116, 114, 117, 101, 32, 102, 97, 108, 115, 101]⟩] w fun e w' => e = .returned (.bool (boolW.contains s.data.toList)) ∧ Below w.heap.size w w' := by
  have := one_any s ⟨#[116, 114, 117, 101, 32, 102, 97, 108, 115, 101]⟩ hs (by decide) w hl
  rwa [one_eq (W := boolW) (by decide +kernel) (by decide +kernel)] at this
def tnameW : List (List UInt8) := [[97, 110, 121], [110, 105, 108], [98, 111, 111, 108], [105, 110, 116], [115, 116, 114, 105, 110, 103], [116, 97, 98, 108, 101], [116, 104, 114, 101, 97, 100]]
theorem one_tname (s : ByteArray) (hs : s.size ≤ 100000) (w : World) (hl : Lib0 w) : Calls Tryz.prog 125 #[.string s, .string ⟨#[97, 110, 121, 32, 110, 105, 108, 32, 98, 111, 111, 108, 32, 105, 110, 116, 32, 115, 116, 114, 105, 110, 103, 32, 116, 97, 98, 108, 101, 32, 116, 104, 114, 101, 97, 100]⟩] w fun e w' => e = .returned (.bool (tnameW.contains s.data.toList)) ∧ Below w.heap.size w w' := by
  have := one_any s ⟨#[97, 110, 121, 32, 110, 105, 108, 32, 98, 111, 111, 108, 32, 105, 110, 116, 32, 115, 116, 114, 105, 110, 103, 32, 116, 97, 98, 108, 101, 32, 116, 104, 114, 101, 97, 100]⟩ hs (by decide) w hl
  rwa [one_eq (W := tnameW) (by decide +kernel) (by decide +kernel)] at this
def unW : List (List UInt8) := [[45], [110, 111, 116], [35]]
theorem one_un (s : ByteArray) (hs : s.size ≤ 100000) (w : World) (hl : Lib0 w) : Calls Tryz.prog 125 #[.string s, .string ⟨#[45, 32, 110, 111, 116, 32, 35]⟩] w fun e w' => e = .returned (.bool (unW.contains s.data.toList)) ∧ Below w.heap.size w w' := by
  have := one_any s ⟨#[45, 32, 110, 111, 116, 32, 35]⟩ hs (by decide) w hl
  rwa [one_eq (W := unW) (by decide +kernel) (by decide +kernel)] at this
def binW : List (List UInt8) := [[43], [45], [42], [47, 47], [37], [46, 46], [61, 61], [126, 61], [60], [60, 61], [62], [62, 61]]
theorem one_bin (s : ByteArray) (hs : s.size ≤ 100000) (w : World) (hl : Lib0 w) : Calls Tryz.prog 125 #[.string s, .string ⟨#[43, 32, 45, 32, 42, 32, 47, 47, 32, 37, 32, 46, 46, 32, 61, 61, 32, 126, 61, 32, 60, 32, 60, 61, 32, 62, 32, 62, 61]⟩] w fun e w' => e = .returned (.bool (binW.contains s.data.toList)) ∧ Below w.heap.size w w' := by
  have := one_any s ⟨#[43, 32, 45, 32, 42, 32, 47, 47, 32, 37, 32, 46, 46, 32, 61, 61, 32, 126, 61, 32, 60, 32, 60, 61, 32, 62, 32, 62, 61]⟩ hs (by decide) w hl
  rwa [one_eq (W := binW) (by decide +kernel) (by decide +kernel)] at this
def rwW : List (List UInt8) := [[114, 101, 97, 100], [119, 114, 105, 116, 101]]
theorem one_rw (s : ByteArray) (hs : s.size ≤ 100000) (w : World) (hl : Lib0 w) : Calls Tryz.prog 125 #[.string s, .string ⟨#[114, 101, 97, 100, 32, 119, 114, 105, 116, 101]⟩] w fun e w' => e = .returned (.bool (rwW.contains s.data.toList)) ∧ Below w.heap.size w w' := by
  have := one_any s ⟨#[114, 101, 97, 100, 32, 119, 114, 105, 116, 101]⟩ hs (by decide) w hl
  rwa [one_eq (W := rwW) (by decide +kernel) (by decide +kernel)] at this
theorem channel_any (s : ByteArray) (hs : s.size ≤ 100000) (w : World) (hl : Lib0 w) : Calls Tryz.prog 130 #[.string s] w fun e w' => e = .returned (.bool (chanW.contains s.data.toList)) ∧ Below w.heap.size w w' := by
  have h := one_chan s hs w hl
  generalize chanW.contains s.data.toList = x at *
  have H := hid h
  clear hl h
  go_enter Tryz.func130, Tryz.ntmps130
  go_wp2_with (go_at_call 125; ((with_reducible refine H.out.mono ?_)); rintro e w' ⟨rfl, hb⟩; obtain ⟨g, rfl⟩ := bout hb; clear hb)
  go_ret
  exact ⟨rfl, bG (Below.refl _ _) _⟩
/-- A channel's number. -/
def chan1 (l : List UInt8) : Bool := match l with
  | [b] => Nat.ble 48 b.toNat && Nat.ble b.toNat 55
  | _ => false
theorem chan1_eq (l : List UInt8) : chanW.contains l = chan1 l := by
  match l with
  | [] => rfl
  | [b] =>
    have h : ((List.range 256).all fun n => decide (chanW.contains [n.toUInt8] = chan1 [n.toUInt8])) = true := by decide +kernel
    have h2 := of_decide_eq_true (List.all_eq_true.1 h b.toNat (List.mem_range.2 b.toNat_lt))
    simpa using h2
  | a :: b :: l => simp [chanW, chan1]
theorem chan_tab : ((List.range 256).all fun c => okAt 72 [str [c.toUInt8]] (.bool (chan1 [c.toUInt8]))) = true := by kernel_rfl
theorem rchan_no (s : ByteArray) (hs : ((s.size : Int) == 1) = false) (w : World) : Calls Tryz.prog 72 #[.string s] w fun e w' => e = .returned (.bool false) ∧ Below w.heap.size w w' := by
  go_enter Tryz.func72, Tryz.ntmps72
  go_wp2
  go_ret
  exact ⟨rfl, Below.refl _ _⟩
theorem rchan_any (s : ByteArray) (w : World) : Calls Tryz.prog 72 #[.string s] w fun e w' => e = .returned (.bool (chan1 s.data.toList)) ∧ Below w.heap.size w w' := by
  have hln : s.data.toList.length = s.size := by simp
  by_cases h1 : s.size = 1
  · obtain ⟨b, hb⟩ : ∃ b, s.data.toList = [b] := by
      match h : s.data.toList with
      | [] => rw [h] at hln; simp at hln; omega
      | [b] => exact ⟨b, rfl⟩
      | a :: b :: l => rw [h] at hln; simp at hln; omega
    have e : s = ⟨[b].toArray⟩ := by rw [← hb]
    have := tab1 chan_tab b.toNat b.toNat_lt w
    have e2 : b.toNat.toUInt8 = b := by simp
    rw [e2] at this
    rw [e]
    exact this
  · have h2 : chan1 s.data.toList = false := by
      unfold chan1
      split
      · rename_i b h; rw [h] at hln; simp at hln; omega
      · rfl
    rw [h2]
    refine rchan_no s ?_ w
    cases e : ((s.size : Int) == 1) with
    | false => rfl
    | true => have := eq_of_beq e; omega
theorem base_tab : (tnameW.all fun l => okAt 76 [str l] (.bool true)) = true := by kernel_rfl
theorem not_in {W : List (List UInt8)} {l m : List UInt8} (h : l ∉ W) (hm : m ∈ W) : (l == m) = false := by
  cases e : l == m with
  | false => rfl
  | true => exact absurd (eq_of_beq e ▸ hm) h
theorem base_no (s : ByteArray) (h : s.data.toList ∉ tnameW) (w : World) : Calls Tryz.prog 76 #[.string s] w fun e w' => e = .returned (.bool false) ∧ Below w.heap.size w w' := by
  have h0 : (s.toList == [97, 110, 121]) = false := by rw [ByteArray.toList_eq]; exact not_in h (by decide)
  have h1 : (s.toList == [110, 105, 108]) = false := by rw [ByteArray.toList_eq]; exact not_in h (by decide)
  have h2 : (s.toList == [98, 111, 111, 108]) = false := by rw [ByteArray.toList_eq]; exact not_in h (by decide)
  have h3 : (s.toList == [105, 110, 116]) = false := by rw [ByteArray.toList_eq]; exact not_in h (by decide)
  have h4 : (s.toList == [115, 116, 114, 105, 110, 103]) = false := by rw [ByteArray.toList_eq]; exact not_in h (by decide)
  have h5 : (s.toList == [116, 97, 98, 108, 101]) = false := by rw [ByteArray.toList_eq]; exact not_in h (by decide)
  have h6 : (s.toList == [116, 104, 114, 101, 97, 100]) = false := by rw [ByteArray.toList_eq]; exact not_in h (by decide)
  clear h
  go_enter Tryz.func76, Tryz.ntmps76
  go_wp2
  go_ret
  exact ⟨rfl, Below.refl _ _⟩
theorem base_any (s : ByteArray) (w : World) : Calls Tryz.prog 76 #[.string s] w fun e w' => e = .returned (.bool (tnameW.contains s.data.toList)) ∧ Below w.heap.size w w' := by
  by_cases h : s.data.toList ∈ tnameW
  · have := okAt_calls (List.all_eq_true.1 base_tab _ h) w
    rw [show tnameW.contains s.data.toList = true by simpa using h]
    have e : s = ⟨s.data.toList.toArray⟩ := by simp
    rw [e]
    exact this
  · rw [show tnameW.contains s.data.toList = false by simpa using h]; exact base_no s h w
end Go.Proofs.YtbgjanmheagilaaGreatDoor

/- The texts of nodes, walked (says). Conditions: the library's variables; short texts. -/
namespace Go.Proofs.YtbgjanmheagilaaGreatDoor
open Go Go.RowKit
set_option linter.unusedVariables false
set_option linter.unusedSimpArgs false
/-- A number as it is shown. -/
def intS (l : List UInt8) : Bool := match numS l with
  | none => false
  | some n => decide (Lib.itoa (wrap64 n) = l)
/-- A channel's text. -/
def chanS (l : List UInt8) : Bool := match l with
  | c :: 32 :: m => chan1 [c] && maskS m
  | _ => false
/-- Whether a node's text is as its kind wants it. -/
def textS (k : Nat) (l : List UInt8) (nk : Nat) : Bool :=
  if k = 4 ∨ k = 5 ∨ k = 17 ∨ k = 23 then nameS l && decide (bn l < 0) else if k = 18 ∨ k = 25 ∨ k = 33 then nameS l else if k = 16 then true else if k = 14 then boolW.contains l
  else if k = 15 then intS l else if k = 31 then tnameW.contains l else if k = 28 then unW.contains l else if k = 27 then binW.contains l else if k = 21 then decide (bn l = (nk : Int))
  else if k = 36 then maskS l else if k = 2 then chanS l else l.isEmpty
set_option maxHeartbeats 1000000 in
set_option maxRecDepth 10000 in
theorem says_1 (s : ByteArray) (hs : s.size ≤ 100000) (kp : Option Addr) (nk kc : Nat) (at1 : Int) (w : World) (hl : Lib0 w) :
    Calls Tryz.prog 93 #[.agg #[.int .i64 1, .string s, .slice kp nk kc, .int .i64 at1]] w fun e w' => e = .returned (.bool (textS 1 s.data.toList nk)) ∧ Below w.heap.size w w' := by
  show Calls _ _ _ _ fun e w' => e = .returned (.bool s.data.toList.isEmpty) ∧ Below w.heap.size w w'
  rw [← ByteArray.toList_eq]
  clear hl
  cases h : s.toList.isEmpty
  · have h2 : (s.toList == []) = false := by cases e : s.toList with
      | nil => rw [e] at h; cases h
      | cons x l => rfl
    go_enter Tryz.func93, Tryz.ntmps93
    go_wp2
    go_ret
    exact ⟨rfl, by repeat (first | exact Below.refl _ _ | refine bG ?_ _ | refine bI ?_ _ _ | refine bA ?_ _ | refine bD ?_ | refine bN ?_ _)⟩
  · have h2 : (s.toList == []) = true := by cases e : s.toList with
      | nil => rfl
      | cons x l => rw [e] at h; cases h
    go_enter Tryz.func93, Tryz.ntmps93
    go_wp2
    go_ret
    exact ⟨rfl, by repeat (first | exact Below.refl _ _ | refine bG ?_ _ | refine bI ?_ _ _ | refine bA ?_ _ | refine bD ?_ | refine bN ?_ _)⟩
set_option maxHeartbeats 1000000 in
set_option maxRecDepth 10000 in
theorem says_3 (s : ByteArray) (hs : s.size ≤ 100000) (kp : Option Addr) (nk kc : Nat) (at1 : Int) (w : World) (hl : Lib0 w) :
    Calls Tryz.prog 93 #[.agg #[.int .i64 3, .string s, .slice kp nk kc, .int .i64 at1]] w fun e w' => e = .returned (.bool (textS 3 s.data.toList nk)) ∧ Below w.heap.size w w' := by
  show Calls _ _ _ _ fun e w' => e = .returned (.bool s.data.toList.isEmpty) ∧ Below w.heap.size w w'
  rw [← ByteArray.toList_eq]
  clear hl
  cases h : s.toList.isEmpty
  · have h2 : (s.toList == []) = false := by cases e : s.toList with
      | nil => rw [e] at h; cases h
      | cons x l => rfl
    go_enter Tryz.func93, Tryz.ntmps93
    go_wp2
    go_ret
    exact ⟨rfl, by repeat (first | exact Below.refl _ _ | refine bG ?_ _ | refine bI ?_ _ _ | refine bA ?_ _ | refine bD ?_ | refine bN ?_ _)⟩
  · have h2 : (s.toList == []) = true := by cases e : s.toList with
      | nil => rfl
      | cons x l => rw [e] at h; cases h
    go_enter Tryz.func93, Tryz.ntmps93
    go_wp2
    go_ret
    exact ⟨rfl, by repeat (first | exact Below.refl _ _ | refine bG ?_ _ | refine bI ?_ _ _ | refine bA ?_ _ | refine bD ?_ | refine bN ?_ _)⟩
set_option maxHeartbeats 1000000 in
set_option maxRecDepth 10000 in
theorem says_4 (s : ByteArray) (hs : s.size ≤ 100000) (kp : Option Addr) (nk kc : Nat) (at1 : Int) (w : World) (hl : Lib0 w) :
    Calls Tryz.prog 93 #[.agg #[.int .i64 4, .string s, .slice kp nk kc, .int .i64 at1]] w fun e w' => e = .returned (.bool (textS 4 s.data.toList nk)) ∧ Below w.heap.size w w' := by
  show Calls _ _ _ _ fun e w' => e = .returned (.bool (nameS s.data.toList && decide (bn s.data.toList < 0))) ∧ Below w.heap.size w w'
  have H1 : Hid (∀ w', Below w.heap.size w w' → Calls Tryz.prog 123 #[.string s] w' fun e w2 => e = .returned (.bool (nameS s.data.toList)) ∧ Below w'.heap.size w' w2) := hid fun w' h => name_any s (by omega) w' (hl.later h)
  have H2 : Hid (∀ w', Below w.heap.size w w' → Calls Tryz.prog 124 #[.string s] w' fun e w2 => e = .returned (.int .i64 (bn s.data.toList)) ∧ Below w'.heap.size w' w2) := hid fun w' h => by
    have := builtin_18 s w'
    rwa [ByteArray.toList_eq] at this
  clear hl
  generalize nameS s.data.toList = x at *
  generalize bn s.data.toList = n at *
  cases x
  all_goals
    go_enter Tryz.func93, Tryz.ntmps93
    go_wp2_with (first
      | (go_at_call 123; ((with_reducible refine (H1.out _ ?_).mono ?_)); rotate_left; rintro e w' ⟨rfl, hb⟩; obtain ⟨g1, rfl⟩ := bout hb; clear hb)
      | (go_at_call 124; ((with_reducible refine (H2.out _ ?_).mono ?_)); rotate_left; rintro e w' ⟨rfl, hb⟩; obtain ⟨g1, rfl⟩ := bout hb; clear hb))
    all_goals first
      | (go_ret; exact ⟨rfl, by repeat (first | exact Below.refl _ _ | refine bG ?_ _ | refine bI ?_ _ _ | refine bA ?_ _ | refine bD ?_ | refine bN ?_ _)⟩)
      | exact by repeat (first | exact Below.refl _ _ | refine bG ?_ _ | refine bI ?_ _ _ | refine bA ?_ _ | refine bD ?_ | refine bN ?_ _)
set_option maxHeartbeats 1000000 in
set_option maxRecDepth 10000 in
theorem says_5 (s : ByteArray) (hs : s.size ≤ 100000) (kp : Option Addr) (nk kc : Nat) (at1 : Int) (w : World) (hl : Lib0 w) :
    Calls Tryz.prog 93 #[.agg #[.int .i64 5, .string s, .slice kp nk kc, .int .i64 at1]] w fun e w' => e = .returned (.bool (textS 5 s.data.toList nk)) ∧ Below w.heap.size w w' := by
  show Calls _ _ _ _ fun e w' => e = .returned (.bool (nameS s.data.toList && decide (bn s.data.toList < 0))) ∧ Below w.heap.size w w'
  have H1 : Hid (∀ w', Below w.heap.size w w' → Calls Tryz.prog 123 #[.string s] w' fun e w2 => e = .returned (.bool (nameS s.data.toList)) ∧ Below w'.heap.size w' w2) := hid fun w' h => name_any s (by omega) w' (hl.later h)
  have H2 : Hid (∀ w', Below w.heap.size w w' → Calls Tryz.prog 124 #[.string s] w' fun e w2 => e = .returned (.int .i64 (bn s.data.toList)) ∧ Below w'.heap.size w' w2) := hid fun w' h => by
    have := builtin_18 s w'
    rwa [ByteArray.toList_eq] at this
  clear hl
  generalize nameS s.data.toList = x at *
  generalize bn s.data.toList = n at *
  cases x
  all_goals
    go_enter Tryz.func93, Tryz.ntmps93
    go_wp2_with (first
      | (go_at_call 123; ((with_reducible refine (H1.out _ ?_).mono ?_)); rotate_left; rintro e w' ⟨rfl, hb⟩; obtain ⟨g1, rfl⟩ := bout hb; clear hb)
      | (go_at_call 124; ((with_reducible refine (H2.out _ ?_).mono ?_)); rotate_left; rintro e w' ⟨rfl, hb⟩; obtain ⟨g1, rfl⟩ := bout hb; clear hb))
    all_goals first
      | (go_ret; exact ⟨rfl, by repeat (first | exact Below.refl _ _ | refine bG ?_ _ | refine bI ?_ _ _ | refine bA ?_ _ | refine bD ?_ | refine bN ?_ _)⟩)
      | exact by repeat (first | exact Below.refl _ _ | refine bG ?_ _ | refine bI ?_ _ _ | refine bA ?_ _ | refine bD ?_ | refine bN ?_ _)
set_option maxHeartbeats 1000000 in
set_option maxRecDepth 10000 in
theorem says_6 (s : ByteArray) (hs : s.size ≤ 100000) (kp : Option Addr) (nk kc : Nat) (at1 : Int) (w : World) (hl : Lib0 w) :
    Calls Tryz.prog 93 #[.agg #[.int .i64 6, .string s, .slice kp nk kc, .int .i64 at1]] w fun e w' => e = .returned (.bool (textS 6 s.data.toList nk)) ∧ Below w.heap.size w w' := by
  show Calls _ _ _ _ fun e w' => e = .returned (.bool s.data.toList.isEmpty) ∧ Below w.heap.size w w'
  rw [← ByteArray.toList_eq]
  clear hl
  cases h : s.toList.isEmpty
  · have h2 : (s.toList == []) = false := by cases e : s.toList with
      | nil => rw [e] at h; cases h
      | cons x l => rfl
    go_enter Tryz.func93, Tryz.ntmps93
    go_wp2
    go_ret
    exact ⟨rfl, by repeat (first | exact Below.refl _ _ | refine bG ?_ _ | refine bI ?_ _ _ | refine bA ?_ _ | refine bD ?_ | refine bN ?_ _)⟩
  · have h2 : (s.toList == []) = true := by cases e : s.toList with
      | nil => rfl
      | cons x l => rw [e] at h; cases h
    go_enter Tryz.func93, Tryz.ntmps93
    go_wp2
    go_ret
    exact ⟨rfl, by repeat (first | exact Below.refl _ _ | refine bG ?_ _ | refine bI ?_ _ _ | refine bA ?_ _ | refine bD ?_ | refine bN ?_ _)⟩
set_option maxHeartbeats 1000000 in
set_option maxRecDepth 10000 in
theorem says_7 (s : ByteArray) (hs : s.size ≤ 100000) (kp : Option Addr) (nk kc : Nat) (at1 : Int) (w : World) (hl : Lib0 w) :
    Calls Tryz.prog 93 #[.agg #[.int .i64 7, .string s, .slice kp nk kc, .int .i64 at1]] w fun e w' => e = .returned (.bool (textS 7 s.data.toList nk)) ∧ Below w.heap.size w w' := by
  show Calls _ _ _ _ fun e w' => e = .returned (.bool s.data.toList.isEmpty) ∧ Below w.heap.size w w'
  rw [← ByteArray.toList_eq]
  clear hl
  cases h : s.toList.isEmpty
  · have h2 : (s.toList == []) = false := by cases e : s.toList with
      | nil => rw [e] at h; cases h
      | cons x l => rfl
    go_enter Tryz.func93, Tryz.ntmps93
    go_wp2
    go_ret
    exact ⟨rfl, by repeat (first | exact Below.refl _ _ | refine bG ?_ _ | refine bI ?_ _ _ | refine bA ?_ _ | refine bD ?_ | refine bN ?_ _)⟩
  · have h2 : (s.toList == []) = true := by cases e : s.toList with
      | nil => rfl
      | cons x l => rw [e] at h; cases h
    go_enter Tryz.func93, Tryz.ntmps93
    go_wp2
    go_ret
    exact ⟨rfl, by repeat (first | exact Below.refl _ _ | refine bG ?_ _ | refine bI ?_ _ _ | refine bA ?_ _ | refine bD ?_ | refine bN ?_ _)⟩
set_option maxHeartbeats 1000000 in
set_option maxRecDepth 10000 in
theorem says_8 (s : ByteArray) (hs : s.size ≤ 100000) (kp : Option Addr) (nk kc : Nat) (at1 : Int) (w : World) (hl : Lib0 w) :
    Calls Tryz.prog 93 #[.agg #[.int .i64 8, .string s, .slice kp nk kc, .int .i64 at1]] w fun e w' => e = .returned (.bool (textS 8 s.data.toList nk)) ∧ Below w.heap.size w w' := by
  show Calls _ _ _ _ fun e w' => e = .returned (.bool s.data.toList.isEmpty) ∧ Below w.heap.size w w'
  rw [← ByteArray.toList_eq]
  clear hl
  cases h : s.toList.isEmpty
  · have h2 : (s.toList == []) = false := by cases e : s.toList with
      | nil => rw [e] at h; cases h
      | cons x l => rfl
    go_enter Tryz.func93, Tryz.ntmps93
    go_wp2
    go_ret
    exact ⟨rfl, by repeat (first | exact Below.refl _ _ | refine bG ?_ _ | refine bI ?_ _ _ | refine bA ?_ _ | refine bD ?_ | refine bN ?_ _)⟩
  · have h2 : (s.toList == []) = true := by cases e : s.toList with
      | nil => rfl
      | cons x l => rw [e] at h; cases h
    go_enter Tryz.func93, Tryz.ntmps93
    go_wp2
    go_ret
    exact ⟨rfl, by repeat (first | exact Below.refl _ _ | refine bG ?_ _ | refine bI ?_ _ _ | refine bA ?_ _ | refine bD ?_ | refine bN ?_ _)⟩
set_option maxHeartbeats 1000000 in
set_option maxRecDepth 10000 in
theorem says_9 (s : ByteArray) (hs : s.size ≤ 100000) (kp : Option Addr) (nk kc : Nat) (at1 : Int) (w : World) (hl : Lib0 w) :
    Calls Tryz.prog 93 #[.agg #[.int .i64 9, .string s, .slice kp nk kc, .int .i64 at1]] w fun e w' => e = .returned (.bool (textS 9 s.data.toList nk)) ∧ Below w.heap.size w w' := by
  show Calls _ _ _ _ fun e w' => e = .returned (.bool s.data.toList.isEmpty) ∧ Below w.heap.size w w'
  rw [← ByteArray.toList_eq]
  clear hl
  cases h : s.toList.isEmpty
  · have h2 : (s.toList == []) = false := by cases e : s.toList with
      | nil => rw [e] at h; cases h
      | cons x l => rfl
    go_enter Tryz.func93, Tryz.ntmps93
    go_wp2
    go_ret
    exact ⟨rfl, by repeat (first | exact Below.refl _ _ | refine bG ?_ _ | refine bI ?_ _ _ | refine bA ?_ _ | refine bD ?_ | refine bN ?_ _)⟩
  · have h2 : (s.toList == []) = true := by cases e : s.toList with
      | nil => rfl
      | cons x l => rw [e] at h; cases h
    go_enter Tryz.func93, Tryz.ntmps93
    go_wp2
    go_ret
    exact ⟨rfl, by repeat (first | exact Below.refl _ _ | refine bG ?_ _ | refine bI ?_ _ _ | refine bA ?_ _ | refine bD ?_ | refine bN ?_ _)⟩
set_option maxHeartbeats 1000000 in
set_option maxRecDepth 10000 in
theorem says_10 (s : ByteArray) (hs : s.size ≤ 100000) (kp : Option Addr) (nk kc : Nat) (at1 : Int) (w : World) (hl : Lib0 w) :
    Calls Tryz.prog 93 #[.agg #[.int .i64 10, .string s, .slice kp nk kc, .int .i64 at1]] w fun e w' => e = .returned (.bool (textS 10 s.data.toList nk)) ∧ Below w.heap.size w w' := by
  show Calls _ _ _ _ fun e w' => e = .returned (.bool s.data.toList.isEmpty) ∧ Below w.heap.size w w'
  rw [← ByteArray.toList_eq]
  clear hl
  cases h : s.toList.isEmpty
  · have h2 : (s.toList == []) = false := by cases e : s.toList with
      | nil => rw [e] at h; cases h
      | cons x l => rfl
    go_enter Tryz.func93, Tryz.ntmps93
    go_wp2
    go_ret
    exact ⟨rfl, by repeat (first | exact Below.refl _ _ | refine bG ?_ _ | refine bI ?_ _ _ | refine bA ?_ _ | refine bD ?_ | refine bN ?_ _)⟩
  · have h2 : (s.toList == []) = true := by cases e : s.toList with
      | nil => rfl
      | cons x l => rw [e] at h; cases h
    go_enter Tryz.func93, Tryz.ntmps93
    go_wp2
    go_ret
    exact ⟨rfl, by repeat (first | exact Below.refl _ _ | refine bG ?_ _ | refine bI ?_ _ _ | refine bA ?_ _ | refine bD ?_ | refine bN ?_ _)⟩
set_option maxHeartbeats 1000000 in
set_option maxRecDepth 10000 in
theorem says_11 (s : ByteArray) (hs : s.size ≤ 100000) (kp : Option Addr) (nk kc : Nat) (at1 : Int) (w : World) (hl : Lib0 w) :
    Calls Tryz.prog 93 #[.agg #[.int .i64 11, .string s, .slice kp nk kc, .int .i64 at1]] w fun e w' => e = .returned (.bool (textS 11 s.data.toList nk)) ∧ Below w.heap.size w w' := by
  show Calls _ _ _ _ fun e w' => e = .returned (.bool s.data.toList.isEmpty) ∧ Below w.heap.size w w'
  rw [← ByteArray.toList_eq]
  clear hl
  cases h : s.toList.isEmpty
  · have h2 : (s.toList == []) = false := by cases e : s.toList with
      | nil => rw [e] at h; cases h
      | cons x l => rfl
    go_enter Tryz.func93, Tryz.ntmps93
    go_wp2
    go_ret
    exact ⟨rfl, by repeat (first | exact Below.refl _ _ | refine bG ?_ _ | refine bI ?_ _ _ | refine bA ?_ _ | refine bD ?_ | refine bN ?_ _)⟩
  · have h2 : (s.toList == []) = true := by cases e : s.toList with
      | nil => rfl
      | cons x l => rw [e] at h; cases h
    go_enter Tryz.func93, Tryz.ntmps93
    go_wp2
    go_ret
    exact ⟨rfl, by repeat (first | exact Below.refl _ _ | refine bG ?_ _ | refine bI ?_ _ _ | refine bA ?_ _ | refine bD ?_ | refine bN ?_ _)⟩
set_option maxHeartbeats 1000000 in
set_option maxRecDepth 10000 in
theorem says_12 (s : ByteArray) (hs : s.size ≤ 100000) (kp : Option Addr) (nk kc : Nat) (at1 : Int) (w : World) (hl : Lib0 w) :
    Calls Tryz.prog 93 #[.agg #[.int .i64 12, .string s, .slice kp nk kc, .int .i64 at1]] w fun e w' => e = .returned (.bool (textS 12 s.data.toList nk)) ∧ Below w.heap.size w w' := by
  show Calls _ _ _ _ fun e w' => e = .returned (.bool s.data.toList.isEmpty) ∧ Below w.heap.size w w'
  rw [← ByteArray.toList_eq]
  clear hl
  cases h : s.toList.isEmpty
  · have h2 : (s.toList == []) = false := by cases e : s.toList with
      | nil => rw [e] at h; cases h
      | cons x l => rfl
    go_enter Tryz.func93, Tryz.ntmps93
    go_wp2
    go_ret
    exact ⟨rfl, by repeat (first | exact Below.refl _ _ | refine bG ?_ _ | refine bI ?_ _ _ | refine bA ?_ _ | refine bD ?_ | refine bN ?_ _)⟩
  · have h2 : (s.toList == []) = true := by cases e : s.toList with
      | nil => rfl
      | cons x l => rw [e] at h; cases h
    go_enter Tryz.func93, Tryz.ntmps93
    go_wp2
    go_ret
    exact ⟨rfl, by repeat (first | exact Below.refl _ _ | refine bG ?_ _ | refine bI ?_ _ _ | refine bA ?_ _ | refine bD ?_ | refine bN ?_ _)⟩
set_option maxHeartbeats 1000000 in
set_option maxRecDepth 10000 in
theorem says_13 (s : ByteArray) (hs : s.size ≤ 100000) (kp : Option Addr) (nk kc : Nat) (at1 : Int) (w : World) (hl : Lib0 w) :
    Calls Tryz.prog 93 #[.agg #[.int .i64 13, .string s, .slice kp nk kc, .int .i64 at1]] w fun e w' => e = .returned (.bool (textS 13 s.data.toList nk)) ∧ Below w.heap.size w w' := by
  show Calls _ _ _ _ fun e w' => e = .returned (.bool s.data.toList.isEmpty) ∧ Below w.heap.size w w'
  rw [← ByteArray.toList_eq]
  clear hl
  cases h : s.toList.isEmpty
  · have h2 : (s.toList == []) = false := by cases e : s.toList with
      | nil => rw [e] at h; cases h
      | cons x l => rfl
    go_enter Tryz.func93, Tryz.ntmps93
    go_wp2
    go_ret
    exact ⟨rfl, by repeat (first | exact Below.refl _ _ | refine bG ?_ _ | refine bI ?_ _ _ | refine bA ?_ _ | refine bD ?_ | refine bN ?_ _)⟩
  · have h2 : (s.toList == []) = true := by cases e : s.toList with
      | nil => rfl
      | cons x l => rw [e] at h; cases h
    go_enter Tryz.func93, Tryz.ntmps93
    go_wp2
    go_ret
    exact ⟨rfl, by repeat (first | exact Below.refl _ _ | refine bG ?_ _ | refine bI ?_ _ _ | refine bA ?_ _ | refine bD ?_ | refine bN ?_ _)⟩
set_option maxHeartbeats 1000000 in
set_option maxRecDepth 10000 in
theorem says_14 (s : ByteArray) (hs : s.size ≤ 100000) (kp : Option Addr) (nk kc : Nat) (at1 : Int) (w : World) (hl : Lib0 w) :
    Calls Tryz.prog 93 #[.agg #[.int .i64 14, .string s, .slice kp nk kc, .int .i64 at1]] w fun e w' => e = .returned (.bool (textS 14 s.data.toList nk)) ∧ Below w.heap.size w w' := by
  show Calls _ _ _ _ fun e w' => e = .returned (.bool (boolW.contains s.data.toList)) ∧ Below w.heap.size w w'
  have H1 : Hid (∀ w', Below w.heap.size w w' → Calls Tryz.prog 125 #[.string s, .string ⟨#[116, 114, 117, 101, 32, 102, 97, 108, 115, 101]⟩] w' fun e w2 => e = .returned (.bool (boolW.contains s.data.toList)) ∧ Below w'.heap.size w' w2) := hid fun w' h => one_bool s hs w' (hl.later h)
  clear hl
  generalize boolW.contains s.data.toList = x at *
  go_enter Tryz.func93, Tryz.ntmps93
  go_wp2_with (first
    | (go_at_call 125; ((with_reducible refine (H1.out _ ?_).mono ?_)); rotate_left; rintro e w' ⟨rfl, hb⟩; obtain ⟨g1, rfl⟩ := bout hb; clear hb))
  all_goals first
    | (go_ret; exact ⟨rfl, by repeat (first | exact Below.refl _ _ | refine bG ?_ _ | refine bI ?_ _ _ | refine bA ?_ _ | refine bD ?_ | refine bN ?_ _)⟩)
    | exact by repeat (first | exact Below.refl _ _ | refine bG ?_ _ | refine bI ?_ _ _ | refine bA ?_ _ | refine bD ?_ | refine bN ?_ _)
set_option maxHeartbeats 1000000 in
set_option maxRecDepth 10000 in
theorem says_16 (s : ByteArray) (hs : s.size ≤ 100000) (kp : Option Addr) (nk kc : Nat) (at1 : Int) (w : World) (hl : Lib0 w) :
    Calls Tryz.prog 93 #[.agg #[.int .i64 16, .string s, .slice kp nk kc, .int .i64 at1]] w fun e w' => e = .returned (.bool (textS 16 s.data.toList nk)) ∧ Below w.heap.size w w' := by
  show Calls _ _ _ _ fun e w' => e = .returned (.bool true) ∧ Below w.heap.size w w'
  clear hl
  go_enter Tryz.func93, Tryz.ntmps93
  go_wp2
  go_ret
  exact ⟨rfl, by repeat (first | exact Below.refl _ _ | refine bG ?_ _ | refine bI ?_ _ _ | refine bA ?_ _ | refine bD ?_ | refine bN ?_ _)⟩
set_option maxHeartbeats 1000000 in
set_option maxRecDepth 10000 in
theorem says_17 (s : ByteArray) (hs : s.size ≤ 100000) (kp : Option Addr) (nk kc : Nat) (at1 : Int) (w : World) (hl : Lib0 w) :
    Calls Tryz.prog 93 #[.agg #[.int .i64 17, .string s, .slice kp nk kc, .int .i64 at1]] w fun e w' => e = .returned (.bool (textS 17 s.data.toList nk)) ∧ Below w.heap.size w w' := by
  show Calls _ _ _ _ fun e w' => e = .returned (.bool (nameS s.data.toList && decide (bn s.data.toList < 0))) ∧ Below w.heap.size w w'
  have H1 : Hid (∀ w', Below w.heap.size w w' → Calls Tryz.prog 123 #[.string s] w' fun e w2 => e = .returned (.bool (nameS s.data.toList)) ∧ Below w'.heap.size w' w2) := hid fun w' h => name_any s (by omega) w' (hl.later h)
  have H2 : Hid (∀ w', Below w.heap.size w w' → Calls Tryz.prog 124 #[.string s] w' fun e w2 => e = .returned (.int .i64 (bn s.data.toList)) ∧ Below w'.heap.size w' w2) := hid fun w' h => by
    have := builtin_18 s w'
    rwa [ByteArray.toList_eq] at this
  clear hl
  generalize nameS s.data.toList = x at *
  generalize bn s.data.toList = n at *
  cases x
  all_goals
    go_enter Tryz.func93, Tryz.ntmps93
    go_wp2_with (first
      | (go_at_call 123; ((with_reducible refine (H1.out _ ?_).mono ?_)); rotate_left; rintro e w' ⟨rfl, hb⟩; obtain ⟨g1, rfl⟩ := bout hb; clear hb)
      | (go_at_call 124; ((with_reducible refine (H2.out _ ?_).mono ?_)); rotate_left; rintro e w' ⟨rfl, hb⟩; obtain ⟨g1, rfl⟩ := bout hb; clear hb))
    all_goals first
      | (go_ret; exact ⟨rfl, by repeat (first | exact Below.refl _ _ | refine bG ?_ _ | refine bI ?_ _ _ | refine bA ?_ _ | refine bD ?_ | refine bN ?_ _)⟩)
      | exact by repeat (first | exact Below.refl _ _ | refine bG ?_ _ | refine bI ?_ _ _ | refine bA ?_ _ | refine bD ?_ | refine bN ?_ _)
set_option maxHeartbeats 1000000 in
set_option maxRecDepth 10000 in
theorem says_18 (s : ByteArray) (hs : s.size ≤ 100000) (kp : Option Addr) (nk kc : Nat) (at1 : Int) (w : World) (hl : Lib0 w) :
    Calls Tryz.prog 93 #[.agg #[.int .i64 18, .string s, .slice kp nk kc, .int .i64 at1]] w fun e w' => e = .returned (.bool (textS 18 s.data.toList nk)) ∧ Below w.heap.size w w' := by
  show Calls _ _ _ _ fun e w' => e = .returned (.bool (nameS s.data.toList)) ∧ Below w.heap.size w w'
  have H1 : Hid (∀ w', Below w.heap.size w w' → Calls Tryz.prog 123 #[.string s] w' fun e w2 => e = .returned (.bool (nameS s.data.toList)) ∧ Below w'.heap.size w' w2) := hid fun w' h => name_any s (by omega) w' (hl.later h)
  clear hl
  generalize nameS s.data.toList = x at *
  go_enter Tryz.func93, Tryz.ntmps93
  go_wp2_with (first
    | (go_at_call 123; ((with_reducible refine (H1.out _ ?_).mono ?_)); rotate_left; rintro e w' ⟨rfl, hb⟩; obtain ⟨g1, rfl⟩ := bout hb; clear hb))
  all_goals first
    | (go_ret; exact ⟨rfl, by repeat (first | exact Below.refl _ _ | refine bG ?_ _ | refine bI ?_ _ _ | refine bA ?_ _ | refine bD ?_ | refine bN ?_ _)⟩)
    | exact by repeat (first | exact Below.refl _ _ | refine bG ?_ _ | refine bI ?_ _ _ | refine bA ?_ _ | refine bD ?_ | refine bN ?_ _)
set_option maxHeartbeats 1000000 in
set_option maxRecDepth 10000 in
theorem says_19 (s : ByteArray) (hs : s.size ≤ 100000) (kp : Option Addr) (nk kc : Nat) (at1 : Int) (w : World) (hl : Lib0 w) :
    Calls Tryz.prog 93 #[.agg #[.int .i64 19, .string s, .slice kp nk kc, .int .i64 at1]] w fun e w' => e = .returned (.bool (textS 19 s.data.toList nk)) ∧ Below w.heap.size w w' := by
  show Calls _ _ _ _ fun e w' => e = .returned (.bool s.data.toList.isEmpty) ∧ Below w.heap.size w w'
  rw [← ByteArray.toList_eq]
  clear hl
  cases h : s.toList.isEmpty
  · have h2 : (s.toList == []) = false := by cases e : s.toList with
      | nil => rw [e] at h; cases h
      | cons x l => rfl
    go_enter Tryz.func93, Tryz.ntmps93
    go_wp2
    go_ret
    exact ⟨rfl, by repeat (first | exact Below.refl _ _ | refine bG ?_ _ | refine bI ?_ _ _ | refine bA ?_ _ | refine bD ?_ | refine bN ?_ _)⟩
  · have h2 : (s.toList == []) = true := by cases e : s.toList with
      | nil => rfl
      | cons x l => rw [e] at h; cases h
    go_enter Tryz.func93, Tryz.ntmps93
    go_wp2
    go_ret
    exact ⟨rfl, by repeat (first | exact Below.refl _ _ | refine bG ?_ _ | refine bI ?_ _ _ | refine bA ?_ _ | refine bD ?_ | refine bN ?_ _)⟩
set_option maxHeartbeats 1000000 in
set_option maxRecDepth 10000 in
theorem says_20 (s : ByteArray) (hs : s.size ≤ 100000) (kp : Option Addr) (nk kc : Nat) (at1 : Int) (w : World) (hl : Lib0 w) :
    Calls Tryz.prog 93 #[.agg #[.int .i64 20, .string s, .slice kp nk kc, .int .i64 at1]] w fun e w' => e = .returned (.bool (textS 20 s.data.toList nk)) ∧ Below w.heap.size w w' := by
  show Calls _ _ _ _ fun e w' => e = .returned (.bool s.data.toList.isEmpty) ∧ Below w.heap.size w w'
  rw [← ByteArray.toList_eq]
  clear hl
  cases h : s.toList.isEmpty
  · have h2 : (s.toList == []) = false := by cases e : s.toList with
      | nil => rw [e] at h; cases h
      | cons x l => rfl
    go_enter Tryz.func93, Tryz.ntmps93
    go_wp2
    go_ret
    exact ⟨rfl, by repeat (first | exact Below.refl _ _ | refine bG ?_ _ | refine bI ?_ _ _ | refine bA ?_ _ | refine bD ?_ | refine bN ?_ _)⟩
  · have h2 : (s.toList == []) = true := by cases e : s.toList with
      | nil => rfl
      | cons x l => rw [e] at h; cases h
    go_enter Tryz.func93, Tryz.ntmps93
    go_wp2
    go_ret
    exact ⟨rfl, by repeat (first | exact Below.refl _ _ | refine bG ?_ _ | refine bI ?_ _ _ | refine bA ?_ _ | refine bD ?_ | refine bN ?_ _)⟩
set_option maxHeartbeats 1000000 in
set_option maxRecDepth 10000 in
theorem says_21 (s : ByteArray) (hs : s.size ≤ 100000) (kp : Option Addr) (nk kc : Nat) (at1 : Int) (w : World) (hl : Lib0 w) :
    Calls Tryz.prog 93 #[.agg #[.int .i64 21, .string s, .slice kp nk kc, .int .i64 at1]] w fun e w' => e = .returned (.bool (textS 21 s.data.toList nk)) ∧ Below w.heap.size w w' := by
  show Calls _ _ _ _ fun e w' => e = .returned (.bool (decide (bn s.data.toList = (nk : Int)))) ∧ Below w.heap.size w w'
  have H2 : Hid (∀ w', Calls Tryz.prog 124 #[.string s] w' fun e w2 => e = .returned (.int .i64 (bn s.data.toList)) ∧ Below w'.heap.size w' w2) := hid fun w' => by
    have := builtin_18 s w'
    rwa [ByteArray.toList_eq] at this
  clear hl
  generalize bn s.data.toList = n at *
  go_enter Tryz.func93, Tryz.ntmps93
  go_wp2_with fail
  go_region_held3 (fun w' => w'.cell? ⟨w.heap.size, 1, none⟩ = some (.string s) ∧ w'.cell? ⟨w.heap.size, 2, none⟩ = some (.slice kp nk kc)) (simp [go_sem])
    (first | (go_at_call 124; ((with_reducible refine (H2.out _).mono ?_)); rintro e w' ⟨rfl, hb⟩; obtain ⟨g2, rfl⟩ := bout hb; clear hb))
  go_wp2
  go_ret
  exact ⟨by rw [← Bool.beq_eq_decide_eq]; rfl, by repeat (first | exact Below.refl _ _ | refine bG ?_ _ | refine bI ?_ _ _ | refine bA ?_ _ | refine bD ?_ | refine bN ?_ _)⟩
set_option maxHeartbeats 1000000 in
set_option maxRecDepth 10000 in
theorem says_22 (s : ByteArray) (hs : s.size ≤ 100000) (kp : Option Addr) (nk kc : Nat) (at1 : Int) (w : World) (hl : Lib0 w) :
    Calls Tryz.prog 93 #[.agg #[.int .i64 22, .string s, .slice kp nk kc, .int .i64 at1]] w fun e w' => e = .returned (.bool (textS 22 s.data.toList nk)) ∧ Below w.heap.size w w' := by
  show Calls _ _ _ _ fun e w' => e = .returned (.bool s.data.toList.isEmpty) ∧ Below w.heap.size w w'
  rw [← ByteArray.toList_eq]
  clear hl
  cases h : s.toList.isEmpty
  · have h2 : (s.toList == []) = false := by cases e : s.toList with
      | nil => rw [e] at h; cases h
      | cons x l => rfl
    go_enter Tryz.func93, Tryz.ntmps93
    go_wp2
    go_ret
    exact ⟨rfl, by repeat (first | exact Below.refl _ _ | refine bG ?_ _ | refine bI ?_ _ _ | refine bA ?_ _ | refine bD ?_ | refine bN ?_ _)⟩
  · have h2 : (s.toList == []) = true := by cases e : s.toList with
      | nil => rfl
      | cons x l => rw [e] at h; cases h
    go_enter Tryz.func93, Tryz.ntmps93
    go_wp2
    go_ret
    exact ⟨rfl, by repeat (first | exact Below.refl _ _ | refine bG ?_ _ | refine bI ?_ _ _ | refine bA ?_ _ | refine bD ?_ | refine bN ?_ _)⟩
set_option maxHeartbeats 1000000 in
set_option maxRecDepth 10000 in
theorem says_23 (s : ByteArray) (hs : s.size ≤ 100000) (kp : Option Addr) (nk kc : Nat) (at1 : Int) (w : World) (hl : Lib0 w) :
    Calls Tryz.prog 93 #[.agg #[.int .i64 23, .string s, .slice kp nk kc, .int .i64 at1]] w fun e w' => e = .returned (.bool (textS 23 s.data.toList nk)) ∧ Below w.heap.size w w' := by
  show Calls _ _ _ _ fun e w' => e = .returned (.bool (nameS s.data.toList && decide (bn s.data.toList < 0))) ∧ Below w.heap.size w w'
  have H1 : Hid (∀ w', Below w.heap.size w w' → Calls Tryz.prog 123 #[.string s] w' fun e w2 => e = .returned (.bool (nameS s.data.toList)) ∧ Below w'.heap.size w' w2) := hid fun w' h => name_any s (by omega) w' (hl.later h)
  have H2 : Hid (∀ w', Below w.heap.size w w' → Calls Tryz.prog 124 #[.string s] w' fun e w2 => e = .returned (.int .i64 (bn s.data.toList)) ∧ Below w'.heap.size w' w2) := hid fun w' h => by
    have := builtin_18 s w'
    rwa [ByteArray.toList_eq] at this
  clear hl
  generalize nameS s.data.toList = x at *
  generalize bn s.data.toList = n at *
  cases x
  all_goals
    go_enter Tryz.func93, Tryz.ntmps93
    go_wp2_with (first
      | (go_at_call 123; ((with_reducible refine (H1.out _ ?_).mono ?_)); rotate_left; rintro e w' ⟨rfl, hb⟩; obtain ⟨g1, rfl⟩ := bout hb; clear hb)
      | (go_at_call 124; ((with_reducible refine (H2.out _ ?_).mono ?_)); rotate_left; rintro e w' ⟨rfl, hb⟩; obtain ⟨g1, rfl⟩ := bout hb; clear hb))
    all_goals first
      | (go_ret; exact ⟨rfl, by repeat (first | exact Below.refl _ _ | refine bG ?_ _ | refine bI ?_ _ _ | refine bA ?_ _ | refine bD ?_ | refine bN ?_ _)⟩)
      | exact by repeat (first | exact Below.refl _ _ | refine bG ?_ _ | refine bI ?_ _ _ | refine bA ?_ _ | refine bD ?_ | refine bN ?_ _)
set_option maxHeartbeats 1000000 in
set_option maxRecDepth 10000 in
theorem says_24 (s : ByteArray) (hs : s.size ≤ 100000) (kp : Option Addr) (nk kc : Nat) (at1 : Int) (w : World) (hl : Lib0 w) :
    Calls Tryz.prog 93 #[.agg #[.int .i64 24, .string s, .slice kp nk kc, .int .i64 at1]] w fun e w' => e = .returned (.bool (textS 24 s.data.toList nk)) ∧ Below w.heap.size w w' := by
  show Calls _ _ _ _ fun e w' => e = .returned (.bool s.data.toList.isEmpty) ∧ Below w.heap.size w w'
  rw [← ByteArray.toList_eq]
  clear hl
  cases h : s.toList.isEmpty
  · have h2 : (s.toList == []) = false := by cases e : s.toList with
      | nil => rw [e] at h; cases h
      | cons x l => rfl
    go_enter Tryz.func93, Tryz.ntmps93
    go_wp2
    go_ret
    exact ⟨rfl, by repeat (first | exact Below.refl _ _ | refine bG ?_ _ | refine bI ?_ _ _ | refine bA ?_ _ | refine bD ?_ | refine bN ?_ _)⟩
  · have h2 : (s.toList == []) = true := by cases e : s.toList with
      | nil => rfl
      | cons x l => rw [e] at h; cases h
    go_enter Tryz.func93, Tryz.ntmps93
    go_wp2
    go_ret
    exact ⟨rfl, by repeat (first | exact Below.refl _ _ | refine bG ?_ _ | refine bI ?_ _ _ | refine bA ?_ _ | refine bD ?_ | refine bN ?_ _)⟩
set_option maxHeartbeats 1000000 in
set_option maxRecDepth 10000 in
theorem says_25 (s : ByteArray) (hs : s.size ≤ 100000) (kp : Option Addr) (nk kc : Nat) (at1 : Int) (w : World) (hl : Lib0 w) :
    Calls Tryz.prog 93 #[.agg #[.int .i64 25, .string s, .slice kp nk kc, .int .i64 at1]] w fun e w' => e = .returned (.bool (textS 25 s.data.toList nk)) ∧ Below w.heap.size w w' := by
  show Calls _ _ _ _ fun e w' => e = .returned (.bool (nameS s.data.toList)) ∧ Below w.heap.size w w'
  have H1 : Hid (∀ w', Below w.heap.size w w' → Calls Tryz.prog 123 #[.string s] w' fun e w2 => e = .returned (.bool (nameS s.data.toList)) ∧ Below w'.heap.size w' w2) := hid fun w' h => name_any s (by omega) w' (hl.later h)
  clear hl
  generalize nameS s.data.toList = x at *
  go_enter Tryz.func93, Tryz.ntmps93
  go_wp2_with (first
    | (go_at_call 123; ((with_reducible refine (H1.out _ ?_).mono ?_)); rotate_left; rintro e w' ⟨rfl, hb⟩; obtain ⟨g1, rfl⟩ := bout hb; clear hb))
  all_goals first
    | (go_ret; exact ⟨rfl, by repeat (first | exact Below.refl _ _ | refine bG ?_ _ | refine bI ?_ _ _ | refine bA ?_ _ | refine bD ?_ | refine bN ?_ _)⟩)
    | exact by repeat (first | exact Below.refl _ _ | refine bG ?_ _ | refine bI ?_ _ _ | refine bA ?_ _ | refine bD ?_ | refine bN ?_ _)
set_option maxHeartbeats 1000000 in
set_option maxRecDepth 10000 in
theorem says_26 (s : ByteArray) (hs : s.size ≤ 100000) (kp : Option Addr) (nk kc : Nat) (at1 : Int) (w : World) (hl : Lib0 w) :
    Calls Tryz.prog 93 #[.agg #[.int .i64 26, .string s, .slice kp nk kc, .int .i64 at1]] w fun e w' => e = .returned (.bool (textS 26 s.data.toList nk)) ∧ Below w.heap.size w w' := by
  show Calls _ _ _ _ fun e w' => e = .returned (.bool s.data.toList.isEmpty) ∧ Below w.heap.size w w'
  rw [← ByteArray.toList_eq]
  clear hl
  cases h : s.toList.isEmpty
  · have h2 : (s.toList == []) = false := by cases e : s.toList with
      | nil => rw [e] at h; cases h
      | cons x l => rfl
    go_enter Tryz.func93, Tryz.ntmps93
    go_wp2
    go_ret
    exact ⟨rfl, by repeat (first | exact Below.refl _ _ | refine bG ?_ _ | refine bI ?_ _ _ | refine bA ?_ _ | refine bD ?_ | refine bN ?_ _)⟩
  · have h2 : (s.toList == []) = true := by cases e : s.toList with
      | nil => rfl
      | cons x l => rw [e] at h; cases h
    go_enter Tryz.func93, Tryz.ntmps93
    go_wp2
    go_ret
    exact ⟨rfl, by repeat (first | exact Below.refl _ _ | refine bG ?_ _ | refine bI ?_ _ _ | refine bA ?_ _ | refine bD ?_ | refine bN ?_ _)⟩
set_option maxHeartbeats 1000000 in
set_option maxRecDepth 10000 in
theorem says_27 (s : ByteArray) (hs : s.size ≤ 100000) (kp : Option Addr) (nk kc : Nat) (at1 : Int) (w : World) (hl : Lib0 w) :
    Calls Tryz.prog 93 #[.agg #[.int .i64 27, .string s, .slice kp nk kc, .int .i64 at1]] w fun e w' => e = .returned (.bool (textS 27 s.data.toList nk)) ∧ Below w.heap.size w w' := by
  show Calls _ _ _ _ fun e w' => e = .returned (.bool (binW.contains s.data.toList)) ∧ Below w.heap.size w w'
  have H1 : Hid (∀ w', Below w.heap.size w w' → Calls Tryz.prog 125 #[.string s, .string ⟨#[43, 32, 45, 32, 42, 32, 47, 47, 32, 37, 32, 46, 46, 32, 61, 61, 32, 126, 61, 32, 60, 32, 60, 61, 32, 62, 32, 62, 61]⟩] w' fun e w2 => e = .returned (.bool (binW.contains s.data.toList)) ∧ Below w'.heap.size w' w2) := hid fun w' h => one_bin s hs w' (hl.later h)
  clear hl
  generalize binW.contains s.data.toList = x at *
  go_enter Tryz.func93, Tryz.ntmps93
  go_wp2_with (first
    | (go_at_call 125; ((with_reducible refine (H1.out _ ?_).mono ?_)); rotate_left; rintro e w' ⟨rfl, hb⟩; obtain ⟨g1, rfl⟩ := bout hb; clear hb))
  all_goals first
    | (go_ret; exact ⟨rfl, by repeat (first | exact Below.refl _ _ | refine bG ?_ _ | refine bI ?_ _ _ | refine bA ?_ _ | refine bD ?_ | refine bN ?_ _)⟩)
    | exact by repeat (first | exact Below.refl _ _ | refine bG ?_ _ | refine bI ?_ _ _ | refine bA ?_ _ | refine bD ?_ | refine bN ?_ _)
set_option maxHeartbeats 1000000 in
set_option maxRecDepth 10000 in
theorem says_28 (s : ByteArray) (hs : s.size ≤ 100000) (kp : Option Addr) (nk kc : Nat) (at1 : Int) (w : World) (hl : Lib0 w) :
    Calls Tryz.prog 93 #[.agg #[.int .i64 28, .string s, .slice kp nk kc, .int .i64 at1]] w fun e w' => e = .returned (.bool (textS 28 s.data.toList nk)) ∧ Below w.heap.size w w' := by
  show Calls _ _ _ _ fun e w' => e = .returned (.bool (unW.contains s.data.toList)) ∧ Below w.heap.size w w'
  have H1 : Hid (∀ w', Below w.heap.size w w' → Calls Tryz.prog 125 #[.string s, .string ⟨#[45, 32, 110, 111, 116, 32, 35]⟩] w' fun e w2 => e = .returned (.bool (unW.contains s.data.toList)) ∧ Below w'.heap.size w' w2) := hid fun w' h => one_un s hs w' (hl.later h)
  clear hl
  generalize unW.contains s.data.toList = x at *
  go_enter Tryz.func93, Tryz.ntmps93
  go_wp2_with (first
    | (go_at_call 125; ((with_reducible refine (H1.out _ ?_).mono ?_)); rotate_left; rintro e w' ⟨rfl, hb⟩; obtain ⟨g1, rfl⟩ := bout hb; clear hb))
  all_goals first
    | (go_ret; exact ⟨rfl, by repeat (first | exact Below.refl _ _ | refine bG ?_ _ | refine bI ?_ _ _ | refine bA ?_ _ | refine bD ?_ | refine bN ?_ _)⟩)
    | exact by repeat (first | exact Below.refl _ _ | refine bG ?_ _ | refine bI ?_ _ _ | refine bA ?_ _ | refine bD ?_ | refine bN ?_ _)
set_option maxHeartbeats 1000000 in
set_option maxRecDepth 10000 in
theorem says_29 (s : ByteArray) (hs : s.size ≤ 100000) (kp : Option Addr) (nk kc : Nat) (at1 : Int) (w : World) (hl : Lib0 w) :
    Calls Tryz.prog 93 #[.agg #[.int .i64 29, .string s, .slice kp nk kc, .int .i64 at1]] w fun e w' => e = .returned (.bool (textS 29 s.data.toList nk)) ∧ Below w.heap.size w w' := by
  show Calls _ _ _ _ fun e w' => e = .returned (.bool s.data.toList.isEmpty) ∧ Below w.heap.size w w'
  rw [← ByteArray.toList_eq]
  clear hl
  cases h : s.toList.isEmpty
  · have h2 : (s.toList == []) = false := by cases e : s.toList with
      | nil => rw [e] at h; cases h
      | cons x l => rfl
    go_enter Tryz.func93, Tryz.ntmps93
    go_wp2
    go_ret
    exact ⟨rfl, by repeat (first | exact Below.refl _ _ | refine bG ?_ _ | refine bI ?_ _ _ | refine bA ?_ _ | refine bD ?_ | refine bN ?_ _)⟩
  · have h2 : (s.toList == []) = true := by cases e : s.toList with
      | nil => rfl
      | cons x l => rw [e] at h; cases h
    go_enter Tryz.func93, Tryz.ntmps93
    go_wp2
    go_ret
    exact ⟨rfl, by repeat (first | exact Below.refl _ _ | refine bG ?_ _ | refine bI ?_ _ _ | refine bA ?_ _ | refine bD ?_ | refine bN ?_ _)⟩
set_option maxHeartbeats 1000000 in
set_option maxRecDepth 10000 in
theorem says_30 (s : ByteArray) (hs : s.size ≤ 100000) (kp : Option Addr) (nk kc : Nat) (at1 : Int) (w : World) (hl : Lib0 w) :
    Calls Tryz.prog 93 #[.agg #[.int .i64 30, .string s, .slice kp nk kc, .int .i64 at1]] w fun e w' => e = .returned (.bool (textS 30 s.data.toList nk)) ∧ Below w.heap.size w w' := by
  show Calls _ _ _ _ fun e w' => e = .returned (.bool s.data.toList.isEmpty) ∧ Below w.heap.size w w'
  rw [← ByteArray.toList_eq]
  clear hl
  cases h : s.toList.isEmpty
  · have h2 : (s.toList == []) = false := by cases e : s.toList with
      | nil => rw [e] at h; cases h
      | cons x l => rfl
    go_enter Tryz.func93, Tryz.ntmps93
    go_wp2
    go_ret
    exact ⟨rfl, by repeat (first | exact Below.refl _ _ | refine bG ?_ _ | refine bI ?_ _ _ | refine bA ?_ _ | refine bD ?_ | refine bN ?_ _)⟩
  · have h2 : (s.toList == []) = true := by cases e : s.toList with
      | nil => rfl
      | cons x l => rw [e] at h; cases h
    go_enter Tryz.func93, Tryz.ntmps93
    go_wp2
    go_ret
    exact ⟨rfl, by repeat (first | exact Below.refl _ _ | refine bG ?_ _ | refine bI ?_ _ _ | refine bA ?_ _ | refine bD ?_ | refine bN ?_ _)⟩
set_option maxHeartbeats 1000000 in
set_option maxRecDepth 10000 in
theorem says_31 (s : ByteArray) (hs : s.size ≤ 100000) (kp : Option Addr) (nk kc : Nat) (at1 : Int) (w : World) (hl : Lib0 w) :
    Calls Tryz.prog 93 #[.agg #[.int .i64 31, .string s, .slice kp nk kc, .int .i64 at1]] w fun e w' => e = .returned (.bool (textS 31 s.data.toList nk)) ∧ Below w.heap.size w w' := by
  show Calls _ _ _ _ fun e w' => e = .returned (.bool (tnameW.contains s.data.toList)) ∧ Below w.heap.size w w'
  have H1 : Hid (∀ w', Below w.heap.size w w' → Calls Tryz.prog 125 #[.string s, .string ⟨#[97, 110, 121, 32, 110, 105, 108, 32, 98, 111, 111, 108, 32, 105, 110, 116, 32, 115, 116, 114, 105, 110, 103, 32, 116, 97, 98, 108, 101, 32, 116, 104, 114, 101, 97, 100]⟩] w' fun e w2 => e = .returned (.bool (tnameW.contains s.data.toList)) ∧ Below w'.heap.size w' w2) := hid fun w' h => one_tname s hs w' (hl.later h)
  clear hl
  generalize tnameW.contains s.data.toList = x at *
  go_enter Tryz.func93, Tryz.ntmps93
  go_wp2_with (first
    | (go_at_call 125; ((with_reducible refine (H1.out _ ?_).mono ?_)); rotate_left; rintro e w' ⟨rfl, hb⟩; obtain ⟨g1, rfl⟩ := bout hb; clear hb))
  all_goals first
    | (go_ret; exact ⟨rfl, by repeat (first | exact Below.refl _ _ | refine bG ?_ _ | refine bI ?_ _ _ | refine bA ?_ _ | refine bD ?_ | refine bN ?_ _)⟩)
    | exact by repeat (first | exact Below.refl _ _ | refine bG ?_ _ | refine bI ?_ _ _ | refine bA ?_ _ | refine bD ?_ | refine bN ?_ _)
set_option maxHeartbeats 1000000 in
set_option maxRecDepth 10000 in
theorem says_32 (s : ByteArray) (hs : s.size ≤ 100000) (kp : Option Addr) (nk kc : Nat) (at1 : Int) (w : World) (hl : Lib0 w) :
    Calls Tryz.prog 93 #[.agg #[.int .i64 32, .string s, .slice kp nk kc, .int .i64 at1]] w fun e w' => e = .returned (.bool (textS 32 s.data.toList nk)) ∧ Below w.heap.size w w' := by
  show Calls _ _ _ _ fun e w' => e = .returned (.bool s.data.toList.isEmpty) ∧ Below w.heap.size w w'
  rw [← ByteArray.toList_eq]
  clear hl
  cases h : s.toList.isEmpty
  · have h2 : (s.toList == []) = false := by cases e : s.toList with
      | nil => rw [e] at h; cases h
      | cons x l => rfl
    go_enter Tryz.func93, Tryz.ntmps93
    go_wp2
    go_ret
    exact ⟨rfl, by repeat (first | exact Below.refl _ _ | refine bG ?_ _ | refine bI ?_ _ _ | refine bA ?_ _ | refine bD ?_ | refine bN ?_ _)⟩
  · have h2 : (s.toList == []) = true := by cases e : s.toList with
      | nil => rfl
      | cons x l => rw [e] at h; cases h
    go_enter Tryz.func93, Tryz.ntmps93
    go_wp2
    go_ret
    exact ⟨rfl, by repeat (first | exact Below.refl _ _ | refine bG ?_ _ | refine bI ?_ _ _ | refine bA ?_ _ | refine bD ?_ | refine bN ?_ _)⟩
set_option maxHeartbeats 1000000 in
set_option maxRecDepth 10000 in
theorem says_33 (s : ByteArray) (hs : s.size ≤ 100000) (kp : Option Addr) (nk kc : Nat) (at1 : Int) (w : World) (hl : Lib0 w) :
    Calls Tryz.prog 93 #[.agg #[.int .i64 33, .string s, .slice kp nk kc, .int .i64 at1]] w fun e w' => e = .returned (.bool (textS 33 s.data.toList nk)) ∧ Below w.heap.size w w' := by
  show Calls _ _ _ _ fun e w' => e = .returned (.bool (nameS s.data.toList)) ∧ Below w.heap.size w w'
  have H1 : Hid (∀ w', Below w.heap.size w w' → Calls Tryz.prog 123 #[.string s] w' fun e w2 => e = .returned (.bool (nameS s.data.toList)) ∧ Below w'.heap.size w' w2) := hid fun w' h => name_any s (by omega) w' (hl.later h)
  clear hl
  generalize nameS s.data.toList = x at *
  go_enter Tryz.func93, Tryz.ntmps93
  go_wp2_with (first
    | (go_at_call 123; ((with_reducible refine (H1.out _ ?_).mono ?_)); rotate_left; rintro e w' ⟨rfl, hb⟩; obtain ⟨g1, rfl⟩ := bout hb; clear hb))
  all_goals first
    | (go_ret; exact ⟨rfl, by repeat (first | exact Below.refl _ _ | refine bG ?_ _ | refine bI ?_ _ _ | refine bA ?_ _ | refine bD ?_ | refine bN ?_ _)⟩)
    | exact by repeat (first | exact Below.refl _ _ | refine bG ?_ _ | refine bI ?_ _ _ | refine bA ?_ _ | refine bD ?_ | refine bN ?_ _)
set_option maxHeartbeats 1000000 in
set_option maxRecDepth 10000 in
theorem says_34 (s : ByteArray) (hs : s.size ≤ 100000) (kp : Option Addr) (nk kc : Nat) (at1 : Int) (w : World) (hl : Lib0 w) :
    Calls Tryz.prog 93 #[.agg #[.int .i64 34, .string s, .slice kp nk kc, .int .i64 at1]] w fun e w' => e = .returned (.bool (textS 34 s.data.toList nk)) ∧ Below w.heap.size w w' := by
  show Calls _ _ _ _ fun e w' => e = .returned (.bool s.data.toList.isEmpty) ∧ Below w.heap.size w w'
  rw [← ByteArray.toList_eq]
  clear hl
  cases h : s.toList.isEmpty
  · have h2 : (s.toList == []) = false := by cases e : s.toList with
      | nil => rw [e] at h; cases h
      | cons x l => rfl
    go_enter Tryz.func93, Tryz.ntmps93
    go_wp2
    go_ret
    exact ⟨rfl, by repeat (first | exact Below.refl _ _ | refine bG ?_ _ | refine bI ?_ _ _ | refine bA ?_ _ | refine bD ?_ | refine bN ?_ _)⟩
  · have h2 : (s.toList == []) = true := by cases e : s.toList with
      | nil => rfl
      | cons x l => rw [e] at h; cases h
    go_enter Tryz.func93, Tryz.ntmps93
    go_wp2
    go_ret
    exact ⟨rfl, by repeat (first | exact Below.refl _ _ | refine bG ?_ _ | refine bI ?_ _ _ | refine bA ?_ _ | refine bD ?_ | refine bN ?_ _)⟩
set_option maxHeartbeats 1000000 in
set_option maxRecDepth 10000 in
theorem says_35 (s : ByteArray) (hs : s.size ≤ 100000) (kp : Option Addr) (nk kc : Nat) (at1 : Int) (w : World) (hl : Lib0 w) :
    Calls Tryz.prog 93 #[.agg #[.int .i64 35, .string s, .slice kp nk kc, .int .i64 at1]] w fun e w' => e = .returned (.bool (textS 35 s.data.toList nk)) ∧ Below w.heap.size w w' := by
  show Calls _ _ _ _ fun e w' => e = .returned (.bool s.data.toList.isEmpty) ∧ Below w.heap.size w w'
  rw [← ByteArray.toList_eq]
  clear hl
  cases h : s.toList.isEmpty
  · have h2 : (s.toList == []) = false := by cases e : s.toList with
      | nil => rw [e] at h; cases h
      | cons x l => rfl
    go_enter Tryz.func93, Tryz.ntmps93
    go_wp2
    go_ret
    exact ⟨rfl, by repeat (first | exact Below.refl _ _ | refine bG ?_ _ | refine bI ?_ _ _ | refine bA ?_ _ | refine bD ?_ | refine bN ?_ _)⟩
  · have h2 : (s.toList == []) = true := by cases e : s.toList with
      | nil => rfl
      | cons x l => rw [e] at h; cases h
    go_enter Tryz.func93, Tryz.ntmps93
    go_wp2
    go_ret
    exact ⟨rfl, by repeat (first | exact Below.refl _ _ | refine bG ?_ _ | refine bI ?_ _ _ | refine bA ?_ _ | refine bD ?_ | refine bN ?_ _)⟩
set_option maxHeartbeats 1000000 in
set_option maxRecDepth 10000 in
theorem says_36 (s : ByteArray) (hs : s.size ≤ 100000) (kp : Option Addr) (nk kc : Nat) (at1 : Int) (w : World) (hl : Lib0 w) :
    Calls Tryz.prog 93 #[.agg #[.int .i64 36, .string s, .slice kp nk kc, .int .i64 at1]] w fun e w' => e = .returned (.bool (textS 36 s.data.toList nk)) ∧ Below w.heap.size w w' := by
  show Calls _ _ _ _ fun e w' => e = .returned (.bool (maskS s.data.toList)) ∧ Below w.heap.size w w'
  have H1 : Hid (∀ w', Below w.heap.size w w' → Calls Tryz.prog 128 #[.string s] w' fun e w2 => e = .returned (.bool (maskS s.data.toList)) ∧ Below w'.heap.size w' w2) := hid fun w' h => mask_any s hs w' (hl.later h)
  clear hl
  generalize maskS s.data.toList = x at *
  go_enter Tryz.func93, Tryz.ntmps93
  go_wp2_with (first
    | (go_at_call 128; ((with_reducible refine (H1.out _ ?_).mono ?_)); rotate_left; rintro e w' ⟨rfl, hb⟩; obtain ⟨g1, rfl⟩ := bout hb; clear hb))
  all_goals first
    | (go_ret; exact ⟨rfl, by repeat (first | exact Below.refl _ _ | refine bG ?_ _ | refine bI ?_ _ _ | refine bA ?_ _ | refine bD ?_ | refine bN ?_ _)⟩)
    | exact by repeat (first | exact Below.refl _ _ | refine bG ?_ _ | refine bI ?_ _ _ | refine bA ?_ _ | refine bD ?_ | refine bN ?_ _)
end Go.Proofs.YtbgjanmheagilaaGreatDoor
