/- What a node's text must be, both walks. Conditions: the library's variables; short texts. -/
import Derived.Test.YtbgjanmheagilaaGreatDoorT15X
import Derived.Test.YtbgjanmheagilaaGreatDoorS3X
set_option linter.unusedVariables false
set_option linter.unusedSimpArgs false
namespace Go.Proofs.YtbgjanmheagilaaGreatDoor
open Go Go.RowKit
set_option maxHeartbeats 1000000 in
theorem says_any (k : Nat) (h1 : 1 ≤ k) (h2 : k ≤ 36) (s : ByteArray) (hs : s.size ≤ 100000) (kp : Option Addr) (nk kc : Nat) (at1 : Int) (w : World) (hl : Lib0 w) :
    Calls Tryz.prog 93 #[.agg #[.int .i64 (k : Int), .string s, .slice kp nk kc, .int .i64 at1]] w fun e w' => e = .returned (.bool (textS k s.data.toList nk)) ∧ Below w.heap.size w w' := by
  rcases (by omega : k = 1 ∨ k = 2 ∨ k = 3 ∨ k = 4 ∨ k = 5 ∨ k = 6 ∨ k = 7 ∨ k = 8 ∨ k = 9 ∨ k = 10 ∨ k = 11 ∨ k = 12 ∨ k = 13 ∨ k = 14 ∨ k = 15 ∨ k = 16 ∨ k = 17 ∨ k = 18 ∨ k = 19 ∨ k = 20 ∨ k = 21 ∨ k = 22 ∨ k = 23 ∨ k = 24 ∨ k = 25 ∨ k = 26 ∨ k = 27 ∨ k = 28 ∨ k = 29 ∨ k = 30 ∨ k = 31 ∨ k = 32 ∨ k = 33 ∨ k = 34 ∨ k = 35 ∨ k = 36) with rfl | rfl | rfl | rfl | rfl | rfl | rfl | rfl | rfl | rfl | rfl | rfl | rfl | rfl | rfl | rfl | rfl | rfl | rfl | rfl | rfl | rfl | rfl | rfl | rfl | rfl | rfl | rfl | rfl | rfl | rfl | rfl | rfl | rfl | rfl | rfl
  · exact says_1 s hs kp nk kc at1 w hl
  · exact says_2 s hs kp nk kc at1 w hl
  · exact says_3 s hs kp nk kc at1 w hl
  · exact says_4 s hs kp nk kc at1 w hl
  · exact says_5 s hs kp nk kc at1 w hl
  · exact says_6 s hs kp nk kc at1 w hl
  · exact says_7 s hs kp nk kc at1 w hl
  · exact says_8 s hs kp nk kc at1 w hl
  · exact says_9 s hs kp nk kc at1 w hl
  · exact says_10 s hs kp nk kc at1 w hl
  · exact says_11 s hs kp nk kc at1 w hl
  · exact says_12 s hs kp nk kc at1 w hl
  · exact says_13 s hs kp nk kc at1 w hl
  · exact says_14 s hs kp nk kc at1 w hl
  · exact says_15 s hs kp nk kc at1 w hl
  · exact says_16 s hs kp nk kc at1 w hl
  · exact says_17 s hs kp nk kc at1 w hl
  · exact says_18 s hs kp nk kc at1 w hl
  · exact says_19 s hs kp nk kc at1 w hl
  · exact says_20 s hs kp nk kc at1 w hl
  · exact says_21 s hs kp nk kc at1 w hl
  · exact says_22 s hs kp nk kc at1 w hl
  · exact says_23 s hs kp nk kc at1 w hl
  · exact says_24 s hs kp nk kc at1 w hl
  · exact says_25 s hs kp nk kc at1 w hl
  · exact says_26 s hs kp nk kc at1 w hl
  · exact says_27 s hs kp nk kc at1 w hl
  · exact says_28 s hs kp nk kc at1 w hl
  · exact says_29 s hs kp nk kc at1 w hl
  · exact says_30 s hs kp nk kc at1 w hl
  · exact says_31 s hs kp nk kc at1 w hl
  · exact says_32 s hs kp nk kc at1 w hl
  · exact says_33 s hs kp nk kc at1 w hl
  · exact says_34 s hs kp nk kc at1 w hl
  · exact says_35 s hs kp nk kc at1 w hl
  · exact says_36 s hs kp nk kc at1 w hl
theorem text_any (k : Nat) (h1 : 1 ≤ k) (h2 : k ≤ 36) (s : ByteArray) (hs : s.size ≤ 100000) (kp : Option Addr) (nk kc : Nat) (at1 : Int) (w : World) (hl : Lib0 w) :
    Calls Tryz.prog 43 #[.agg #[.int .i64 (k : Int), .string s, .slice kp nk kc, .int .i64 at1]] w fun e w' => e = .returned (.bool (textS k s.data.toList nk)) ∧ Below w.heap.size w w' := by
  rcases (by omega : k = 1 ∨ k = 2 ∨ k = 3 ∨ k = 4 ∨ k = 5 ∨ k = 6 ∨ k = 7 ∨ k = 8 ∨ k = 9 ∨ k = 10 ∨ k = 11 ∨ k = 12 ∨ k = 13 ∨ k = 14 ∨ k = 15 ∨ k = 16 ∨ k = 17 ∨ k = 18 ∨ k = 19 ∨ k = 20 ∨ k = 21 ∨ k = 22 ∨ k = 23 ∨ k = 24 ∨ k = 25 ∨ k = 26 ∨ k = 27 ∨ k = 28 ∨ k = 29 ∨ k = 30 ∨ k = 31 ∨ k = 32 ∨ k = 33 ∨ k = 34 ∨ k = 35 ∨ k = 36) with rfl | rfl | rfl | rfl | rfl | rfl | rfl | rfl | rfl | rfl | rfl | rfl | rfl | rfl | rfl | rfl | rfl | rfl | rfl | rfl | rfl | rfl | rfl | rfl | rfl | rfl | rfl | rfl | rfl | rfl | rfl | rfl | rfl | rfl | rfl | rfl
  · exact text_1 s hs kp nk kc at1 w hl
  · exact text_2 s hs kp nk kc at1 w hl
  · exact text_3 s hs kp nk kc at1 w hl
  · exact text_4 s hs kp nk kc at1 w hl
  · exact text_5 s hs kp nk kc at1 w hl
  · exact text_6 s hs kp nk kc at1 w hl
  · exact text_7 s hs kp nk kc at1 w hl
  · exact text_8 s hs kp nk kc at1 w hl
  · exact text_9 s hs kp nk kc at1 w hl
  · exact text_10 s hs kp nk kc at1 w hl
  · exact text_11 s hs kp nk kc at1 w hl
  · exact text_12 s hs kp nk kc at1 w hl
  · exact text_13 s hs kp nk kc at1 w hl
  · exact text_14 s hs kp nk kc at1 w hl
  · exact text_15 s hs kp nk kc at1 w hl
  · exact text_16 s hs kp nk kc at1 w hl
  · exact text_17 s hs kp nk kc at1 w hl
  · exact text_18 s hs kp nk kc at1 w hl
  · exact text_19 s hs kp nk kc at1 w hl
  · exact text_20 s hs kp nk kc at1 w hl
  · exact text_21 s hs kp nk kc at1 w hl
  · exact text_22 s hs kp nk kc at1 w hl
  · exact text_23 s hs kp nk kc at1 w hl
  · exact text_24 s hs kp nk kc at1 w hl
  · exact text_25 s hs kp nk kc at1 w hl
  · exact text_26 s hs kp nk kc at1 w hl
  · exact text_27 s hs kp nk kc at1 w hl
  · exact text_28 s hs kp nk kc at1 w hl
  · exact text_29 s hs kp nk kc at1 w hl
  · exact text_30 s hs kp nk kc at1 w hl
  · exact text_31 s hs kp nk kc at1 w hl
  · exact text_32 s hs kp nk kc at1 w hl
  · exact text_33 s hs kp nk kc at1 w hl
  · exact text_34 s hs kp nk kc at1 w hl
  · exact text_35 s hs kp nk kc at1 w hl
  · exact text_36 s hs kp nk kc at1 w hl
end Go.Proofs.YtbgjanmheagilaaGreatDoor
