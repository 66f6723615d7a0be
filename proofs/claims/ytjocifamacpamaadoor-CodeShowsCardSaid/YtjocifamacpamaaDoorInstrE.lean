/- The reference of instr: its rows, Has, Encode. Conditions: none. -/
import Derived.Test.YtjocifamacpamaaDoorInstrD

namespace Go.Proofs.YtjocifamacpamaaDoor
open Go.RowKit
set_option linter.unusedVariables false
theorem first_1 (w : World) : Calls Tryd.prog 27 #[.int .i64 1] w fun e w' => e = .returned (.tuple #[.string (nmI 1), .string (fmI 1)]) ∧ Below w.heap.size w w' := by
  go_enter Tryd.func27, Tryd.ntmps27
  go_wp2
  go_ret2
  exact ⟨rfl, Below.refl _ _⟩
theorem first_2 (w : World) : Calls Tryd.prog 27 #[.int .i64 2] w fun e w' => e = .returned (.tuple #[.string (nmI 2), .string (fmI 2)]) ∧ Below w.heap.size w w' := by
  go_enter Tryd.func27, Tryd.ntmps27
  go_wp2
  go_ret2
  exact ⟨rfl, Below.refl _ _⟩
theorem first_3 (w : World) : Calls Tryd.prog 27 #[.int .i64 3] w fun e w' => e = .returned (.tuple #[.string (nmI 3), .string (fmI 3)]) ∧ Below w.heap.size w w' := by
  go_enter Tryd.func27, Tryd.ntmps27
  go_wp2
  go_ret2
  exact ⟨rfl, Below.refl _ _⟩
theorem first_4 (w : World) : Calls Tryd.prog 27 #[.int .i64 4] w fun e w' => e = .returned (.tuple #[.string (nmI 4), .string (fmI 4)]) ∧ Below w.heap.size w w' := by
  go_enter Tryd.func27, Tryd.ntmps27
  go_wp2
  go_ret2
  exact ⟨rfl, Below.refl _ _⟩
theorem first_5 (w : World) : Calls Tryd.prog 27 #[.int .i64 5] w fun e w' => e = .returned (.tuple #[.string (nmI 5), .string (fmI 5)]) ∧ Below w.heap.size w w' := by
  go_enter Tryd.func27, Tryd.ntmps27
  go_wp2
  go_ret2
  exact ⟨rfl, Below.refl _ _⟩
theorem first_6 (w : World) : Calls Tryd.prog 27 #[.int .i64 6] w fun e w' => e = .returned (.tuple #[.string (nmI 6), .string (fmI 6)]) ∧ Below w.heap.size w w' := by
  go_enter Tryd.func27, Tryd.ntmps27
  go_wp2
  go_ret2
  exact ⟨rfl, Below.refl _ _⟩
theorem first_7 (w : World) : Calls Tryd.prog 27 #[.int .i64 7] w fun e w' => e = .returned (.tuple #[.string (nmI 7), .string (fmI 7)]) ∧ Below w.heap.size w w' := by
  go_enter Tryd.func27, Tryd.ntmps27
  go_wp2
  go_ret2
  exact ⟨rfl, Below.refl _ _⟩
theorem first_8 (w : World) : Calls Tryd.prog 27 #[.int .i64 8] w fun e w' => e = .returned (.tuple #[.string (nmI 8), .string (fmI 8)]) ∧ Below w.heap.size w w' := by
  go_enter Tryd.func27, Tryd.ntmps27
  go_wp2
  go_ret2
  exact ⟨rfl, Below.refl _ _⟩
theorem first_9 (w : World) : Calls Tryd.prog 27 #[.int .i64 9] w fun e w' => e = .returned (.tuple #[.string (nmI 9), .string (fmI 9)]) ∧ Below w.heap.size w w' := by
  go_enter Tryd.func27, Tryd.ntmps27
  go_wp2
  go_ret2
  exact ⟨rfl, Below.refl _ _⟩
theorem first_no (n : Int) (h : n < 1 ∨ 9 < n) (w : World) : Calls Tryd.prog 27 #[.int .i64 n] w fun e w' => e = .returned (.tuple #[.string ⟨#[]⟩, .string ⟨#[]⟩]) ∧ Below w.heap.size w w' := by
  have h1 : (n == 1) = false := by rw [beq_eq_false_iff_ne]; omega
  have h2 : (n == 2) = false := by rw [beq_eq_false_iff_ne]; omega
  have h3 : (n == 3) = false := by rw [beq_eq_false_iff_ne]; omega
  have h4 : (n == 4) = false := by rw [beq_eq_false_iff_ne]; omega
  have h5 : (n == 5) = false := by rw [beq_eq_false_iff_ne]; omega
  have h6 : (n == 6) = false := by rw [beq_eq_false_iff_ne]; omega
  have h7 : (n == 7) = false := by rw [beq_eq_false_iff_ne]; omega
  have h8 : (n == 8) = false := by rw [beq_eq_false_iff_ne]; omega
  have h9 : (n == 9) = false := by rw [beq_eq_false_iff_ne]; omega
  clear h
  go_enter Tryd.func27, Tryd.ntmps27
  go_wp2
  go_ret2
  exact ⟨rfl, Below.refl _ _⟩
theorem first_any (n : Int) (h : n < 11) (w : World) : Calls Tryd.prog 27 #[.int .i64 n] w fun e w' => e = .returned (.tuple #[.string (nmI n), .string (fmI n)]) ∧ Below w.heap.size w w' := by
  by_cases h1 : n = 1
  · subst h1; exact first_1 w
  by_cases h2 : n = 2
  · subst h2; exact first_2 w
  by_cases h3 : n = 3
  · subst h3; exact first_3 w
  by_cases h4 : n = 4
  · subst h4; exact first_4 w
  by_cases h5 : n = 5
  · subst h5; exact first_5 w
  by_cases h6 : n = 6
  · subst h6; exact first_6 w
  by_cases h7 : n = 7
  · subst h7; exact first_7 w
  by_cases h8 : n = 8
  · subst h8; exact first_8 w
  by_cases h9 : n = 9
  · subst h9; exact first_9 w
  have e : nmI n = ⟨#[]⟩ ∧ fmI n = ⟨#[]⟩ := by
    by_cases hn : n < 0
    · exact ⟨nmI_out n (Or.inl hn), fmI_out n (Or.inl hn)⟩
    · rcases (by omega : n = 0 ∨ n = 10) with rfl | rfl <;> exact ⟨rfl, rfl⟩
  rw [e.1, e.2]
  exact first_no n (by omega) w
theorem row_any (n : Int) (w : World) : Calls Tryd.prog 17 #[.int .i64 n] w fun e w' => e = .returned (.tuple #[.string (nmI n), .string (fmI n)]) ∧ Below w.heap.size w w' := by
  by_cases h : n < 11
  · go_enter Tryd.func17, Tryd.ntmps17
    go_wp2_with (go_at_call 27; refine (first_any _ h _).mono ?_; rintro e w' ⟨rfl, hb⟩; obtain ⟨g1, rfl⟩ := bout hb; clear hb)
    go_ret2
    exact ⟨rfl, bG (Below.refl _ _) _⟩
  · have h' : 11 ≤ n := by omega
    clear h
    go_enter Tryd.func17, Tryd.ntmps17
    go_wp2_with (go_at_call 28; refine (second_any _ h' _).mono ?_; rintro e w' ⟨rfl, hb⟩; obtain ⟨g1, rfl⟩ := bout hb; clear hb)
    go_ret2
    exact ⟨rfl, bG (Below.refl _ _) _⟩

def hasR (s : ByteArray) (c : Int) : Bool := s.data.toList.any fun b => (b.toNat : Int) == c
theorem any_take_succ (s : ByteArray) (c : Int) (k : Nat) (h : k < s.size) : (s.data.toList.take (k + 1)).any (fun b => (b.toNat : Int) == c) = ((s.data.toList.take k).any (fun b => (b.toNat : Int) == c) || ((s[k].toNat : Int) == c)) := by
  rw [List.take_succ_eq_append_getElem (by simpa using h), List.any_append]; simp; rfl
theorem any_of_take (l : List UInt8) (p : UInt8 → Bool) (k : Nat) (h : (l.take k).any p = true) : l.any p = true := by
  rw [List.any_eq_true] at *
  obtain ⟨x, hx, hp⟩ := h
  exact ⟨x, List.mem_of_mem_take hx, hp⟩
set_option maxHeartbeats 400000 in
theorem has_any (s : ByteArray) (c : Int) (w : World) (hs : s.size ≤ maxLen) :
    Calls Tryd.prog 26 #[.string s, .int .u8 c] w fun e w' => e = .returned (.bool (hasR s c)) ∧ w = w' := by
  unfold maxLen at hs
  go_enter Tryd.func26, Tryd.ntmps26
  go_wp2
  go_loop [5] (fun i => ∃ k : Nat, k ≤ s.size ∧ i = .int .i64 k ∧ (s.data.toList.take k).any (fun b => (b.toNat : Int) == c) = false) (fun i => s.size - (intOf i).toNat)
  case atStart => exact ⟨0, Nat.zero_le _, rfl, rfl⟩
  case round =>
    obtain ⟨k, hk, rfl, hno⟩ := hrel
    have Hno := hid hno; clear hno
    by_cases hlt : k < s.size
    · by_cases he : ((s[k].toNat : Int) == c) = true
      · go_wp2
        go_ret
        refine ⟨?_, rfl⟩
        have : hasR s c = true := any_of_take _ _ (k + 1) (by rw [any_take_succ s c k hlt, he, Bool.or_true])
        rw [this]; rfl
      · simp only [Bool.not_eq_true] at he
        go_wp2
        go_round
        case rel => exact ⟨k + 1, by omega, by go_num, by rw [any_take_succ s c k hlt, he, Hno.out]; rfl⟩
        case measure => simp [intOf]; omega
    · go_wp2
      go_ret
      refine ⟨?_, rfl⟩
      have : hasR s c = false := by
        have h := Hno.out
        rwa [List.take_of_length_le (by simp; omega)] at h
      rw [this]; rfl

/-- One of the three fields. -/
def okR (F : ByteArray) (c x : Int) : Bool := decide (0 ≤ x) && decide (x ≤ 255) && (x == 0 || hasR F c)
def okD (F : ByteArray) (x : Int) : Bool := decide (-32768 ≤ x) && decide (x ≤ 32767) && (x == 0 || hasR F 68)
def wordR (n a b c d : Int) : Int := ((n + a % 4294967296 * 256 + b % 4294967296 * 65536 + c % 4294967296 * 16777216) % 4294967296 + IntKind.u16.wrap d % 4294967296 * 65536 % 4294967296) % 4294967296
theorem wordR_zero (n a b c : Int) : wordR n a b c 0 = (n + a % 4294967296 * 256 + b % 4294967296 * 65536 + c % 4294967296 * 16777216) % 4294967296 := by
  have : IntKind.u16.wrap 0 = 0 := by decide
  unfold wordR; rw [this]; simp
def refK (F : ByteArray) (n a b c d : Int) : Nat → Option Int
  | 0 => if okR F 65 a = true then (if okR F 66 b = true then (if okR F 67 c = true then (if okD F d = true then some (wordR n a b c d) else none) else none) else none) else none
  | 1 => if okR F 66 b = true then (if okR F 67 c = true then (if okD F d = true then some (wordR n a b c d) else none) else none) else none
  | 2 => if okR F 67 c = true then (if okD F d = true then some (wordR n a b c d) else none) else none
  | _ => if okD F d = true then some (wordR n a b c d) else none
theorem okR_low (F : ByteArray) (c x : Int) (h : x < 0) : okR F c x = false := by simp [okR]; omega
theorem okR_high (F : ByteArray) (c x : Int) (h : 255 < x) : okR F c x = false := by simp [okR]; omega
theorem okR_zero (F : ByteArray) (c : Int) : okR F c 0 = true := by simp [okR]
theorem okR_has (F : ByteArray) (c x : Int) (h0 : 0 < x) (h1 : x ≤ 255) : okR F c x = hasR F c := by
  have : (x == 0) = false := by rw [beq_eq_false_iff_ne]; omega
  simp [okR, this]; omega
theorem okD_low (F : ByteArray) (x : Int) (h : x < -32768) : okD F x = false := by simp [okD]; omega
theorem okD_high (F : ByteArray) (x : Int) (h : 32767 < x) : okD F x = false := by simp [okD]; omega
theorem okD_zero (F : ByteArray) : okD F 0 = true := by simp [okD]
theorem okD_has (F : ByteArray) (x : Int) (hn : x ≠ 0) (h0 : -32768 ≤ x) (h1 : x ≤ 32767) : okD F x = hasR F 68 := by
  have : (x == 0) = false := by rw [beq_eq_false_iff_ne]; omega
  simp [okD, this]; omega
set_option maxHeartbeats 3200000 in
theorem refEnc_some (n a b c d : Int) (N F : ByteArray) (hN : N = nmI n) (hF : F = fmI n) (hE : F.toList.isEmpty = false) (hsz : F.size ≤ maxLen) (R : Option Int) (hR : refK F n a b c d 0 = R) (w : World) :
    Calls Tryd.prog 16 #[.agg #[.int .i64 n, .int .i64 a, .int .i64 b, .int .i64 c, .int .i64 d]] w fun e w' => e = .returned (encRes R) ∧ Below w.heap.size w w' := by
  have HR := hid hR
  clear hR
  have Hsz := hid hsz
  have hof := row_any n
  rw [← hN, ← hF] at hof
  have Hof := hid hof
  clear hof hN hF hsz
  go_enter Tryd.func16, Tryd.ntmps16
  go_wp2_with (go_at_call 17; refine (Hof.out _).mono ?_; rintro e w' ⟨rfl, hb⟩; obtain ⟨g1, rfl⟩ := bout hb; clear hb)
  go_loop [7, 8, 26] (fun _ _ i => ∃ k : Nat, k ≤ 3 ∧ i = .int .i64 k ∧ Hid (refK F n a b c d k = R)) (fun _ _ i => 3 - (intOf i).toNat)
  case atStart => exact ⟨0, by omega, rfl, HR⟩
  case round =>
    clear HR
    obtain ⟨k, hk, rfl, HR⟩ := hrel
    match k, hk with
    | 0, _ =>
      rcases Int.lt_trichotomy a 0 with h1 | h1 | h1
      · have h2 : a ≤ 255 := by omega
        go_wp2
        go_ret2
        refine ⟨?_, by repeat (first | exact Below.refl _ _ | refine bG ?_ _ | refine bI ?_ _ _ | refine bA ?_ _)⟩
        have h := HR.out
        simp only [refK, okR_low F 65 a h1, Bool.false_eq_true, if_false] at h
        subst h; rfl
      · subst h1
        go_wp2
        go_round
        case rel =>
          refine ⟨1, by omega, rfl, ?_⟩
          have h := HR.out
          simp only [refK, okR_zero, if_true] at h
          exact h
        case measure => simp [intOf]
      · have h3 : (a != 0) = true := by rw [bne_iff_ne]; omega
        by_cases h2 : a ≤ 255
        · cases hb : hasR F 65
          · go_wp2_with (go_at_call 26; refine (has_any F 65 _ Hsz.out).mono ?_; rintro e w2 ⟨rfl, rfl⟩)
            go_ret2
            refine ⟨?_, by repeat (first | exact Below.refl _ _ | refine bG ?_ _ | refine bI ?_ _ _ | refine bA ?_ _)⟩
            have h := HR.out
            simp only [refK, okR_has F 65 a h1 h2, hb, Bool.false_eq_true, if_false] at h
            subst h; rfl
          · go_wp2_with (go_at_call 26; refine (has_any F 65 _ Hsz.out).mono ?_; rintro e w2 ⟨rfl, rfl⟩)
            go_round
            case rel =>
              refine ⟨1, by omega, rfl, ?_⟩
              have h := HR.out
              simp only [refK, okR_has F 65 a h1 h2, hb, if_true] at h
              exact h
            case measure => simp [intOf]
        · have h4 : 255 < a := by omega
          go_wp2
          go_ret2
          refine ⟨?_, by repeat (first | exact Below.refl _ _ | refine bG ?_ _ | refine bI ?_ _ _ | refine bA ?_ _)⟩
          have h := HR.out
          simp only [refK, okR_high F 65 a h4, Bool.false_eq_true, if_false] at h
          subst h; rfl
    | 1, _ =>
      rcases Int.lt_trichotomy b 0 with h1 | h1 | h1
      · have h2 : b ≤ 255 := by omega
        go_wp2
        go_ret2
        refine ⟨?_, by repeat (first | exact Below.refl _ _ | refine bG ?_ _ | refine bI ?_ _ _ | refine bA ?_ _)⟩
        have h := HR.out
        simp only [refK, okR_low F 66 b h1, Bool.false_eq_true, if_false] at h
        subst h; rfl
      · subst h1
        go_wp2
        go_round
        case rel =>
          refine ⟨2, by omega, rfl, ?_⟩
          have h := HR.out
          simp only [refK, okR_zero, if_true] at h
          exact h
        case measure => simp [intOf]
      · have h3 : (b != 0) = true := by rw [bne_iff_ne]; omega
        by_cases h2 : b ≤ 255
        · cases hb : hasR F 66
          · go_wp2_with (go_at_call 26; refine (has_any F 66 _ Hsz.out).mono ?_; rintro e w2 ⟨rfl, rfl⟩)
            go_ret2
            refine ⟨?_, by repeat (first | exact Below.refl _ _ | refine bG ?_ _ | refine bI ?_ _ _ | refine bA ?_ _)⟩
            have h := HR.out
            simp only [refK, okR_has F 66 b h1 h2, hb, Bool.false_eq_true, if_false] at h
            subst h; rfl
          · go_wp2_with (go_at_call 26; refine (has_any F 66 _ Hsz.out).mono ?_; rintro e w2 ⟨rfl, rfl⟩)
            go_round
            case rel =>
              refine ⟨2, by omega, rfl, ?_⟩
              have h := HR.out
              simp only [refK, okR_has F 66 b h1 h2, hb, if_true] at h
              exact h
            case measure => simp [intOf]
        · have h4 : 255 < b := by omega
          go_wp2
          go_ret2
          refine ⟨?_, by repeat (first | exact Below.refl _ _ | refine bG ?_ _ | refine bI ?_ _ _ | refine bA ?_ _)⟩
          have h := HR.out
          simp only [refK, okR_high F 66 b h4, Bool.false_eq_true, if_false] at h
          subst h; rfl
    | 2, _ =>
      rcases Int.lt_trichotomy c 0 with h1 | h1 | h1
      · have h2 : c ≤ 255 := by omega
        go_wp2
        go_ret2
        refine ⟨?_, by repeat (first | exact Below.refl _ _ | refine bG ?_ _ | refine bI ?_ _ _ | refine bA ?_ _)⟩
        have h := HR.out
        simp only [refK, okR_low F 67 c h1, Bool.false_eq_true, if_false] at h
        subst h; rfl
      · subst h1
        go_wp2
        go_round
        case rel =>
          refine ⟨3, by omega, rfl, ?_⟩
          have h := HR.out
          simp only [refK, okR_zero, if_true] at h
          exact h
        case measure => simp [intOf]
      · have h3 : (c != 0) = true := by rw [bne_iff_ne]; omega
        by_cases h2 : c ≤ 255
        · cases hb : hasR F 67
          · go_wp2_with (go_at_call 26; refine (has_any F 67 _ Hsz.out).mono ?_; rintro e w2 ⟨rfl, rfl⟩)
            go_ret2
            refine ⟨?_, by repeat (first | exact Below.refl _ _ | refine bG ?_ _ | refine bI ?_ _ _ | refine bA ?_ _)⟩
            have h := HR.out
            simp only [refK, okR_has F 67 c h1 h2, hb, Bool.false_eq_true, if_false] at h
            subst h; rfl
          · go_wp2_with (go_at_call 26; refine (has_any F 67 _ Hsz.out).mono ?_; rintro e w2 ⟨rfl, rfl⟩)
            go_round
            case rel =>
              refine ⟨3, by omega, rfl, ?_⟩
              have h := HR.out
              simp only [refK, okR_has F 67 c h1 h2, hb, if_true] at h
              exact h
            case measure => simp [intOf]
        · have h4 : 255 < c := by omega
          go_wp2
          go_ret2
          refine ⟨?_, by repeat (first | exact Below.refl _ _ | refine bG ?_ _ | refine bI ?_ _ _ | refine bA ?_ _)⟩
          have h := HR.out
          simp only [refK, okR_high F 67 c h4, Bool.false_eq_true, if_false] at h
          subst h; rfl
    | 3, _ =>
      by_cases hl : d < -32768
      · have h2 : d ≤ 32767 := by omega
        go_wp2
        go_ret2
        refine ⟨?_, by repeat (first | exact Below.refl _ _ | refine bG ?_ _ | refine bI ?_ _ _ | refine bA ?_ _)⟩
        have h := HR.out
        simp only [refK, okD_low F d hl, Bool.false_eq_true, if_false] at h
        subst h; rfl
      by_cases hh : 32767 < d
      · go_wp2
        go_ret2
        refine ⟨?_, by repeat (first | exact Below.refl _ _ | refine bG ?_ _ | refine bI ?_ _ _ | refine bA ?_ _)⟩
        have h := HR.out
        simp only [refK, okD_high F d hh, Bool.false_eq_true, if_false] at h
        subst h; rfl
      by_cases hz : d = 0
      · subst hz
        go_wp2
        go_ret2
        refine ⟨?_, by repeat (first | exact Below.refl _ _ | refine bG ?_ _ | refine bI ?_ _ _ | refine bA ?_ _)⟩
        have h := HR.out
        simp only [refK, okD_zero, wordR_zero, if_true] at h
        subst h; rfl
      · have h3 : (d != 0) = true := by rw [bne_iff_ne]; omega
        have h4 : -32768 ≤ d := by omega
        have h5 : d ≤ 32767 := by omega
        cases hb : hasR F 68
        · go_wp2_with (go_at_call 26; refine (has_any F 68 _ Hsz.out).mono ?_; rintro e w2 ⟨rfl, rfl⟩)
          go_ret2
          refine ⟨?_, by repeat (first | exact Below.refl _ _ | refine bG ?_ _ | refine bI ?_ _ _ | refine bA ?_ _)⟩
          have h := HR.out
          simp only [refK, okD_has F d hz h4 h5, hb, Bool.false_eq_true, if_false] at h
          subst h; rfl
        · go_wp2_with (go_at_call 26; refine (has_any F 68 _ Hsz.out).mono ?_; rintro e w2 ⟨rfl, rfl⟩)
          go_ret2
          refine ⟨?_, by repeat (first | exact Below.refl _ _ | refine bG ?_ _ | refine bI ?_ _ _ | refine bA ?_ _)⟩
          have h := HR.out
          simp only [refK, okD_has F d hz h4 h5, hb, if_true] at h
          subst h; rfl

end Go.Proofs.YtjocifamacpamaaDoor
