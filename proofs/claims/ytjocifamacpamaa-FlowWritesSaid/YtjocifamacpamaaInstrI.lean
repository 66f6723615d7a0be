/- InstrReads, InstrBack: what is decoded, and there and back. Conditions: none. -/
import Derived.Test.YtjocifamacpamaaDecB
import Derived.Test.YtjocifamacpamaaInstrH
namespace Go.Proofs.Ytjocifamacpamaa
open Go.ChangeShapes Go.WideShapes Go.ChangeAt Go.RowKit
set_option linter.unusedVariables false
set_option linter.unusedSimpArgs false
theorem decV_form (x : Int) (n a b c d : Int) : (decV x (refS n a b c d) n a b c d = .tuple #[insV n a b c d, .int .i64 0] ∧ refS n a b c d = some x) ∨ decV x (refS n a b c d) n a b c d = badV := by
  unfold decV
  by_cases h : refS n a b c d = some x
  · rw [if_pos h]; exact Or.inl ⟨rfl, h⟩
  · rw [if_neg h]; exact Or.inr rfl
theorem decS_form (x : Int) : (∃ n a b c d, decS x = .tuple #[insV n a b c d, .int .i64 0] ∧ refS n a b c d = some x) ∨ decS x = badV := by
  unfold decS
  split
  · rcases decV_form x (x % 256) (x / 256 % 256) 0 0 (dI x) with h | h
    · exact Or.inl ⟨_, _, _, _, _, h⟩
    · exact Or.inr h
  · rcases decV_form x (x % 256) (x / 256 % 256) (x / 65536 % 256) (x / 16777216) 0 with h | h
    · exact Or.inl ⟨_, _, _, _, _, h⟩
    · exact Or.inr h
theorem back (n a b c d x : Int) (h : refS n a b c d = some x) : 0 ≤ x ∧ x < 4294967296 ∧ decS x = .tuple #[insV n a b c d, .int .i64 0] := by
  have hc := fmI_case n
  generalize hF : fmI n = F at hc
  cases hc with
  | c0 => rw [refS_0 _ _ _ _ _ hF] at h; exact absurd h (by simp)
  | c1 =>
    have hn := fm_byte n (by rw [hF]; decide +kernel)
    have h2 := (refS_1 _ _ _ _ _ _ hF).1 h
    have h0 : 0 ≤ x := by omega
    have h1 : x < 4294967296 := by omega
    obtain ⟨d0, d1, d2⟩ := dI_range x h0 h1
    have e0 : x % 256 = n := by omega
    have e1 : x / 256 % 256 = a := by omega
    have e2 : x / 65536 % 256 = b := by omega
    have e3 : x / 16777216 = c := by omega
    obtain rfl : d = 0 := by omega
    refine ⟨h0, h1, ?_⟩
    unfold decS
    rw [e0, hF, if_neg (by decide), e1, e2, e3, h, decV_eq]
  | c2 =>
    have hn := fm_byte n (by rw [hF]; decide +kernel)
    have h2 := (refS_2 _ _ _ _ _ _ hF).1 h
    have h0 : 0 ≤ x := by omega
    have h1 : x < 4294967296 := by omega
    obtain ⟨d0, d1, d2⟩ := dI_range x h0 h1
    have e0 : x % 256 = n := by omega
    have e1 : x / 256 % 256 = a := by omega
    have e2 : x / 65536 % 256 = b := by omega
    have e3 : x / 16777216 = c := by omega
    obtain rfl : d = 0 := by omega
    refine ⟨h0, h1, ?_⟩
    unfold decS
    rw [e0, hF, if_neg (by decide), e1, e2, e3, h, decV_eq]
  | c3 =>
    have hn := fm_byte n (by rw [hF]; decide +kernel)
    have h2 := (refS_3 _ _ _ _ _ _ hF).1 h
    have h0 : 0 ≤ x := by omega
    have h1 : x < 4294967296 := by omega
    obtain ⟨d0, d1, d2⟩ := dI_range x h0 h1
    have e0 : x % 256 = n := by omega
    have e1 : x / 256 % 256 = a := by omega
    have e2 : x / 65536 % 256 = b := by omega
    have e3 : x / 16777216 = c := by omega
    obtain rfl : d = 0 := by omega
    refine ⟨h0, h1, ?_⟩
    unfold decS
    rw [e0, hF, if_neg (by decide), e1, e2, e3, h, decV_eq]
  | c4 =>
    have hn := fm_byte n (by rw [hF]; decide +kernel)
    have h2 := (refS_4 _ _ _ _ _ _ hF).1 h
    have h0 : 0 ≤ x := by omega
    have h1 : x < 4294967296 := by omega
    obtain ⟨d0, d1, d2⟩ := dI_range x h0 h1
    have e0 : x % 256 = n := by omega
    have e1 : x / 256 % 256 = a := by omega
    have e2 : dI x = d := by omega
    obtain rfl : b = 0 := by omega
    obtain rfl : c = 0 := by omega
    refine ⟨h0, h1, ?_⟩
    unfold decS
    rw [e0, hF, if_pos (by decide), e1, e2, h, decV_eq]
  | c5 =>
    have hn := fm_byte n (by rw [hF]; decide +kernel)
    have h2 := (refS_5 _ _ _ _ _ _ hF).1 h
    have h0 : 0 ≤ x := by omega
    have h1 : x < 4294967296 := by omega
    obtain ⟨d0, d1, d2⟩ := dI_range x h0 h1
    have e0 : x % 256 = n := by omega
    have e1 : x / 256 % 256 = a := by omega
    have e2 : dI x = d := by omega
    obtain rfl : b = 0 := by omega
    obtain rfl : c = 0 := by omega
    refine ⟨h0, h1, ?_⟩
    unfold decS
    rw [e0, hF, if_pos (by decide), e1, e2, h, decV_eq]

set_option maxHeartbeats 2000000 in
theorem reads_any (x : Int) (h0 : 0 ≤ x) (h1 : x < 4294967296) (w : World) :
    Calls Try.prog 5 #[.int .u32 x] w fun e w' => e = .returned (.bool true) ∧ Below w.heap.size w w' := by
  have hd := dec_any x h0 h1
  have hr := refDec_any x h0 h1
  rcases decS_form x with ⟨n, a, b, c, d, he, _⟩ | he
  all_goals
    rw [he] at hd hr
    simp only [badV, insV] at hd hr
    have Hd := hid hd
    have Hr := hid hr
    clear hd hr he
    go_enter Try.func5, Try.ntmps5
    go_wp2_with (first | (go_at_call 13; refine (awake_any _).mono ?_; rintro e w' ⟨rfl, hb⟩; obtain ⟨g1, rfl⟩ := bout hb; clear hb) | (go_at_call 19; refine (Hd.out _).mono ?_; rintro e w' ⟨rfl, hb⟩; obtain ⟨g1, rfl⟩ := bout hb; clear hb) | (go_at_call 20; refine (Hr.out _).mono ?_; rintro e w' ⟨rfl, hb⟩; obtain ⟨g1, rfl⟩ := bout hb; clear hb))
    go_ret
    exact ⟨rfl, by repeat (first | exact Below.refl _ _ | refine bG ?_ _ | refine bI ?_ _ _ | refine bA ?_ _)⟩

set_option maxHeartbeats 4000000 in
theorem back_any (n a b c d x : Int) (h0 : 0 ≤ x) (h1 : x < 4294967296) (w : World) :
    Calls Try.prog 6 #[.agg #[.int .i64 n, .int .i64 a, .int .i64 b, .int .i64 c, .int .i64 d], .int .u32 x] w fun e w' => e = .returned (.bool true) ∧ Below w.heap.size w w' := by
  have he := encode_any n a b c d
  have hd := dec_any x h0 h1
  rw [enc_eq] at he
  have key : (∃ n' a' b' c' d', (∀ w, Calls Try.prog 19 #[.int .u32 x] w fun e w' => e = .returned (.tuple #[.agg #[.int .i64 n', .int .i64 a', .int .i64 b', .int .i64 c', .int .i64 d'], .int .i64 0]) ∧ Below w.heap.size w w') ∧
      ∀ w, Calls Try.prog 14 #[.agg #[.int .i64 n', .int .i64 a', .int .i64 b', .int .i64 c', .int .i64 d']] w fun e w' => e = .returned (.tuple #[.int .u32 x, .int .i64 0]) ∧ Below w.heap.size w w') ∨
      ∀ w, Calls Try.prog 19 #[.int .u32 x] w fun e w' => e = .returned (.tuple #[.agg #[.int .i64 0, .int .i64 0, .int .i64 0, .int .i64 0, .int .i64 0], .int .i64 1]) ∧ Below w.heap.size w w' := by
    rcases decS_form x with ⟨n', a', b', c', d', e1, e2⟩ | e1
    · refine Or.inl ⟨n', a', b', c', d', ?_, ?_⟩
      · rw [e1] at hd; exact hd
      · have h := encode_any n' a' b' c' d'
        rw [enc_eq, e2] at h; exact h
    · rw [e1] at hd; exact Or.inr hd
  clear hd
  cases hR : refS n a b c d with
  | none =>
    rw [hR] at he
    simp only [encRes] at he
    have He := hid he
    clear he hR
    rcases key with ⟨n', a', b', c', d', k1, k2⟩ | k1
    · have K1 := hid k1
      have K2 := hid k2
      clear k1 k2
      go_enter Try.func6, Try.ntmps6
      go_wp2_with fail
      refine (awake_any _).mono ?_; rintro e w' ⟨rfl, hb⟩; obtain ⟨g1, rfl⟩ := bout hb; clear hb
      go_wp2_with fail
      refine (He.out _).mono ?_; rintro e w' ⟨rfl, hb⟩; obtain ⟨g2, rfl⟩ := bout hb; clear hb
      go_wp2_with fail
      refine (K1.out _).mono ?_; rintro e w' ⟨rfl, hb⟩; obtain ⟨g3, rfl⟩ := bout hb; clear hb
      go_wp2_with fail
      refine (K2.out _).mono ?_; rintro e w' ⟨rfl, hb⟩; obtain ⟨g4, rfl⟩ := bout hb; clear hb
      go_wp2_with fail
      go_ret
      exact ⟨rfl, by repeat (first | exact Below.refl _ _ | refine bG ?_ _ | refine bI ?_ _ _ | refine bA ?_ _)⟩
    · have K1 := hid k1
      clear k1
      go_enter Try.func6, Try.ntmps6
      go_wp2_with fail
      refine (awake_any _).mono ?_; rintro e w' ⟨rfl, hb⟩; obtain ⟨g1, rfl⟩ := bout hb; clear hb
      go_wp2_with fail
      refine (He.out _).mono ?_; rintro e w' ⟨rfl, hb⟩; obtain ⟨g2, rfl⟩ := bout hb; clear hb
      go_wp2_with fail
      refine (K1.out _).mono ?_; rintro e w' ⟨rfl, hb⟩; obtain ⟨g3, rfl⟩ := bout hb; clear hb
      go_wp2_with fail
      go_ret
      exact ⟨rfl, by repeat (first | exact Below.refl _ _ | refine bG ?_ _ | refine bI ?_ _ _ | refine bA ?_ _)⟩
  | some y =>
    rw [hR] at he
    simp only [encRes] at he
    obtain ⟨y0, y1, ey⟩ := back n a b c d y hR
    have hb2 := dec_any y y0 y1
    rw [ey] at hb2
    simp only [insV] at hb2
    have He := hid he
    have Hb2 := hid hb2
    clear he hR hb2 ey
    rcases key with ⟨n', a', b', c', d', k1, k2⟩ | k1
    · have K1 := hid k1
      have K2 := hid k2
      clear k1 k2
      go_enter Try.func6, Try.ntmps6
      go_wp2_with fail
      refine (awake_any _).mono ?_; rintro e w' ⟨rfl, hb⟩; obtain ⟨g1, rfl⟩ := bout hb; clear hb
      go_wp2_with fail
      refine (He.out _).mono ?_; rintro e w' ⟨rfl, hb⟩; obtain ⟨g2, rfl⟩ := bout hb; clear hb
      go_wp2_with fail
      refine (Hb2.out _).mono ?_; rintro e w' ⟨rfl, hb⟩; obtain ⟨g3, rfl⟩ := bout hb; clear hb
      go_wp2_with fail
      refine (K1.out _).mono ?_; rintro e w' ⟨rfl, hb⟩; obtain ⟨g4, rfl⟩ := bout hb; clear hb
      go_wp2_with fail
      refine (K2.out _).mono ?_; rintro e w' ⟨rfl, hb⟩; obtain ⟨g5, rfl⟩ := bout hb; clear hb
      go_wp2_with fail
      go_ret
      exact ⟨rfl, by repeat (first | exact Below.refl _ _ | refine bG ?_ _ | refine bI ?_ _ _ | refine bA ?_ _)⟩
    · have K1 := hid k1
      clear k1
      go_enter Try.func6, Try.ntmps6
      go_wp2_with fail
      refine (awake_any _).mono ?_; rintro e w' ⟨rfl, hb⟩; obtain ⟨g1, rfl⟩ := bout hb; clear hb
      go_wp2_with fail
      refine (He.out _).mono ?_; rintro e w' ⟨rfl, hb⟩; obtain ⟨g2, rfl⟩ := bout hb; clear hb
      go_wp2_with fail
      refine (Hb2.out _).mono ?_; rintro e w' ⟨rfl, hb⟩; obtain ⟨g3, rfl⟩ := bout hb; clear hb
      go_wp2_with fail
      refine (K1.out _).mono ?_; rintro e w' ⟨rfl, hb⟩; obtain ⟨g4, rfl⟩ := bout hb; clear hb
      go_wp2_with fail
      go_ret
      exact ⟨rfl, by repeat (first | exact Below.refl _ _ | refine bG ?_ _ | refine bI ?_ _ _ | refine bA ?_ _)⟩
end Go.Proofs.Ytjocifamacpamaa
