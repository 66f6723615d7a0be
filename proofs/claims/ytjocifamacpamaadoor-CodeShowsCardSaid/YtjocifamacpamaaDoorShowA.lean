/- instr.Show and the reference's, walked. Conditions: the table of powers that strconv reads is as the program lays it. -/
import Derived.Test.YtjocifamacpamaaDoorInstrG
import Derived.Test.YtjocifamacpamaaDoorBaseB
import Derived.Test.YtjocifamacpamaaDoorRefS
import Derived.Test.YtjocifamacpamaaDoorShelf
import Derived.Lib.ItoaLen
import Derived.WalkSmall
namespace Go.Proofs.YtjocifamacpamaaDoor
open Go.RowKit
set_option linter.unusedVariables false
set_option linter.unusedSimpArgs false
def Tab (w : World) : Prop := Lib.TabIs Tryd.prog w "internal/strconv.uint64pow10" .u64 Lib.pow10Tab
theorem Tryd.pow10 : Tryd.prog.globalNamed "internal/strconv.uint64pow10" = some 1 := by kernel_rfl
theorem Tab.lt {W : World} (h : Tab W) : 1 < W.heap.size := by
  unfold Tab Lib.TabIs World.var? at h
  simp only [Tryd.pow10, Option.bind_some] at h
  rcases Nat.lt_or_ge 1 W.heap.size with h1 | h1
  · exact h1
  · rw [Array.getElem?_eq_none h1] at h; simp at h
theorem Tab.below {W W' : World} (h : Tab W) (hb : Below W.heap.size W W') : Tab W' :=
  var?_below hb Tryd.pow10 h.lt h
def itoaB (n : Int) : ByteArray := ⟨(Lib.itoa n).toArray⟩
theorem itoaB_size (n : Int) (h0 : -32768 ≤ n) (h1 : n ≤ 32767) : (itoaB n).size ≤ 21 := by
  have := Lib.itoa_length_le n (by omega) (by omega)
  simpa [itoaB, ByteArray.size] using this
theorem itoa_any (n : Int) (h0 : -32768 ≤ n) (h1 : n ≤ 32767) (w : World) (ht : Tab w) :
    Calls Tryd.prog 15 #[.int .i64 n] w fun e w' => e = .returned (.string (itoaB n)) ∧ Below w.heap.size w w' := by
  refine (Tryd.strconv_Itoa n (by omega) (by omega) w ht).mono fun e w' ⟨he, k, os, hw⟩ => ⟨he, ?_⟩
  subst hw
  exact ⟨rfl, rfl, rfl, by simp [Go.Sort.grow], fun i hi => by show (w.heap ++ os)[i]? = w.heap[i]?; rw [Array.getElem?_append, if_pos hi]⟩
theorem nm_size (n : Int) : (nmI n).size ≤ 8 := by
  unfold nmI
  split
  · unfold nmN
    split <;> decide
  · decide
/-- What is shown, field by field. -/
def shS (s : ByteArray) (n : Int) : ByteArray := s ++ (⟨#[32]⟩ ++ itoaB n)
set_option maxHeartbeats 4000000 in
theorem show_c1 (n a b c d y : Int) (N F : ByteArray) (hN : N = nmI n) (hF : F = fmI n) (hC : F = ⟨#[65]⟩) (hR : refS n a b c d = some y) (w : World) (hT : Tab w) :
    Calls Tryd.prog 6 #[.agg #[.int .i64 n, .int .i64 a, .int .i64 b, .int .i64 c, .int .i64 d]] w fun e w' => e = .returned (.string (shS N a)) ∧ Below w.heap.size w w' := by
  have hre := encode_any n a b c d
  rw [enc_eq, hR] at hre
  have hnm := name_any n
  have hfm := form_any n
  rw [← hN] at hnm
  rw [← hF, hC] at hfm
  have hcon := (refS_1 n a b c d y (by rw [← hF, hC])).1 hR
  have a1 : -32768 ≤ a := by omega
  have a2 : a ≤ 32767 := by omega
  have hNs : N.size ≤ 8 := by rw [hN]; exact nm_size n
  have a3 := itoaB_size a a1 a2
  have HT : Hid (∀ W', Below w.heap.size w W' → Tab W') := fun W' hb => hT.below hb
  have Hre := hid hre
  have Hnm := hid hnm
  have Hfm := hid hfm
  clear hre hnm hfm hN hF hR hT hcon
  subst hC
  have hA0 := next_at_q (P := Tryd.prog) ⟨#[65]⟩ 0 65 1 (by decide) (by decide) (by decide)
  have hB0 := next_new_q (P := Tryd.prog) ⟨#[65]⟩ 0 65 1 (by decide) (by decide) (by decide)
  have hAe := next_at_end (P := Tryd.prog) ⟨#[65]⟩ 1 (by decide)
  have hBe := next_new_end (P := Tryd.prog) ⟨#[65]⟩ 1 (by decide)
  go_enter Tryd.func6, Tryd.ntmps6
  go_wp2_with (first | (go_at_call 11; refine (Hre.out _).mono ?_; rintro e w' ⟨rfl, hb⟩; obtain ⟨g1, rfl⟩ := bout hb; clear hb; simp only [encRes]) | (go_at_call 12; refine (Hnm.out _).mono ?_; rintro e w' ⟨rfl, hb⟩; obtain ⟨g1, rfl⟩ := bout hb; clear hb) | (go_at_call 13; refine (Hfm.out _).mono ?_; rintro e w' ⟨rfl, hb⟩; obtain ⟨g1, rfl⟩ := bout hb; clear hb))
  refine wp_loop_rounds 2 ?_
  rw [rounds_succ]
  go_wp2_with (first | (go_at_call 14; refine (field_A _ _).mono ?_; rintro e w2 ⟨rfl, hb⟩; obtain ⟨g2, rfl⟩ := bout hb; clear hb) | (go_at_call 15; refine (itoa_any a a1 a2 _ (HT.out _ (by repeat (first | exact Below.refl _ _ | refine bG ?_ _ | refine bI ?_ _ _ | refine bA ?_ _)))).mono ?_; rintro e w2 ⟨rfl, hb⟩; obtain ⟨g2, rfl⟩ := bout hb; clear hb))
  rw [rounds_succ]
  go_wp2
  go_ret
  exact ⟨rfl, by repeat (first | exact Below.refl _ _ | refine bG ?_ _ | refine bI ?_ _ _ | refine bA ?_ _)⟩
set_option maxHeartbeats 4000000 in
theorem refShow_c1 (n a b c d y : Int) (N F : ByteArray) (hN : N = nmI n) (hF : F = fmI n) (hC : F = ⟨#[65]⟩) (hR : refS n a b c d = some y) (w : World) (hT : Tab w) :
    Calls Tryd.prog 7 #[.agg #[.int .i64 n, .int .i64 a, .int .i64 b, .int .i64 c, .int .i64 d]] w fun e w' => e = .returned (.string (shS N a)) ∧ Below w.heap.size w w' := by
  have hre := refEnc_any n a b c d
  rw [hR] at hre
  have hrow := row_any n
  rw [← hN, ← hF, hC] at hrow
  have hcon := (refS_1 n a b c d y (by rw [← hF, hC])).1 hR
  have a1 : -32768 ≤ a := by omega
  have a2 : a ≤ 32767 := by omega
  have hNs : N.size ≤ 8 := by rw [hN]; exact nm_size n
  have a3 := itoaB_size a a1 a2
  have HT : Hid (∀ W', Below w.heap.size w W' → Tab W') := fun W' hb => hT.below hb
  have Hre := hid hre
  have Hrow := hid hrow
  clear hre hrow hN hF hR hT hcon
  subst hC
  go_enter Tryd.func7, Tryd.ntmps7
  go_wp2_with (first | (go_at_call 16; refine (Hre.out _).mono ?_; rintro e w' ⟨rfl, hb⟩; obtain ⟨g1, rfl⟩ := bout hb; clear hb; simp only [encRes]) | (go_at_call 17; refine (Hrow.out _).mono ?_; rintro e w' ⟨rfl, hb⟩; obtain ⟨g1, rfl⟩ := bout hb; clear hb))
  refine wp_loop_rounds 2 ?_
  rw [rounds_succ]
  go_wp2_with (go_at_call 15; refine (itoa_any a a1 a2 _ (HT.out _ (by repeat (first | exact Below.refl _ _ | refine bG ?_ _ | refine bI ?_ _ _ | refine bA ?_ _)))).mono ?_; rintro e w2 ⟨rfl, hb⟩; obtain ⟨g2, rfl⟩ := bout hb; clear hb)
  rw [rounds_succ]
  go_wp2
  go_ret
  exact ⟨rfl, by repeat (first | exact Below.refl _ _ | refine bG ?_ _ | refine bI ?_ _ _ | refine bA ?_ _)⟩
set_option maxHeartbeats 4000000 in
theorem show_c2 (n a b c d y : Int) (N F : ByteArray) (hN : N = nmI n) (hF : F = fmI n) (hC : F = ⟨#[65, 66]⟩) (hR : refS n a b c d = some y) (w : World) (hT : Tab w) :
    Calls Tryd.prog 6 #[.agg #[.int .i64 n, .int .i64 a, .int .i64 b, .int .i64 c, .int .i64 d]] w fun e w' => e = .returned (.string (shS (shS N a) b)) ∧ Below w.heap.size w w' := by
  have hre := encode_any n a b c d
  rw [enc_eq, hR] at hre
  have hnm := name_any n
  have hfm := form_any n
  rw [← hN] at hnm
  rw [← hF, hC] at hfm
  have hcon := (refS_2 n a b c d y (by rw [← hF, hC])).1 hR
  have a1 : -32768 ≤ a := by omega
  have a2 : a ≤ 32767 := by omega
  have b1 : -32768 ≤ b := by omega
  have b2 : b ≤ 32767 := by omega
  have hNs : N.size ≤ 8 := by rw [hN]; exact nm_size n
  have a3 := itoaB_size a a1 a2
  have b3 := itoaB_size b b1 b2
  have HT : Hid (∀ W', Below w.heap.size w W' → Tab W') := fun W' hb => hT.below hb
  have Hre := hid hre
  have Hnm := hid hnm
  have Hfm := hid hfm
  clear hre hnm hfm hN hF hR hT hcon
  subst hC
  have hA0 := next_at_q (P := Tryd.prog) ⟨#[65, 66]⟩ 0 65 1 (by decide) (by decide) (by decide)
  have hB0 := next_new_q (P := Tryd.prog) ⟨#[65, 66]⟩ 0 65 1 (by decide) (by decide) (by decide)
  have hA1 := next_at_q (P := Tryd.prog) ⟨#[65, 66]⟩ 1 66 2 (by decide) (by decide) (by decide)
  have hB1 := next_new_q (P := Tryd.prog) ⟨#[65, 66]⟩ 1 66 2 (by decide) (by decide) (by decide)
  have hAe := next_at_end (P := Tryd.prog) ⟨#[65, 66]⟩ 2 (by decide)
  have hBe := next_new_end (P := Tryd.prog) ⟨#[65, 66]⟩ 2 (by decide)
  go_enter Tryd.func6, Tryd.ntmps6
  go_wp2_with (first | (go_at_call 11; refine (Hre.out _).mono ?_; rintro e w' ⟨rfl, hb⟩; obtain ⟨g1, rfl⟩ := bout hb; clear hb; simp only [encRes]) | (go_at_call 12; refine (Hnm.out _).mono ?_; rintro e w' ⟨rfl, hb⟩; obtain ⟨g1, rfl⟩ := bout hb; clear hb) | (go_at_call 13; refine (Hfm.out _).mono ?_; rintro e w' ⟨rfl, hb⟩; obtain ⟨g1, rfl⟩ := bout hb; clear hb))
  refine wp_loop_rounds 3 ?_
  rw [rounds_succ]
  go_wp2_with (first | (go_at_call 14; refine (field_A _ _).mono ?_; rintro e w2 ⟨rfl, hb⟩; obtain ⟨g2, rfl⟩ := bout hb; clear hb) | (go_at_call 15; refine (itoa_any a a1 a2 _ (HT.out _ (by repeat (first | exact Below.refl _ _ | refine bG ?_ _ | refine bI ?_ _ _ | refine bA ?_ _)))).mono ?_; rintro e w2 ⟨rfl, hb⟩; obtain ⟨g2, rfl⟩ := bout hb; clear hb))
  rw [rounds_succ]
  go_wp2_with (first | (go_at_call 14; refine (field_B _ _).mono ?_; rintro e w2 ⟨rfl, hb⟩; obtain ⟨g2, rfl⟩ := bout hb; clear hb) | (go_at_call 15; refine (itoa_any b b1 b2 _ (HT.out _ (by repeat (first | exact Below.refl _ _ | refine bG ?_ _ | refine bI ?_ _ _ | refine bA ?_ _)))).mono ?_; rintro e w2 ⟨rfl, hb⟩; obtain ⟨g2, rfl⟩ := bout hb; clear hb))
  rw [rounds_succ]
  go_wp2
  go_ret
  exact ⟨rfl, by repeat (first | exact Below.refl _ _ | refine bG ?_ _ | refine bI ?_ _ _ | refine bA ?_ _)⟩
set_option maxHeartbeats 4000000 in
theorem refShow_c2 (n a b c d y : Int) (N F : ByteArray) (hN : N = nmI n) (hF : F = fmI n) (hC : F = ⟨#[65, 66]⟩) (hR : refS n a b c d = some y) (w : World) (hT : Tab w) :
    Calls Tryd.prog 7 #[.agg #[.int .i64 n, .int .i64 a, .int .i64 b, .int .i64 c, .int .i64 d]] w fun e w' => e = .returned (.string (shS (shS N a) b)) ∧ Below w.heap.size w w' := by
  have hre := refEnc_any n a b c d
  rw [hR] at hre
  have hrow := row_any n
  rw [← hN, ← hF, hC] at hrow
  have hcon := (refS_2 n a b c d y (by rw [← hF, hC])).1 hR
  have a1 : -32768 ≤ a := by omega
  have a2 : a ≤ 32767 := by omega
  have b1 : -32768 ≤ b := by omega
  have b2 : b ≤ 32767 := by omega
  have hNs : N.size ≤ 8 := by rw [hN]; exact nm_size n
  have a3 := itoaB_size a a1 a2
  have b3 := itoaB_size b b1 b2
  have HT : Hid (∀ W', Below w.heap.size w W' → Tab W') := fun W' hb => hT.below hb
  have Hre := hid hre
  have Hrow := hid hrow
  clear hre hrow hN hF hR hT hcon
  subst hC
  go_enter Tryd.func7, Tryd.ntmps7
  go_wp2_with (first | (go_at_call 16; refine (Hre.out _).mono ?_; rintro e w' ⟨rfl, hb⟩; obtain ⟨g1, rfl⟩ := bout hb; clear hb; simp only [encRes]) | (go_at_call 17; refine (Hrow.out _).mono ?_; rintro e w' ⟨rfl, hb⟩; obtain ⟨g1, rfl⟩ := bout hb; clear hb))
  refine wp_loop_rounds 3 ?_
  rw [rounds_succ]
  go_wp2_with (go_at_call 15; refine (itoa_any a a1 a2 _ (HT.out _ (by repeat (first | exact Below.refl _ _ | refine bG ?_ _ | refine bI ?_ _ _ | refine bA ?_ _)))).mono ?_; rintro e w2 ⟨rfl, hb⟩; obtain ⟨g2, rfl⟩ := bout hb; clear hb)
  rw [rounds_succ]
  go_wp2_with (go_at_call 15; refine (itoa_any b b1 b2 _ (HT.out _ (by repeat (first | exact Below.refl _ _ | refine bG ?_ _ | refine bI ?_ _ _ | refine bA ?_ _)))).mono ?_; rintro e w2 ⟨rfl, hb⟩; obtain ⟨g2, rfl⟩ := bout hb; clear hb)
  rw [rounds_succ]
  go_wp2
  go_ret
  exact ⟨rfl, by repeat (first | exact Below.refl _ _ | refine bG ?_ _ | refine bI ?_ _ _ | refine bA ?_ _)⟩
set_option maxHeartbeats 4000000 in
theorem show_c3 (n a b c d y : Int) (N F : ByteArray) (hN : N = nmI n) (hF : F = fmI n) (hC : F = ⟨#[65, 66, 67]⟩) (hR : refS n a b c d = some y) (w : World) (hT : Tab w) :
    Calls Tryd.prog 6 #[.agg #[.int .i64 n, .int .i64 a, .int .i64 b, .int .i64 c, .int .i64 d]] w fun e w' => e = .returned (.string (shS (shS (shS N a) b) c)) ∧ Below w.heap.size w w' := by
  have hre := encode_any n a b c d
  rw [enc_eq, hR] at hre
  have hnm := name_any n
  have hfm := form_any n
  rw [← hN] at hnm
  rw [← hF, hC] at hfm
  have hcon := (refS_3 n a b c d y (by rw [← hF, hC])).1 hR
  have a1 : -32768 ≤ a := by omega
  have a2 : a ≤ 32767 := by omega
  have b1 : -32768 ≤ b := by omega
  have b2 : b ≤ 32767 := by omega
  have c1 : -32768 ≤ c := by omega
  have c2 : c ≤ 32767 := by omega
  have hNs : N.size ≤ 8 := by rw [hN]; exact nm_size n
  have a3 := itoaB_size a a1 a2
  have b3 := itoaB_size b b1 b2
  have c3 := itoaB_size c c1 c2
  have HT : Hid (∀ W', Below w.heap.size w W' → Tab W') := fun W' hb => hT.below hb
  have Hre := hid hre
  have Hnm := hid hnm
  have Hfm := hid hfm
  clear hre hnm hfm hN hF hR hT hcon
  subst hC
  have hA0 := next_at_q (P := Tryd.prog) ⟨#[65, 66, 67]⟩ 0 65 1 (by decide) (by decide) (by decide)
  have hB0 := next_new_q (P := Tryd.prog) ⟨#[65, 66, 67]⟩ 0 65 1 (by decide) (by decide) (by decide)
  have hA1 := next_at_q (P := Tryd.prog) ⟨#[65, 66, 67]⟩ 1 66 2 (by decide) (by decide) (by decide)
  have hB1 := next_new_q (P := Tryd.prog) ⟨#[65, 66, 67]⟩ 1 66 2 (by decide) (by decide) (by decide)
  have hA2 := next_at_q (P := Tryd.prog) ⟨#[65, 66, 67]⟩ 2 67 3 (by decide) (by decide) (by decide)
  have hB2 := next_new_q (P := Tryd.prog) ⟨#[65, 66, 67]⟩ 2 67 3 (by decide) (by decide) (by decide)
  have hAe := next_at_end (P := Tryd.prog) ⟨#[65, 66, 67]⟩ 3 (by decide)
  have hBe := next_new_end (P := Tryd.prog) ⟨#[65, 66, 67]⟩ 3 (by decide)
  go_enter Tryd.func6, Tryd.ntmps6
  go_wp2_with (first | (go_at_call 11; refine (Hre.out _).mono ?_; rintro e w' ⟨rfl, hb⟩; obtain ⟨g1, rfl⟩ := bout hb; clear hb; simp only [encRes]) | (go_at_call 12; refine (Hnm.out _).mono ?_; rintro e w' ⟨rfl, hb⟩; obtain ⟨g1, rfl⟩ := bout hb; clear hb) | (go_at_call 13; refine (Hfm.out _).mono ?_; rintro e w' ⟨rfl, hb⟩; obtain ⟨g1, rfl⟩ := bout hb; clear hb))
  refine wp_loop_rounds 4 ?_
  rw [rounds_succ]
  go_wp2_with (first | (go_at_call 14; refine (field_A _ _).mono ?_; rintro e w2 ⟨rfl, hb⟩; obtain ⟨g2, rfl⟩ := bout hb; clear hb) | (go_at_call 15; refine (itoa_any a a1 a2 _ (HT.out _ (by repeat (first | exact Below.refl _ _ | refine bG ?_ _ | refine bI ?_ _ _ | refine bA ?_ _)))).mono ?_; rintro e w2 ⟨rfl, hb⟩; obtain ⟨g2, rfl⟩ := bout hb; clear hb))
  rw [rounds_succ]
  go_wp2_with (first | (go_at_call 14; refine (field_B _ _).mono ?_; rintro e w2 ⟨rfl, hb⟩; obtain ⟨g2, rfl⟩ := bout hb; clear hb) | (go_at_call 15; refine (itoa_any b b1 b2 _ (HT.out _ (by repeat (first | exact Below.refl _ _ | refine bG ?_ _ | refine bI ?_ _ _ | refine bA ?_ _)))).mono ?_; rintro e w2 ⟨rfl, hb⟩; obtain ⟨g2, rfl⟩ := bout hb; clear hb))
  rw [rounds_succ]
  go_wp2_with (first | (go_at_call 14; refine (field_C _ _).mono ?_; rintro e w2 ⟨rfl, hb⟩; obtain ⟨g2, rfl⟩ := bout hb; clear hb) | (go_at_call 15; refine (itoa_any c c1 c2 _ (HT.out _ (by repeat (first | exact Below.refl _ _ | refine bG ?_ _ | refine bI ?_ _ _ | refine bA ?_ _)))).mono ?_; rintro e w2 ⟨rfl, hb⟩; obtain ⟨g2, rfl⟩ := bout hb; clear hb))
  rw [rounds_succ]
  go_wp2
  go_ret
  exact ⟨rfl, by repeat (first | exact Below.refl _ _ | refine bG ?_ _ | refine bI ?_ _ _ | refine bA ?_ _)⟩
set_option maxHeartbeats 4000000 in
theorem refShow_c3 (n a b c d y : Int) (N F : ByteArray) (hN : N = nmI n) (hF : F = fmI n) (hC : F = ⟨#[65, 66, 67]⟩) (hR : refS n a b c d = some y) (w : World) (hT : Tab w) :
    Calls Tryd.prog 7 #[.agg #[.int .i64 n, .int .i64 a, .int .i64 b, .int .i64 c, .int .i64 d]] w fun e w' => e = .returned (.string (shS (shS (shS N a) b) c)) ∧ Below w.heap.size w w' := by
  have hre := refEnc_any n a b c d
  rw [hR] at hre
  have hrow := row_any n
  rw [← hN, ← hF, hC] at hrow
  have hcon := (refS_3 n a b c d y (by rw [← hF, hC])).1 hR
  have a1 : -32768 ≤ a := by omega
  have a2 : a ≤ 32767 := by omega
  have b1 : -32768 ≤ b := by omega
  have b2 : b ≤ 32767 := by omega
  have c1 : -32768 ≤ c := by omega
  have c2 : c ≤ 32767 := by omega
  have hNs : N.size ≤ 8 := by rw [hN]; exact nm_size n
  have a3 := itoaB_size a a1 a2
  have b3 := itoaB_size b b1 b2
  have c3 := itoaB_size c c1 c2
  have HT : Hid (∀ W', Below w.heap.size w W' → Tab W') := fun W' hb => hT.below hb
  have Hre := hid hre
  have Hrow := hid hrow
  clear hre hrow hN hF hR hT hcon
  subst hC
  go_enter Tryd.func7, Tryd.ntmps7
  go_wp2_with (first | (go_at_call 16; refine (Hre.out _).mono ?_; rintro e w' ⟨rfl, hb⟩; obtain ⟨g1, rfl⟩ := bout hb; clear hb; simp only [encRes]) | (go_at_call 17; refine (Hrow.out _).mono ?_; rintro e w' ⟨rfl, hb⟩; obtain ⟨g1, rfl⟩ := bout hb; clear hb))
  refine wp_loop_rounds 4 ?_
  rw [rounds_succ]
  go_wp2_with (go_at_call 15; refine (itoa_any a a1 a2 _ (HT.out _ (by repeat (first | exact Below.refl _ _ | refine bG ?_ _ | refine bI ?_ _ _ | refine bA ?_ _)))).mono ?_; rintro e w2 ⟨rfl, hb⟩; obtain ⟨g2, rfl⟩ := bout hb; clear hb)
  rw [rounds_succ]
  go_wp2_with (go_at_call 15; refine (itoa_any b b1 b2 _ (HT.out _ (by repeat (first | exact Below.refl _ _ | refine bG ?_ _ | refine bI ?_ _ _ | refine bA ?_ _)))).mono ?_; rintro e w2 ⟨rfl, hb⟩; obtain ⟨g2, rfl⟩ := bout hb; clear hb)
  rw [rounds_succ]
  go_wp2_with (go_at_call 15; refine (itoa_any c c1 c2 _ (HT.out _ (by repeat (first | exact Below.refl _ _ | refine bG ?_ _ | refine bI ?_ _ _ | refine bA ?_ _)))).mono ?_; rintro e w2 ⟨rfl, hb⟩; obtain ⟨g2, rfl⟩ := bout hb; clear hb)
  rw [rounds_succ]
  go_wp2
  go_ret
  exact ⟨rfl, by repeat (first | exact Below.refl _ _ | refine bG ?_ _ | refine bI ?_ _ _ | refine bA ?_ _)⟩
set_option maxHeartbeats 4000000 in
theorem show_c4 (n a b c d y : Int) (N F : ByteArray) (hN : N = nmI n) (hF : F = fmI n) (hC : F = ⟨#[65, 68]⟩) (hR : refS n a b c d = some y) (w : World) (hT : Tab w) :
    Calls Tryd.prog 6 #[.agg #[.int .i64 n, .int .i64 a, .int .i64 b, .int .i64 c, .int .i64 d]] w fun e w' => e = .returned (.string (shS (shS N a) d)) ∧ Below w.heap.size w w' := by
  have hre := encode_any n a b c d
  rw [enc_eq, hR] at hre
  have hnm := name_any n
  have hfm := form_any n
  rw [← hN] at hnm
  rw [← hF, hC] at hfm
  have hcon := (refS_4 n a b c d y (by rw [← hF, hC])).1 hR
  have a1 : -32768 ≤ a := by omega
  have a2 : a ≤ 32767 := by omega
  have d1 : -32768 ≤ d := by omega
  have d2 : d ≤ 32767 := by omega
  have hNs : N.size ≤ 8 := by rw [hN]; exact nm_size n
  have a3 := itoaB_size a a1 a2
  have d3 := itoaB_size d d1 d2
  have HT : Hid (∀ W', Below w.heap.size w W' → Tab W') := fun W' hb => hT.below hb
  have Hre := hid hre
  have Hnm := hid hnm
  have Hfm := hid hfm
  clear hre hnm hfm hN hF hR hT hcon
  subst hC
  have hA0 := next_at_q (P := Tryd.prog) ⟨#[65, 68]⟩ 0 65 1 (by decide) (by decide) (by decide)
  have hB0 := next_new_q (P := Tryd.prog) ⟨#[65, 68]⟩ 0 65 1 (by decide) (by decide) (by decide)
  have hA1 := next_at_q (P := Tryd.prog) ⟨#[65, 68]⟩ 1 68 2 (by decide) (by decide) (by decide)
  have hB1 := next_new_q (P := Tryd.prog) ⟨#[65, 68]⟩ 1 68 2 (by decide) (by decide) (by decide)
  have hAe := next_at_end (P := Tryd.prog) ⟨#[65, 68]⟩ 2 (by decide)
  have hBe := next_new_end (P := Tryd.prog) ⟨#[65, 68]⟩ 2 (by decide)
  go_enter Tryd.func6, Tryd.ntmps6
  go_wp2_with (first | (go_at_call 11; refine (Hre.out _).mono ?_; rintro e w' ⟨rfl, hb⟩; obtain ⟨g1, rfl⟩ := bout hb; clear hb; simp only [encRes]) | (go_at_call 12; refine (Hnm.out _).mono ?_; rintro e w' ⟨rfl, hb⟩; obtain ⟨g1, rfl⟩ := bout hb; clear hb) | (go_at_call 13; refine (Hfm.out _).mono ?_; rintro e w' ⟨rfl, hb⟩; obtain ⟨g1, rfl⟩ := bout hb; clear hb))
  refine wp_loop_rounds 3 ?_
  rw [rounds_succ]
  go_wp2_with (first | (go_at_call 14; refine (field_A _ _).mono ?_; rintro e w2 ⟨rfl, hb⟩; obtain ⟨g2, rfl⟩ := bout hb; clear hb) | (go_at_call 15; refine (itoa_any a a1 a2 _ (HT.out _ (by repeat (first | exact Below.refl _ _ | refine bG ?_ _ | refine bI ?_ _ _ | refine bA ?_ _)))).mono ?_; rintro e w2 ⟨rfl, hb⟩; obtain ⟨g2, rfl⟩ := bout hb; clear hb))
  rw [rounds_succ]
  go_wp2_with (first | (go_at_call 14; refine (field_D _ _).mono ?_; rintro e w2 ⟨rfl, hb⟩; obtain ⟨g2, rfl⟩ := bout hb; clear hb) | (go_at_call 15; refine (itoa_any d d1 d2 _ (HT.out _ (by repeat (first | exact Below.refl _ _ | refine bG ?_ _ | refine bI ?_ _ _ | refine bA ?_ _)))).mono ?_; rintro e w2 ⟨rfl, hb⟩; obtain ⟨g2, rfl⟩ := bout hb; clear hb))
  rw [rounds_succ]
  go_wp2
  go_ret
  exact ⟨rfl, by repeat (first | exact Below.refl _ _ | refine bG ?_ _ | refine bI ?_ _ _ | refine bA ?_ _)⟩
set_option maxHeartbeats 4000000 in
theorem refShow_c4 (n a b c d y : Int) (N F : ByteArray) (hN : N = nmI n) (hF : F = fmI n) (hC : F = ⟨#[65, 68]⟩) (hR : refS n a b c d = some y) (w : World) (hT : Tab w) :
    Calls Tryd.prog 7 #[.agg #[.int .i64 n, .int .i64 a, .int .i64 b, .int .i64 c, .int .i64 d]] w fun e w' => e = .returned (.string (shS (shS N a) d)) ∧ Below w.heap.size w w' := by
  have hre := refEnc_any n a b c d
  rw [hR] at hre
  have hrow := row_any n
  rw [← hN, ← hF, hC] at hrow
  have hcon := (refS_4 n a b c d y (by rw [← hF, hC])).1 hR
  have a1 : -32768 ≤ a := by omega
  have a2 : a ≤ 32767 := by omega
  have d1 : -32768 ≤ d := by omega
  have d2 : d ≤ 32767 := by omega
  have hNs : N.size ≤ 8 := by rw [hN]; exact nm_size n
  have a3 := itoaB_size a a1 a2
  have d3 := itoaB_size d d1 d2
  have HT : Hid (∀ W', Below w.heap.size w W' → Tab W') := fun W' hb => hT.below hb
  have Hre := hid hre
  have Hrow := hid hrow
  clear hre hrow hN hF hR hT hcon
  subst hC
  go_enter Tryd.func7, Tryd.ntmps7
  go_wp2_with (first | (go_at_call 16; refine (Hre.out _).mono ?_; rintro e w' ⟨rfl, hb⟩; obtain ⟨g1, rfl⟩ := bout hb; clear hb; simp only [encRes]) | (go_at_call 17; refine (Hrow.out _).mono ?_; rintro e w' ⟨rfl, hb⟩; obtain ⟨g1, rfl⟩ := bout hb; clear hb))
  refine wp_loop_rounds 3 ?_
  rw [rounds_succ]
  go_wp2_with (go_at_call 15; refine (itoa_any a a1 a2 _ (HT.out _ (by repeat (first | exact Below.refl _ _ | refine bG ?_ _ | refine bI ?_ _ _ | refine bA ?_ _)))).mono ?_; rintro e w2 ⟨rfl, hb⟩; obtain ⟨g2, rfl⟩ := bout hb; clear hb)
  rw [rounds_succ]
  go_wp2_with (go_at_call 15; refine (itoa_any d d1 d2 _ (HT.out _ (by repeat (first | exact Below.refl _ _ | refine bG ?_ _ | refine bI ?_ _ _ | refine bA ?_ _)))).mono ?_; rintro e w2 ⟨rfl, hb⟩; obtain ⟨g2, rfl⟩ := bout hb; clear hb)
  rw [rounds_succ]
  go_wp2
  go_ret
  exact ⟨rfl, by repeat (first | exact Below.refl _ _ | refine bG ?_ _ | refine bI ?_ _ _ | refine bA ?_ _)⟩
set_option maxHeartbeats 4000000 in
theorem show_c5 (n a b c d y : Int) (N F : ByteArray) (hN : N = nmI n) (hF : F = fmI n) (hC : F = ⟨#[68]⟩) (hR : refS n a b c d = some y) (w : World) (hT : Tab w) :
    Calls Tryd.prog 6 #[.agg #[.int .i64 n, .int .i64 a, .int .i64 b, .int .i64 c, .int .i64 d]] w fun e w' => e = .returned (.string (shS N d)) ∧ Below w.heap.size w w' := by
  have hre := encode_any n a b c d
  rw [enc_eq, hR] at hre
  have hnm := name_any n
  have hfm := form_any n
  rw [← hN] at hnm
  rw [← hF, hC] at hfm
  have hcon := (refS_5 n a b c d y (by rw [← hF, hC])).1 hR
  have d1 : -32768 ≤ d := by omega
  have d2 : d ≤ 32767 := by omega
  have hNs : N.size ≤ 8 := by rw [hN]; exact nm_size n
  have d3 := itoaB_size d d1 d2
  have HT : Hid (∀ W', Below w.heap.size w W' → Tab W') := fun W' hb => hT.below hb
  have Hre := hid hre
  have Hnm := hid hnm
  have Hfm := hid hfm
  clear hre hnm hfm hN hF hR hT hcon
  subst hC
  have hA0 := next_at_q (P := Tryd.prog) ⟨#[68]⟩ 0 68 1 (by decide) (by decide) (by decide)
  have hB0 := next_new_q (P := Tryd.prog) ⟨#[68]⟩ 0 68 1 (by decide) (by decide) (by decide)
  have hAe := next_at_end (P := Tryd.prog) ⟨#[68]⟩ 1 (by decide)
  have hBe := next_new_end (P := Tryd.prog) ⟨#[68]⟩ 1 (by decide)
  go_enter Tryd.func6, Tryd.ntmps6
  go_wp2_with (first | (go_at_call 11; refine (Hre.out _).mono ?_; rintro e w' ⟨rfl, hb⟩; obtain ⟨g1, rfl⟩ := bout hb; clear hb; simp only [encRes]) | (go_at_call 12; refine (Hnm.out _).mono ?_; rintro e w' ⟨rfl, hb⟩; obtain ⟨g1, rfl⟩ := bout hb; clear hb) | (go_at_call 13; refine (Hfm.out _).mono ?_; rintro e w' ⟨rfl, hb⟩; obtain ⟨g1, rfl⟩ := bout hb; clear hb))
  refine wp_loop_rounds 2 ?_
  rw [rounds_succ]
  go_wp2_with (first | (go_at_call 14; refine (field_D _ _).mono ?_; rintro e w2 ⟨rfl, hb⟩; obtain ⟨g2, rfl⟩ := bout hb; clear hb) | (go_at_call 15; refine (itoa_any d d1 d2 _ (HT.out _ (by repeat (first | exact Below.refl _ _ | refine bG ?_ _ | refine bI ?_ _ _ | refine bA ?_ _)))).mono ?_; rintro e w2 ⟨rfl, hb⟩; obtain ⟨g2, rfl⟩ := bout hb; clear hb))
  rw [rounds_succ]
  go_wp2
  go_ret
  exact ⟨rfl, by repeat (first | exact Below.refl _ _ | refine bG ?_ _ | refine bI ?_ _ _ | refine bA ?_ _)⟩
set_option maxHeartbeats 4000000 in
theorem refShow_c5 (n a b c d y : Int) (N F : ByteArray) (hN : N = nmI n) (hF : F = fmI n) (hC : F = ⟨#[68]⟩) (hR : refS n a b c d = some y) (w : World) (hT : Tab w) :
    Calls Tryd.prog 7 #[.agg #[.int .i64 n, .int .i64 a, .int .i64 b, .int .i64 c, .int .i64 d]] w fun e w' => e = .returned (.string (shS N d)) ∧ Below w.heap.size w w' := by
  have hre := refEnc_any n a b c d
  rw [hR] at hre
  have hrow := row_any n
  rw [← hN, ← hF, hC] at hrow
  have hcon := (refS_5 n a b c d y (by rw [← hF, hC])).1 hR
  have d1 : -32768 ≤ d := by omega
  have d2 : d ≤ 32767 := by omega
  have hNs : N.size ≤ 8 := by rw [hN]; exact nm_size n
  have d3 := itoaB_size d d1 d2
  have HT : Hid (∀ W', Below w.heap.size w W' → Tab W') := fun W' hb => hT.below hb
  have Hre := hid hre
  have Hrow := hid hrow
  clear hre hrow hN hF hR hT hcon
  subst hC
  go_enter Tryd.func7, Tryd.ntmps7
  go_wp2_with (first | (go_at_call 16; refine (Hre.out _).mono ?_; rintro e w' ⟨rfl, hb⟩; obtain ⟨g1, rfl⟩ := bout hb; clear hb; simp only [encRes]) | (go_at_call 17; refine (Hrow.out _).mono ?_; rintro e w' ⟨rfl, hb⟩; obtain ⟨g1, rfl⟩ := bout hb; clear hb))
  refine wp_loop_rounds 2 ?_
  rw [rounds_succ]
  go_wp2_with (go_at_call 15; refine (itoa_any d d1 d2 _ (HT.out _ (by repeat (first | exact Below.refl _ _ | refine bG ?_ _ | refine bI ?_ _ _ | refine bA ?_ _)))).mono ?_; rintro e w2 ⟨rfl, hb⟩; obtain ⟨g2, rfl⟩ := bout hb; clear hb)
  rw [rounds_succ]
  go_wp2
  go_ret
  exact ⟨rfl, by repeat (first | exact Below.refl _ _ | refine bG ?_ _ | refine bI ?_ _ _ | refine bA ?_ _)⟩
end Go.Proofs.YtjocifamacpamaaDoor
