/- The reference's Next, walked; both Nexts in one. Conditions: none. -/
import Derived.Test.YtjocifamacpamaaFlowB
namespace Go.Proofs.Ytjocifamacpamaa
open Go.RowKit
set_option linter.unusedVariables false
set_option linter.unusedSimpArgs false
set_option maxHeartbeats 4000000 in
theorem refNext_ret (v0 v1 v3 v4 v5 : Value) (b o len cap i : Nat) (x : Int) (hx0 : 0 ≤ x) (hx1 : x < 4294967296) (hi : i < len) (hl : len ≤ 1000) (w : World) (hb : b < w.heap.size) (hc : w.cell? ⟨b, o + i, none⟩ = some (.int .u32 x)) (h42 : opS x = 42) :
    Calls Try.prog 25 #[.agg #[v0, v1, .slice (some ⟨b, o, none⟩) len cap, v3, v4, v5], .int .i64 i] w fun e w' => ∃ v, e = .returned v ∧ Below w.heap.size w w' ∧ Ints w.heap.size w' v [-1] := by
  have hd := refDec_any x hx0 hx1
  obtain ⟨a, b', c, e, hf⟩ := dec_form x
  rw [hf, h42] at hd
  simp only [insV] at hd
  have Hd := hid hd
  clear hd hf h42
  go_enter Try.func25, Try.ntmps25
  go_wp2_with (go_at_call 20; refine (Hd.out _).mono ?_; rintro e w' ⟨rfl, hb⟩; obtain ⟨g1, rfl⟩ := bout hb; clear hb)
  go_ret
  exact ⟨_, rfl, by repeat (first | exact Below.refl _ _ | refine bG ?_ _ | refine bI ?_ _ _ | refine bA ?_ _ | refine bD ?_ | refine bN ?_ _), Ints_one _ _ _ _ (by simp) (by simp; omega)⟩
set_option maxHeartbeats 4000000 in
theorem refNext_jump (v0 v1 v3 v4 v5 : Value) (b o len cap i : Nat) (x : Int) (hx0 : 0 ≤ x) (hx1 : x < 4294967296) (hi : i < len) (hl : len ≤ 1000) (w : World) (hb : b < w.heap.size) (hc : w.cell? ⟨b, o + i, none⟩ = some (.int .u32 x)) (h34 : opS x = 34) :
    Calls Try.prog 25 #[.agg #[v0, v1, .slice (some ⟨b, o, none⟩) len cap, v3, v4, v5], .int .i64 i] w fun e w' => ∃ v, e = .returned v ∧ Below w.heap.size w w' ∧ Ints w.heap.size w' v [plS len (fdS x)] := by
  have hd := refDec_any x hx0 hx1
  obtain ⟨a, b', c, e, hf⟩ := dec_form x
  rw [hf, h34] at hd
  simp only [insV] at hd
  have Hd := hid hd
  clear hd hf h34
  go_enter Try.func25, Try.ntmps25
  go_wp2_with (first | (go_at_call 20; refine (Hd.out _).mono ?_; rintro e w' ⟨rfl, hb⟩; obtain ⟨g1, rfl⟩ := bout hb; clear hb) | (go_at_call 41; refine (refPlace_any _ _ _ _ _ _ _ _ _ _).mono ?_; rintro e w' ⟨rfl, hb⟩; obtain ⟨g2, rfl⟩ := bout hb; clear hb))
  go_ret
  exact ⟨_, rfl, by repeat (first | exact Below.refl _ _ | refine bG ?_ _ | refine bI ?_ _ _ | refine bA ?_ _ | refine bD ?_ | refine bN ?_ _), Ints_one _ _ _ _ (by simp) (by simp; omega)⟩
set_option maxHeartbeats 4000000 in
theorem refNext_one (v0 v1 v3 v4 v5 : Value) (b o len cap i : Nat) (x : Int) (hx0 : 0 ≤ x) (hx1 : x < 4294967296) (hi : i < len) (hl : len ≤ 1000) (w : World) (hb : b < w.heap.size) (hc : w.cell? ⟨b, o + i, none⟩ = some (.int .u32 x)) (h42 : opS x ≠ 42) (h34 : opS x ≠ 34) (h35 : opS x ≠ 35) (h36 : opS x ≠ 36) :
    Calls Try.prog 25 #[.agg #[v0, v1, .slice (some ⟨b, o, none⟩) len cap, v3, v4, v5], .int .i64 i] w fun e w' => ∃ v, e = .returned v ∧ Below w.heap.size w w' ∧ Ints w.heap.size w' v [plS len (i + 1)] := by
  have hd := refDec_any x hx0 hx1
  obtain ⟨a, b', c, e, hf⟩ := dec_form x
  rw [hf] at hd
  simp only [insV] at hd
  have Hd := hid hd
  clear hd hf
  have e42 : (opS x == 42) = false := beq_eq_false_iff_ne.2 h42
  have e34 : (opS x == 34) = false := beq_eq_false_iff_ne.2 h34
  have e35 : (opS x == 35) = false := beq_eq_false_iff_ne.2 h35
  have e36 : (opS x == 36) = false := beq_eq_false_iff_ne.2 h36
  clear h42 h34 h35 h36
  go_enter Try.func25, Try.ntmps25
  go_wp2_with (first | (go_at_call 20; refine (Hd.out _).mono ?_; rintro e w' ⟨rfl, hb⟩; obtain ⟨g1, rfl⟩ := bout hb; clear hb) | (go_at_call 41; refine (refPlace_any _ _ _ _ _ _ _ _ _ _).mono ?_; rintro e w' ⟨rfl, hb⟩; obtain ⟨g2, rfl⟩ := bout hb; clear hb))
  go_ret
  exact ⟨_, rfl, by repeat (first | exact Below.refl _ _ | refine bG ?_ _ | refine bI ?_ _ _ | refine bA ?_ _ | refine bD ?_ | refine bN ?_ _), Ints_one _ _ _ _ (by simp) (by simp; omega)⟩
set_option maxHeartbeats 4000000 in
theorem refNext_br35_ne (v0 v1 v3 v4 v5 : Value) (b o len cap i : Nat) (x : Int) (hx0 : 0 ≤ x) (hx1 : x < 4294967296) (hi : i < len) (hl : len ≤ 1000) (w : World) (hb : b < w.heap.size) (hc : w.cell? ⟨b, o + i, none⟩ = some (.int .u32 x)) (hop : opS x = 35) (hne : plS len (fdS x) ≠ plS len (i + 2)) :
    Calls Try.prog 25 #[.agg #[v0, v1, .slice (some ⟨b, o, none⟩) len cap, v3, v4, v5], .int .i64 i] w fun e w' => ∃ v, e = .returned v ∧ Below w.heap.size w w' ∧ Ints w.heap.size w' v [min (plS len (fdS x)) (plS len (i + 2)), max (plS len (fdS x)) (plS len (i + 2))] := by
  have hd := refDec_any x hx0 hx1
  obtain ⟨a, b', c, e, hf⟩ := dec_form x
  rw [hf, hop] at hd
  simp only [insV] at hd
  have Hd := hid hd
  clear hd hf hop
  have p1 := fun w => refPlace_any v0 v1 v3 v4 v5 (some ⟨b, o, none⟩) len cap (fdS x) w
  have p2 := fun w => refPlace_any v0 v1 v3 v4 v5 (some ⟨b, o, none⟩) len cap ((i : Int) + 2) w
  generalize plS len (fdS x) = X at *
  generalize plS len ((i : Int) + 2) = Y at *
  generalize fdS x = D at *
  have hxy : (X == Y) = false := beq_eq_false_iff_ne.2 hne
  clear hne
  have hw2 : IntKind.i64.wrap ((i : Int) + 2) = (i : Int) + 2 := IntWalk.i64_in _ (by omega)
  have P1 := hid p1
  have P2 := hid p2
  clear p1 p2
  go_enter Try.func25, Try.ntmps25
  go_wp2_with (go_at_call 20; refine (Hd.out _).mono ?_; rintro e w' ⟨rfl, hb⟩; obtain ⟨g1, rfl⟩ := bout hb; clear hb)
  go_region_held3 (fun w' => w'.cell? ⟨w.heap.size, 0, none⟩ = some v0 ∧ w'.cell? ⟨w.heap.size, 1, none⟩ = some v1 ∧ w'.cell? ⟨w.heap.size, 2, none⟩ = some (.slice (some ⟨b, o, none⟩) len cap) ∧ w'.cell? ⟨w.heap.size, 3, none⟩ = some v3 ∧ w'.cell? ⟨w.heap.size, 4, none⟩ = some v4 ∧ w'.cell? ⟨w.heap.size, 5, none⟩ = some v5 ∧ w'.cell? ⟨w.heap.size + 1 + g1.size, 4, none⟩ = some (.int .i64 D)) (simp [go_sem])
    (first
      | (go_at_call 41; ((with_reducible refine (P1.out _).mono ?_); rintro e w' ⟨rfl, hb⟩); obtain ⟨g2, rfl⟩ := bout hb; clear hb)
      | (go_at_call 41; ((with_reducible refine (P2.out _).mono ?_); rintro e w' ⟨rfl, hb⟩); obtain ⟨g2, rfl⟩ := bout hb; clear hb))
  go_wp2
  go_ret
  exact ⟨_, rfl, by repeat (first | exact Below.refl _ _ | refine bG ?_ _ | refine bI ?_ _ _ | refine bA ?_ _ | refine bD ?_ | refine bN ?_ _), Ints_two _ _ _ _ _ (by simp) (by simp; omega)⟩
set_option maxHeartbeats 4000000 in
theorem refNext_br35_eq (v0 v1 v3 v4 v5 : Value) (b o len cap i : Nat) (x : Int) (hx0 : 0 ≤ x) (hx1 : x < 4294967296) (hi : i < len) (hl : len ≤ 1000) (w : World) (hb : b < w.heap.size) (hc : w.cell? ⟨b, o + i, none⟩ = some (.int .u32 x)) (hop : opS x = 35) (heq : plS len (fdS x) = plS len (i + 2)) :
    Calls Try.prog 25 #[.agg #[v0, v1, .slice (some ⟨b, o, none⟩) len cap, v3, v4, v5], .int .i64 i] w fun e w' => ∃ v, e = .returned v ∧ Below w.heap.size w w' ∧ Ints w.heap.size w' v [plS len (fdS x)] := by
  have hd := refDec_any x hx0 hx1
  obtain ⟨a, b', c, e, hf⟩ := dec_form x
  rw [hf, hop] at hd
  simp only [insV] at hd
  have Hd := hid hd
  clear hd hf hop
  have p1 := fun w => refPlace_any v0 v1 v3 v4 v5 (some ⟨b, o, none⟩) len cap (fdS x) w
  have p2 := fun w => refPlace_any v0 v1 v3 v4 v5 (some ⟨b, o, none⟩) len cap ((i : Int) + 2) w
  generalize plS len (fdS x) = X at *
  generalize plS len ((i : Int) + 2) = Y at *
  generalize fdS x = D at *
  subst heq
  have hw2 : IntKind.i64.wrap ((i : Int) + 2) = (i : Int) + 2 := IntWalk.i64_in _ (by omega)
  have P1 := hid p1
  have P2 := hid p2
  clear p1 p2
  go_enter Try.func25, Try.ntmps25
  go_wp2_with (go_at_call 20; refine (Hd.out _).mono ?_; rintro e w' ⟨rfl, hb⟩; obtain ⟨g1, rfl⟩ := bout hb; clear hb)
  go_region_held3 (fun w' => w'.cell? ⟨w.heap.size, 0, none⟩ = some v0 ∧ w'.cell? ⟨w.heap.size, 1, none⟩ = some v1 ∧ w'.cell? ⟨w.heap.size, 2, none⟩ = some (.slice (some ⟨b, o, none⟩) len cap) ∧ w'.cell? ⟨w.heap.size, 3, none⟩ = some v3 ∧ w'.cell? ⟨w.heap.size, 4, none⟩ = some v4 ∧ w'.cell? ⟨w.heap.size, 5, none⟩ = some v5 ∧ w'.cell? ⟨w.heap.size + 1 + g1.size, 4, none⟩ = some (.int .i64 D)) (simp [go_sem])
    (first
      | (go_at_call 41; ((with_reducible refine (P1.out _).mono ?_); rintro e w' ⟨rfl, hb⟩); obtain ⟨g2, rfl⟩ := bout hb; clear hb)
      | (go_at_call 41; ((with_reducible refine (P2.out _).mono ?_); rintro e w' ⟨rfl, hb⟩); obtain ⟨g2, rfl⟩ := bout hb; clear hb))
  go_wp2
  go_ret
  exact ⟨_, rfl, by repeat (first | exact Below.refl _ _ | refine bG ?_ _ | refine bI ?_ _ _ | refine bA ?_ _ | refine bD ?_ | refine bN ?_ _), Ints_one _ _ _ _ (by simp) (by simp; omega)⟩
set_option maxHeartbeats 4000000 in
theorem refNext_br36_ne (v0 v1 v3 v4 v5 : Value) (b o len cap i : Nat) (x : Int) (hx0 : 0 ≤ x) (hx1 : x < 4294967296) (hi : i < len) (hl : len ≤ 1000) (w : World) (hb : b < w.heap.size) (hc : w.cell? ⟨b, o + i, none⟩ = some (.int .u32 x)) (hop : opS x = 36) (hne : plS len (fdS x) ≠ plS len (i + 2)) :
    Calls Try.prog 25 #[.agg #[v0, v1, .slice (some ⟨b, o, none⟩) len cap, v3, v4, v5], .int .i64 i] w fun e w' => ∃ v, e = .returned v ∧ Below w.heap.size w w' ∧ Ints w.heap.size w' v [min (plS len (fdS x)) (plS len (i + 2)), max (plS len (fdS x)) (plS len (i + 2))] := by
  have hd := refDec_any x hx0 hx1
  obtain ⟨a, b', c, e, hf⟩ := dec_form x
  rw [hf, hop] at hd
  simp only [insV] at hd
  have Hd := hid hd
  clear hd hf hop
  have p1 := fun w => refPlace_any v0 v1 v3 v4 v5 (some ⟨b, o, none⟩) len cap (fdS x) w
  have p2 := fun w => refPlace_any v0 v1 v3 v4 v5 (some ⟨b, o, none⟩) len cap ((i : Int) + 2) w
  generalize plS len (fdS x) = X at *
  generalize plS len ((i : Int) + 2) = Y at *
  generalize fdS x = D at *
  have hxy : (X == Y) = false := beq_eq_false_iff_ne.2 hne
  clear hne
  have hw2 : IntKind.i64.wrap ((i : Int) + 2) = (i : Int) + 2 := IntWalk.i64_in _ (by omega)
  have P1 := hid p1
  have P2 := hid p2
  clear p1 p2
  go_enter Try.func25, Try.ntmps25
  go_wp2_with (go_at_call 20; refine (Hd.out _).mono ?_; rintro e w' ⟨rfl, hb⟩; obtain ⟨g1, rfl⟩ := bout hb; clear hb)
  go_region_held3 (fun w' => w'.cell? ⟨w.heap.size, 0, none⟩ = some v0 ∧ w'.cell? ⟨w.heap.size, 1, none⟩ = some v1 ∧ w'.cell? ⟨w.heap.size, 2, none⟩ = some (.slice (some ⟨b, o, none⟩) len cap) ∧ w'.cell? ⟨w.heap.size, 3, none⟩ = some v3 ∧ w'.cell? ⟨w.heap.size, 4, none⟩ = some v4 ∧ w'.cell? ⟨w.heap.size, 5, none⟩ = some v5 ∧ w'.cell? ⟨w.heap.size + 1 + g1.size, 4, none⟩ = some (.int .i64 D)) (simp [go_sem])
    (first
      | (go_at_call 41; ((with_reducible refine (P1.out _).mono ?_); rintro e w' ⟨rfl, hb⟩); obtain ⟨g2, rfl⟩ := bout hb; clear hb)
      | (go_at_call 41; ((with_reducible refine (P2.out _).mono ?_); rintro e w' ⟨rfl, hb⟩); obtain ⟨g2, rfl⟩ := bout hb; clear hb))
  go_wp2
  go_ret
  exact ⟨_, rfl, by repeat (first | exact Below.refl _ _ | refine bG ?_ _ | refine bI ?_ _ _ | refine bA ?_ _ | refine bD ?_ | refine bN ?_ _), Ints_two _ _ _ _ _ (by simp) (by simp; omega)⟩
set_option maxHeartbeats 4000000 in
theorem refNext_br36_eq (v0 v1 v3 v4 v5 : Value) (b o len cap i : Nat) (x : Int) (hx0 : 0 ≤ x) (hx1 : x < 4294967296) (hi : i < len) (hl : len ≤ 1000) (w : World) (hb : b < w.heap.size) (hc : w.cell? ⟨b, o + i, none⟩ = some (.int .u32 x)) (hop : opS x = 36) (heq : plS len (fdS x) = plS len (i + 2)) :
    Calls Try.prog 25 #[.agg #[v0, v1, .slice (some ⟨b, o, none⟩) len cap, v3, v4, v5], .int .i64 i] w fun e w' => ∃ v, e = .returned v ∧ Below w.heap.size w w' ∧ Ints w.heap.size w' v [plS len (fdS x)] := by
  have hd := refDec_any x hx0 hx1
  obtain ⟨a, b', c, e, hf⟩ := dec_form x
  rw [hf, hop] at hd
  simp only [insV] at hd
  have Hd := hid hd
  clear hd hf hop
  have p1 := fun w => refPlace_any v0 v1 v3 v4 v5 (some ⟨b, o, none⟩) len cap (fdS x) w
  have p2 := fun w => refPlace_any v0 v1 v3 v4 v5 (some ⟨b, o, none⟩) len cap ((i : Int) + 2) w
  generalize plS len (fdS x) = X at *
  generalize plS len ((i : Int) + 2) = Y at *
  generalize fdS x = D at *
  subst heq
  have hw2 : IntKind.i64.wrap ((i : Int) + 2) = (i : Int) + 2 := IntWalk.i64_in _ (by omega)
  have P1 := hid p1
  have P2 := hid p2
  clear p1 p2
  go_enter Try.func25, Try.ntmps25
  go_wp2_with (go_at_call 20; refine (Hd.out _).mono ?_; rintro e w' ⟨rfl, hb⟩; obtain ⟨g1, rfl⟩ := bout hb; clear hb)
  go_region_held3 (fun w' => w'.cell? ⟨w.heap.size, 0, none⟩ = some v0 ∧ w'.cell? ⟨w.heap.size, 1, none⟩ = some v1 ∧ w'.cell? ⟨w.heap.size, 2, none⟩ = some (.slice (some ⟨b, o, none⟩) len cap) ∧ w'.cell? ⟨w.heap.size, 3, none⟩ = some v3 ∧ w'.cell? ⟨w.heap.size, 4, none⟩ = some v4 ∧ w'.cell? ⟨w.heap.size, 5, none⟩ = some v5 ∧ w'.cell? ⟨w.heap.size + 1 + g1.size, 4, none⟩ = some (.int .i64 D)) (simp [go_sem])
    (first
      | (go_at_call 41; ((with_reducible refine (P1.out _).mono ?_); rintro e w' ⟨rfl, hb⟩); obtain ⟨g2, rfl⟩ := bout hb; clear hb)
      | (go_at_call 41; ((with_reducible refine (P2.out _).mono ?_); rintro e w' ⟨rfl, hb⟩); obtain ⟨g2, rfl⟩ := bout hb; clear hb))
  go_wp2
  go_ret
  exact ⟨_, rfl, by repeat (first | exact Below.refl _ _ | refine bG ?_ _ | refine bI ?_ _ _ | refine bA ?_ _ | refine bD ?_ | refine bN ?_ _), Ints_one _ _ _ _ (by simp) (by simp; omega)⟩
set_option maxHeartbeats 1000000 in
theorem next_out (v0 v1 v3 v4 v5 : Value) (p : Option Addr) (len cap : Nat) (i : Int) (hi : i < 0 ∨ (len : Int) ≤ i) (w : World) :
    Calls Try.prog 24 #[.agg #[v0, v1, .slice p len cap, v3, v4, v5], .int .i64 i] w fun e w' => e = .returned (.slice none 0 0) ∧ Below w.heap.size w w' := by
  by_cases h0 : i < 0
  · clear hi
    go_enter Try.func24, Try.ntmps24
    go_wp2
    go_ret
    exact ⟨rfl, by repeat (first | exact Below.refl _ _ | refine bG ?_ _ | refine bI ?_ _ _ | refine bA ?_ _ | refine bD ?_ | refine bN ?_ _)⟩
  · have h1 : (len : Int) ≤ i := by omega
    clear hi
    go_enter Try.func24, Try.ntmps24
    go_wp2
    go_ret
    exact ⟨rfl, by repeat (first | exact Below.refl _ _ | refine bG ?_ _ | refine bI ?_ _ _ | refine bA ?_ _ | refine bD ?_ | refine bN ?_ _)⟩
theorem next_inn (v0 v1 v3 v4 v5 : Value) (b o len cap i : Nat) (x : Int) (hx0 : 0 ≤ x) (hx1 : x < 4294967296) (hi : i < len) (hl : len ≤ 1000) (w : World) (hb : b < w.heap.size) (hc : w.cell? ⟨b, o + i, none⟩ = some (.int .u32 x)) :
    Calls Try.prog 24 #[.agg #[v0, v1, .slice (some ⟨b, o, none⟩) len cap, v3, v4, v5], .int .i64 i] w fun e w' => ∃ v, e = .returned v ∧ Below w.heap.size w w' ∧ Ints w.heap.size w' v (nextS len x i) := by
  unfold nextS
  by_cases h42 : opS x = 42
  · rw [if_pos h42]; exact next_ret v0 v1 v3 v4 v5 b o len cap i x hx0 hx1 hi hl w hb hc h42
  rw [if_neg h42]
  by_cases h34 : opS x = 34
  · rw [if_pos h34]; exact next_jump v0 v1 v3 v4 v5 b o len cap i x hx0 hx1 hi hl w hb hc h34
  rw [if_neg h34]
  by_cases h35 : opS x = 35
  · rw [if_pos (Or.inl h35)]
    by_cases h : plS len (fdS x) = plS len (i + 2)
    · simp only [if_pos h]; exact next_br35_eq v0 v1 v3 v4 v5 b o len cap i x hx0 hx1 hi hl w hb hc h35 h
    · simp only [if_neg h]; exact next_br35_ne v0 v1 v3 v4 v5 b o len cap i x hx0 hx1 hi hl w hb hc h35 h
  by_cases h36 : opS x = 36
  · rw [if_pos (Or.inr h36)]
    by_cases h : plS len (fdS x) = plS len (i + 2)
    · simp only [if_pos h]; exact next_br36_eq v0 v1 v3 v4 v5 b o len cap i x hx0 hx1 hi hl w hb hc h36 h
    · simp only [if_neg h]; exact next_br36_ne v0 v1 v3 v4 v5 b o len cap i x hx0 hx1 hi hl w hb hc h36 h
  rw [if_neg (by omega)]
  exact next_one v0 v1 v3 v4 v5 b o len cap i x hx0 hx1 hi hl w hb hc h42 h34 h35 h36
set_option maxHeartbeats 1000000 in
theorem refNext_out (v0 v1 v3 v4 v5 : Value) (p : Option Addr) (len cap : Nat) (i : Int) (hi : i < 0 ∨ (len : Int) ≤ i) (w : World) :
    Calls Try.prog 25 #[.agg #[v0, v1, .slice p len cap, v3, v4, v5], .int .i64 i] w fun e w' => e = .returned (.slice none 0 0) ∧ Below w.heap.size w w' := by
  by_cases h0 : i < 0
  · clear hi
    go_enter Try.func25, Try.ntmps25
    go_wp2
    go_ret
    exact ⟨rfl, by repeat (first | exact Below.refl _ _ | refine bG ?_ _ | refine bI ?_ _ _ | refine bA ?_ _ | refine bD ?_ | refine bN ?_ _)⟩
  · have h1 : (len : Int) ≤ i := by omega
    clear hi
    go_enter Try.func25, Try.ntmps25
    go_wp2
    go_ret
    exact ⟨rfl, by repeat (first | exact Below.refl _ _ | refine bG ?_ _ | refine bI ?_ _ _ | refine bA ?_ _ | refine bD ?_ | refine bN ?_ _)⟩
theorem refNext_inn (v0 v1 v3 v4 v5 : Value) (b o len cap i : Nat) (x : Int) (hx0 : 0 ≤ x) (hx1 : x < 4294967296) (hi : i < len) (hl : len ≤ 1000) (w : World) (hb : b < w.heap.size) (hc : w.cell? ⟨b, o + i, none⟩ = some (.int .u32 x)) :
    Calls Try.prog 25 #[.agg #[v0, v1, .slice (some ⟨b, o, none⟩) len cap, v3, v4, v5], .int .i64 i] w fun e w' => ∃ v, e = .returned v ∧ Below w.heap.size w w' ∧ Ints w.heap.size w' v (nextS len x i) := by
  unfold nextS
  by_cases h42 : opS x = 42
  · rw [if_pos h42]; exact refNext_ret v0 v1 v3 v4 v5 b o len cap i x hx0 hx1 hi hl w hb hc h42
  rw [if_neg h42]
  by_cases h34 : opS x = 34
  · rw [if_pos h34]; exact refNext_jump v0 v1 v3 v4 v5 b o len cap i x hx0 hx1 hi hl w hb hc h34
  rw [if_neg h34]
  by_cases h35 : opS x = 35
  · rw [if_pos (Or.inl h35)]
    by_cases h : plS len (fdS x) = plS len (i + 2)
    · simp only [if_pos h]; exact refNext_br35_eq v0 v1 v3 v4 v5 b o len cap i x hx0 hx1 hi hl w hb hc h35 h
    · simp only [if_neg h]; exact refNext_br35_ne v0 v1 v3 v4 v5 b o len cap i x hx0 hx1 hi hl w hb hc h35 h
  by_cases h36 : opS x = 36
  · rw [if_pos (Or.inr h36)]
    by_cases h : plS len (fdS x) = plS len (i + 2)
    · simp only [if_pos h]; exact refNext_br36_eq v0 v1 v3 v4 v5 b o len cap i x hx0 hx1 hi hl w hb hc h36 h
    · simp only [if_neg h]; exact refNext_br36_ne v0 v1 v3 v4 v5 b o len cap i x hx0 hx1 hi hl w hb hc h36 h
  rw [if_neg (by omega)]
  exact refNext_one v0 v1 v3 v4 v5 b o len cap i x hx0 hx1 hi hl w hb hc h42 h34 h35 h36
end Go.Proofs.Ytjocifamacpamaa
