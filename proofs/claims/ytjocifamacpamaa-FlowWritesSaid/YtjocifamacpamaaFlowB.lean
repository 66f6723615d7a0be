/- flow.Next, walked. Conditions: none. -/
import Derived.Deep.RegionHeld3
import Derived.IntWalk
import Derived.Test.YtjocifamacpamaaFlowA
import Derived.Test.YtjocifamacpamaaInstrI
import Derived.Test.YtjocifamacpamaaSortN
namespace Go.Proofs.Ytjocifamacpamaa
open Go.RowKit
set_option linter.unusedVariables false
set_option linter.unusedSimpArgs false
/-- What a word is decoded to: its number and its D; nothing: 0, 0. -/
def opS (x : Int) : Int := match decS x with
  | .tuple ⟨(.agg ⟨(.int _ n) :: _⟩) :: _⟩ => n
  | _ => 0
def fdS (x : Int) : Int := match decS x with
  | .tuple ⟨(.agg ⟨[_, _, _, _, .int _ d]⟩) :: _⟩ => d
  | _ => 0
theorem dec_form (x : Int) : ∃ a b c e, decS x = .tuple #[insV (opS x) a b c (fdS x), .int .i64 e] := by
  rcases decS_form x with ⟨n, a, b, c, d, h, _⟩ | h
  · refine ⟨a, b, c, 0, ?_⟩
    have e1 : opS x = n := by unfold opS; rw [h]; rfl
    have e2 : fdS x = d := by unfold fdS; rw [h]; rfl
    rw [e1, e2, h]
  · refine ⟨0, 0, 0, 1, ?_⟩
    have e1 : opS x = 0 := by unfold opS; rw [h]; rfl
    have e2 : fdS x = 0 := by unfold fdS; rw [h]; rfl
    rw [e1, e2, h]; rfl
/-- A slice of ints that the call has made itself, from block B on. -/
def Ints (B : Nat) (w : World) (v : Value) (l : List Int) : Prop := w.ownsRow B 3 1 v l.length (l.map (Value.int .i64))
theorem Ints.out {B : Nat} {w : World} {v : Value} {l : List Int} (h : Ints B w v l) : ∃ p cap, v = .slice p l.length cap ∧ (l ≠ [] → ∃ b o, p = some ⟨b, o, none⟩ ∧ B ≤ b ∧ b < w.heap.size ∧ ∀ (i : Nat) (h : i < l.length), w.cell? ⟨b, o + i, none⟩ = some (.int .i64 l[i])) := by
  have h0 := h
  obtain ⟨h1, h2⟩ := h
  rcases h2 with ⟨rfl, h2⟩ | ⟨g, cap, cur, rfl, hg, hh, hc1, hc2, hc3, hc4⟩
  · have : l = [] := List.length_eq_zero_iff.1 h2
    subst this
    exact ⟨none, 0, rfl, fun h => absurd rfl h⟩
  · refine ⟨_, _, rfl, fun _ => ⟨g, 0, rfl, hg, (Array.getElem?_eq_some_iff.1 hh).1, fun i hi => ?_⟩⟩
    have := World.ownsRow.cellAt h0 i (by omega)
    rw [Nat.zero_add, this]
    simp [hi]
def nextS (len : Int) (x at' : Int) : List Int :=
  if opS x = 42 then [-1]
  else if opS x = 34 then [plS len (fdS x)]
  else if opS x = 35 ∨ opS x = 36 then (let a := plS len (fdS x); let b := plS len (at' + 2); if a = b then [a] else [min a b, max a b])
  else [plS len (at' + 1)]
theorem Ints_row (B n k : Nat) (W : World) (cs : Array Value) (l : List Int) (hn : n = W.heap.size) (hB : B ≤ W.heap.size) (hc : cs.size = k) (hk : k ≤ 1000) (hl : l.length ≤ k) (ht : cs.toList.take l.length = l.map (Value.int .i64)) : Ints B (W.alloc (.cells cs 3)) (.slice (some ⟨n, 0, none⟩) l.length k) l := by
  subst hn
  refine ⟨by simp, Or.inr ⟨W.heap.size, k, cs, rfl, hB, ?_, hl, by unfold maxLen; omega, by omega, by rw [Nat.mul_one]; exact ht⟩⟩
  exact heap_alloc_new _ _
theorem Ints_one (B n : Nat) (W : World) (x : Int) (hn : n = W.heap.size) (hB : B ≤ W.heap.size) : Ints B (W.alloc (.cells #[.int .i64 x] 3)) (.slice (some ⟨n, 0, none⟩) 1 1) [x] :=
  Ints_row B n 1 W #[.int .i64 x] [x] hn hB rfl (by decide) (by simp) rfl
theorem Ints_below {B : Nat} {w w' : World} {v : Value} {l : List Int} (h : Ints B w v l) (hb : Below w.heap.size w w') : Ints B w' v l := by
  obtain ⟨h1, h2⟩ := h
  refine ⟨h1, ?_⟩
  rcases h2 with h2 | ⟨g, cap, cur, hv, hg, hh, hr⟩
  · exact Or.inl h2
  · exact Or.inr ⟨g, cap, cur, hv, hg, by rw [hb.block g (Array.getElem?_eq_some_iff.1 hh).1]; exact hh, hr⟩
set_option maxHeartbeats 2000000 in
theorem next_ret (v0 v1 v3 v4 v5 : Value) (b o len cap i : Nat) (x : Int) (hx0 : 0 ≤ x) (hx1 : x < 4294967296) (hi : i < len) (hl : len ≤ 1000) (w : World) (hb : b < w.heap.size) (hc : w.cell? ⟨b, o + i, none⟩ = some (.int .u32 x)) (h42 : opS x = 42) :
    Calls Try.prog 24 #[.agg #[v0, v1, .slice (some ⟨b, o, none⟩) len cap, v3, v4, v5], .int .i64 i] w fun e w' => ∃ v, e = .returned v ∧ Below w.heap.size w w' ∧ Ints w.heap.size w' v [-1] := by
  have hd := dec_any x hx0 hx1
  obtain ⟨a, b', c, e, hf⟩ := dec_form x
  rw [hf, h42] at hd
  simp only [insV] at hd
  have Hd := hid hd
  clear hd hf h42
  go_enter Try.func24, Try.ntmps24
  go_wp2_with (go_at_call 19; refine (Hd.out _).mono ?_; rintro e w' ⟨rfl, hb⟩; obtain ⟨g1, rfl⟩ := bout hb; clear hb)
  go_ret
  exact ⟨_, rfl, by repeat (first | exact Below.refl _ _ | refine bG ?_ _ | refine bI ?_ _ _ | refine bA ?_ _ | refine bD ?_ | refine bN ?_ _), Ints_one _ _ _ _ (by simp) (by simp; omega)⟩
set_option maxHeartbeats 2000000 in
theorem next_jump (v0 v1 v3 v4 v5 : Value) (b o len cap i : Nat) (x : Int) (hx0 : 0 ≤ x) (hx1 : x < 4294967296) (hi : i < len) (hl : len ≤ 1000) (w : World) (hb : b < w.heap.size) (hc : w.cell? ⟨b, o + i, none⟩ = some (.int .u32 x)) (h34 : opS x = 34) :
    Calls Try.prog 24 #[.agg #[v0, v1, .slice (some ⟨b, o, none⟩) len cap, v3, v4, v5], .int .i64 i] w fun e w' => ∃ v, e = .returned v ∧ Below w.heap.size w w' ∧ Ints w.heap.size w' v [plS len (fdS x)] := by
  have hd := dec_any x hx0 hx1
  obtain ⟨a, b', c, e, hf⟩ := dec_form x
  rw [hf, h34] at hd
  simp only [insV] at hd
  have Hd := hid hd
  clear hd hf h34
  go_enter Try.func24, Try.ntmps24
  go_wp2_with (first | (go_at_call 19; refine (Hd.out _).mono ?_; rintro e w' ⟨rfl, hb⟩; obtain ⟨g1, rfl⟩ := bout hb; clear hb) | (go_at_call 38; refine (place_any _ _ _ _ _ _ _ _ _ _).mono ?_; rintro e w' ⟨rfl, hb⟩; obtain ⟨g2, rfl⟩ := bout hb; clear hb))
  go_ret
  exact ⟨_, rfl, by repeat (first | exact Below.refl _ _ | refine bG ?_ _ | refine bI ?_ _ _ | refine bA ?_ _ | refine bD ?_ | refine bN ?_ _), Ints_one _ _ _ _ (by simp) (by simp; omega)⟩
set_option maxHeartbeats 2000000 in
theorem next_one (v0 v1 v3 v4 v5 : Value) (b o len cap i : Nat) (x : Int) (hx0 : 0 ≤ x) (hx1 : x < 4294967296) (hi : i < len) (hl : len ≤ 1000) (w : World) (hb : b < w.heap.size) (hc : w.cell? ⟨b, o + i, none⟩ = some (.int .u32 x)) (h42 : opS x ≠ 42) (h34 : opS x ≠ 34) (h35 : opS x ≠ 35) (h36 : opS x ≠ 36) :
    Calls Try.prog 24 #[.agg #[v0, v1, .slice (some ⟨b, o, none⟩) len cap, v3, v4, v5], .int .i64 i] w fun e w' => ∃ v, e = .returned v ∧ Below w.heap.size w w' ∧ Ints w.heap.size w' v [plS len (i + 1)] := by
  have hd := dec_any x hx0 hx1
  obtain ⟨a, b', c, e, hf⟩ := dec_form x
  rw [hf] at hd
  simp only [insV] at hd
  have Hd := hid hd
  clear hd hf
  have e42 : (opS x == 42) = false := beq_eq_false_iff_ne.2 h42
  have e34 : (opS x == 34) = false := beq_eq_false_iff_ne.2 h34
  have e35 : (opS x == 35) = false := beq_eq_false_iff_ne.2 h35
  have e36 : (opS x == 36) = false := beq_eq_false_iff_ne.2 h36
  clear h42 h34 h35 h36
  go_enter Try.func24, Try.ntmps24
  go_wp2_with (first | (go_at_call 19; refine (Hd.out _).mono ?_; rintro e w' ⟨rfl, hb⟩; obtain ⟨g1, rfl⟩ := bout hb; clear hb) | (go_at_call 38; refine (place_any _ _ _ _ _ _ _ _ _ _).mono ?_; rintro e w' ⟨rfl, hb⟩; obtain ⟨g2, rfl⟩ := bout hb; clear hb) | (go_at_call 39; refine (sort_one _ _ _ (by simp)).mono ?_; rintro e w' ⟨rfl, g3, rfl⟩) | (go_at_call 40; refine (compact_one _ _ _ (by simp) _).mono ?_; rintro e w' ⟨rfl, g4, rfl⟩))
  go_ret
  exact ⟨_, rfl, by repeat (first | exact Below.refl _ _ | refine bG ?_ _ | refine bI ?_ _ _ | refine bA ?_ _ | refine bD ?_ | refine bN ?_ _), Ints_below (Ints_one _ _ _ _ (by simp) (by simp; omega)) (below_grow _ _)⟩
theorem Ints_two (B n : Nat) (W : World) (x y : Int) (hn : n = W.heap.size) (hB : B ≤ W.heap.size) : Ints B (W.alloc (.cells #[.int .i64 x, .int .i64 y] 3)) (.slice (some ⟨n, 0, none⟩) 2 2) [x, y] :=
  Ints_row B n 2 W #[.int .i64 x, .int .i64 y] [x, y] hn hB rfl (by decide) (by simp) rfl
theorem Ints_cut (B n : Nat) (W : World) (x y : Int) (hn : n = W.heap.size) (hB : B ≤ W.heap.size) : Ints B (W.alloc (.cells #[.int .i64 x, .int .i64 y] 3)) (.slice (some ⟨n, 0, none⟩) 1 2) [x] :=
  Ints_row B n 2 W #[.int .i64 x, .int .i64 y] [x] hn hB rfl (by decide) (by simp) rfl
set_option maxHeartbeats 4000000 in
theorem next_br35_ne (v0 v1 v3 v4 v5 : Value) (b o len cap i : Nat) (x : Int) (hx0 : 0 ≤ x) (hx1 : x < 4294967296) (hi : i < len) (hl : len ≤ 1000) (w : World) (hb : b < w.heap.size) (hc : w.cell? ⟨b, o + i, none⟩ = some (.int .u32 x)) (hop : opS x = 35) (hne : plS len (fdS x) ≠ plS len (i + 2)) :
    Calls Try.prog 24 #[.agg #[v0, v1, .slice (some ⟨b, o, none⟩) len cap, v3, v4, v5], .int .i64 i] w fun e w' => ∃ v, e = .returned v ∧ Below w.heap.size w w' ∧ Ints w.heap.size w' v [min (plS len (fdS x)) (plS len (i + 2)), max (plS len (fdS x)) (plS len (i + 2))] := by
  have hd := dec_any x hx0 hx1
  obtain ⟨a, b', c, e, hf⟩ := dec_form x
  rw [hf, hop] at hd
  simp only [insV] at hd
  have Hd := hid hd
  clear hd hf hop
  have p1 := fun w => place_any v0 v1 v3 v4 v5 (some ⟨b, o, none⟩) len cap (fdS x) w
  have p2 := fun w => place_any v0 v1 v3 v4 v5 (some ⟨b, o, none⟩) len cap ((i : Int) + 2) w
  generalize plS len (fdS x) = X at *
  generalize plS len ((i : Int) + 2) = Y at *
  generalize fdS x = D at *
  have hmm : min X Y ≠ max X Y := by omega
  have Hmm := hid hmm
  clear hmm hne
  have hw2 : IntKind.i64.wrap ((i : Int) + 2) = (i : Int) + 2 := IntWalk.i64_in _ (by omega)
  have P1 := hid p1
  have P2 := hid p2
  clear p1 p2
  go_enter Try.func24, Try.ntmps24
  go_wp2_with (go_at_call 19; refine (Hd.out _).mono ?_; rintro e w' ⟨rfl, hb⟩; obtain ⟨g1, rfl⟩ := bout hb; clear hb)
  go_region_held3 (fun w' => w'.cell? ⟨w.heap.size, 0, none⟩ = some v0 ∧ w'.cell? ⟨w.heap.size, 1, none⟩ = some v1 ∧ w'.cell? ⟨w.heap.size, 2, none⟩ = some (.slice (some ⟨b, o, none⟩) len cap) ∧ w'.cell? ⟨w.heap.size, 3, none⟩ = some v3 ∧ w'.cell? ⟨w.heap.size, 4, none⟩ = some v4 ∧ w'.cell? ⟨w.heap.size, 5, none⟩ = some v5 ∧ w'.cell? ⟨w.heap.size + 1 + g1.size, 4, none⟩ = some (.int .i64 D)) (simp [go_sem])
    (first
      | (go_at_call 38; ((with_reducible refine (P1.out _).mono ?_); rintro e w' ⟨rfl, hb⟩); obtain ⟨g2, rfl⟩ := bout hb; clear hb)
      | (go_at_call 38; ((with_reducible refine (P2.out _).mono ?_); rintro e w' ⟨rfl, hb⟩); obtain ⟨g2, rfl⟩ := bout hb; clear hb))
  go_wp2_with (first | (go_at_call 39; refine (sort_two _ _ _ _ (by simp)).mono ?_; rintro e w' ⟨rfl, g3, rfl⟩) | (go_at_call 40; refine (compact_ne _ _ _ _ Hmm.out (by simp) _).mono ?_; rintro e w' ⟨rfl, g4, rfl⟩))
  go_ret
  exact ⟨_, rfl, by repeat (first | exact Below.refl _ _ | refine bG ?_ _ | refine bI ?_ _ _ | refine bA ?_ _ | refine bD ?_ | refine bN ?_ _), Ints_below (Ints_two _ _ _ _ _ (by simp) (by simp; omega)) (below_grow _ _)⟩
set_option maxHeartbeats 4000000 in
theorem next_br36_ne (v0 v1 v3 v4 v5 : Value) (b o len cap i : Nat) (x : Int) (hx0 : 0 ≤ x) (hx1 : x < 4294967296) (hi : i < len) (hl : len ≤ 1000) (w : World) (hb : b < w.heap.size) (hc : w.cell? ⟨b, o + i, none⟩ = some (.int .u32 x)) (hop : opS x = 36) (hne : plS len (fdS x) ≠ plS len (i + 2)) :
    Calls Try.prog 24 #[.agg #[v0, v1, .slice (some ⟨b, o, none⟩) len cap, v3, v4, v5], .int .i64 i] w fun e w' => ∃ v, e = .returned v ∧ Below w.heap.size w w' ∧ Ints w.heap.size w' v [min (plS len (fdS x)) (plS len (i + 2)), max (plS len (fdS x)) (plS len (i + 2))] := by
  have hd := dec_any x hx0 hx1
  obtain ⟨a, b', c, e, hf⟩ := dec_form x
  rw [hf, hop] at hd
  simp only [insV] at hd
  have Hd := hid hd
  clear hd hf hop
  have p1 := fun w => place_any v0 v1 v3 v4 v5 (some ⟨b, o, none⟩) len cap (fdS x) w
  have p2 := fun w => place_any v0 v1 v3 v4 v5 (some ⟨b, o, none⟩) len cap ((i : Int) + 2) w
  generalize plS len (fdS x) = X at *
  generalize plS len ((i : Int) + 2) = Y at *
  generalize fdS x = D at *
  have hmm : min X Y ≠ max X Y := by omega
  have Hmm := hid hmm
  clear hmm hne
  have hw2 : IntKind.i64.wrap ((i : Int) + 2) = (i : Int) + 2 := IntWalk.i64_in _ (by omega)
  have P1 := hid p1
  have P2 := hid p2
  clear p1 p2
  go_enter Try.func24, Try.ntmps24
  go_wp2_with (go_at_call 19; refine (Hd.out _).mono ?_; rintro e w' ⟨rfl, hb⟩; obtain ⟨g1, rfl⟩ := bout hb; clear hb)
  go_region_held3 (fun w' => w'.cell? ⟨w.heap.size, 0, none⟩ = some v0 ∧ w'.cell? ⟨w.heap.size, 1, none⟩ = some v1 ∧ w'.cell? ⟨w.heap.size, 2, none⟩ = some (.slice (some ⟨b, o, none⟩) len cap) ∧ w'.cell? ⟨w.heap.size, 3, none⟩ = some v3 ∧ w'.cell? ⟨w.heap.size, 4, none⟩ = some v4 ∧ w'.cell? ⟨w.heap.size, 5, none⟩ = some v5 ∧ w'.cell? ⟨w.heap.size + 1 + g1.size, 4, none⟩ = some (.int .i64 D)) (simp [go_sem])
    (first
      | (go_at_call 38; ((with_reducible refine (P1.out _).mono ?_); rintro e w' ⟨rfl, hb⟩); obtain ⟨g2, rfl⟩ := bout hb; clear hb)
      | (go_at_call 38; ((with_reducible refine (P2.out _).mono ?_); rintro e w' ⟨rfl, hb⟩); obtain ⟨g2, rfl⟩ := bout hb; clear hb))
  go_wp2_with (first | (go_at_call 39; refine (sort_two _ _ _ _ (by simp)).mono ?_; rintro e w' ⟨rfl, g3, rfl⟩) | (go_at_call 40; refine (compact_ne _ _ _ _ Hmm.out (by simp) _).mono ?_; rintro e w' ⟨rfl, g4, rfl⟩))
  go_ret
  exact ⟨_, rfl, by repeat (first | exact Below.refl _ _ | refine bG ?_ _ | refine bI ?_ _ _ | refine bA ?_ _ | refine bD ?_ | refine bN ?_ _), Ints_below (Ints_two _ _ _ _ _ (by simp) (by simp; omega)) (below_grow _ _)⟩
set_option maxHeartbeats 4000000 in
theorem next_br35_eq (v0 v1 v3 v4 v5 : Value) (b o len cap i : Nat) (x : Int) (hx0 : 0 ≤ x) (hx1 : x < 4294967296) (hi : i < len) (hl : len ≤ 1000) (w : World) (hb : b < w.heap.size) (hc : w.cell? ⟨b, o + i, none⟩ = some (.int .u32 x)) (hop : opS x = 35) (heq : plS len (fdS x) = plS len (i + 2)) :
    Calls Try.prog 24 #[.agg #[v0, v1, .slice (some ⟨b, o, none⟩) len cap, v3, v4, v5], .int .i64 i] w fun e w' => ∃ v, e = .returned v ∧ Below w.heap.size w w' ∧ Ints w.heap.size w' v [plS len (fdS x)] := by
  have hd := dec_any x hx0 hx1
  obtain ⟨a, b', c, e, hf⟩ := dec_form x
  rw [hf, hop] at hd
  simp only [insV] at hd
  have Hd := hid hd
  clear hd hf hop
  have p1 := fun w => place_any v0 v1 v3 v4 v5 (some ⟨b, o, none⟩) len cap (fdS x) w
  have p2 := fun w => place_any v0 v1 v3 v4 v5 (some ⟨b, o, none⟩) len cap ((i : Int) + 2) w
  generalize plS len (fdS x) = X at *
  generalize plS len ((i : Int) + 2) = Y at *
  generalize fdS x = D at *
  subst heq
  have hw2 : IntKind.i64.wrap ((i : Int) + 2) = (i : Int) + 2 := IntWalk.i64_in _ (by omega)
  have P1 := hid p1
  have P2 := hid p2
  clear p1 p2
  go_enter Try.func24, Try.ntmps24
  go_wp2_with (go_at_call 19; refine (Hd.out _).mono ?_; rintro e w' ⟨rfl, hb⟩; obtain ⟨g1, rfl⟩ := bout hb; clear hb)
  go_region_held3 (fun w' => w'.cell? ⟨w.heap.size, 0, none⟩ = some v0 ∧ w'.cell? ⟨w.heap.size, 1, none⟩ = some v1 ∧ w'.cell? ⟨w.heap.size, 2, none⟩ = some (.slice (some ⟨b, o, none⟩) len cap) ∧ w'.cell? ⟨w.heap.size, 3, none⟩ = some v3 ∧ w'.cell? ⟨w.heap.size, 4, none⟩ = some v4 ∧ w'.cell? ⟨w.heap.size, 5, none⟩ = some v5 ∧ w'.cell? ⟨w.heap.size + 1 + g1.size, 4, none⟩ = some (.int .i64 D)) (simp [go_sem])
    (first
      | (go_at_call 38; ((with_reducible refine (P1.out _).mono ?_); rintro e w' ⟨rfl, hb⟩); obtain ⟨g2, rfl⟩ := bout hb; clear hb)
      | (go_at_call 38; ((with_reducible refine (P2.out _).mono ?_); rintro e w' ⟨rfl, hb⟩); obtain ⟨g2, rfl⟩ := bout hb; clear hb))
  go_wp2_with (first | (go_at_call 39; refine (sort_two _ _ _ _ (by simp)).mono ?_; rintro e w' ⟨rfl, g3, rfl⟩; simp only [Int.min_self, Int.max_self]) | (go_at_call 40; refine (compact_eq _ _ _ (by simp) _).mono ?_; rintro e w' ⟨rfl, g4, rfl⟩))
  go_ret
  exact ⟨_, rfl, by repeat (first | exact Below.refl _ _ | refine bG ?_ _ | refine bI ?_ _ _ | refine bA ?_ _ | refine bD ?_ | refine bN ?_ _), Ints_below (Ints_cut _ _ _ _ _ (by simp) (by simp; omega)) (below_grow _ _)⟩
set_option maxHeartbeats 4000000 in
theorem next_br36_eq (v0 v1 v3 v4 v5 : Value) (b o len cap i : Nat) (x : Int) (hx0 : 0 ≤ x) (hx1 : x < 4294967296) (hi : i < len) (hl : len ≤ 1000) (w : World) (hb : b < w.heap.size) (hc : w.cell? ⟨b, o + i, none⟩ = some (.int .u32 x)) (hop : opS x = 36) (heq : plS len (fdS x) = plS len (i + 2)) :
    Calls Try.prog 24 #[.agg #[v0, v1, .slice (some ⟨b, o, none⟩) len cap, v3, v4, v5], .int .i64 i] w fun e w' => ∃ v, e = .returned v ∧ Below w.heap.size w w' ∧ Ints w.heap.size w' v [plS len (fdS x)] := by
  have hd := dec_any x hx0 hx1
  obtain ⟨a, b', c, e, hf⟩ := dec_form x
  rw [hf, hop] at hd
  simp only [insV] at hd
  have Hd := hid hd
  clear hd hf hop
  have p1 := fun w => place_any v0 v1 v3 v4 v5 (some ⟨b, o, none⟩) len cap (fdS x) w
  have p2 := fun w => place_any v0 v1 v3 v4 v5 (some ⟨b, o, none⟩) len cap ((i : Int) + 2) w
  generalize plS len (fdS x) = X at *
  generalize plS len ((i : Int) + 2) = Y at *
  generalize fdS x = D at *
  subst heq
  have hw2 : IntKind.i64.wrap ((i : Int) + 2) = (i : Int) + 2 := IntWalk.i64_in _ (by omega)
  have P1 := hid p1
  have P2 := hid p2
  clear p1 p2
  go_enter Try.func24, Try.ntmps24
  go_wp2_with (go_at_call 19; refine (Hd.out _).mono ?_; rintro e w' ⟨rfl, hb⟩; obtain ⟨g1, rfl⟩ := bout hb; clear hb)
  go_region_held3 (fun w' => w'.cell? ⟨w.heap.size, 0, none⟩ = some v0 ∧ w'.cell? ⟨w.heap.size, 1, none⟩ = some v1 ∧ w'.cell? ⟨w.heap.size, 2, none⟩ = some (.slice (some ⟨b, o, none⟩) len cap) ∧ w'.cell? ⟨w.heap.size, 3, none⟩ = some v3 ∧ w'.cell? ⟨w.heap.size, 4, none⟩ = some v4 ∧ w'.cell? ⟨w.heap.size, 5, none⟩ = some v5 ∧ w'.cell? ⟨w.heap.size + 1 + g1.size, 4, none⟩ = some (.int .i64 D)) (simp [go_sem])
    (first
      | (go_at_call 38; ((with_reducible refine (P1.out _).mono ?_); rintro e w' ⟨rfl, hb⟩); obtain ⟨g2, rfl⟩ := bout hb; clear hb)
      | (go_at_call 38; ((with_reducible refine (P2.out _).mono ?_); rintro e w' ⟨rfl, hb⟩); obtain ⟨g2, rfl⟩ := bout hb; clear hb))
  go_wp2_with (first | (go_at_call 39; refine (sort_two _ _ _ _ (by simp)).mono ?_; rintro e w' ⟨rfl, g3, rfl⟩; simp only [Int.min_self, Int.max_self]) | (go_at_call 40; refine (compact_eq _ _ _ (by simp) _).mono ?_; rintro e w' ⟨rfl, g4, rfl⟩))
  go_ret
  exact ⟨_, rfl, by repeat (first | exact Below.refl _ _ | refine bG ?_ _ | refine bI ?_ _ _ | refine bA ?_ _ | refine bD ?_ | refine bN ?_ _), Ints_below (Ints_cut _ _ _ _ _ (by simp) (by simp; omega)) (below_grow _ _)⟩
end Go.Proofs.Ytjocifamacpamaa
