/- FlowReach: which words can be come to: the walk. Conditions: none. -/
import Derived.Test.YtjocifamacpamaaFlowJ
import Derived.Test.YtjocifamacpamaaFlowP
import Derived.Deep.RegionHeld3
namespace Go.Proofs.Ytjocifamacpamaa
open Go.RowKit
set_option linter.unusedVariables false
set_option linter.unusedSimpArgs false
set_option maxHeartbeats 2000000 in
theorem refReach_nil (v0 v1 v3 v4 v5 : Value) (p : Option Addr) (cap : Nat) (w : World) :
    Calls Try.prog 29 #[.agg #[v0, v1, .slice p 0 cap, v3, v4, v5]] w fun e w' => e = .returned (.slice none 0 0) ∧ Below w.heap.size w w' := by
  go_enter Try.func29, Try.ntmps29
  go_wp2
  go_ret
  exact ⟨rfl, by repeat (first | exact Below.refl _ _ | refine bG ?_ _ | refine bI ?_ _ _ | refine bA ?_ _)⟩
/-- A row of truths. -/
def Bools (w : World) (v : Value) (l : List Bool) : Prop := ∃ B, w.ownsRow B 4 1 v l.length (l.map Value.bool)
theorem Bools.below {w w' : World} {v : Value} {l : List Bool} (h : Bools w v l) (hb : Below w.heap.size w w') : Bools w' v l := h.elim fun B h => ⟨B, own_below h hb⟩
theorem Bools.out {w : World} {v : Value} {l : List Bool} (h : Bools w v l) : ∃ p cap, v = .slice p l.length cap ∧ (l ≠ [] → ∃ b, p = some ⟨b, 0, none⟩ ∧ b < w.heap.size ∧ ∀ (i : Nat), i < l.length → w.cell? ⟨b, i, none⟩ = some (.bool (l.getD i true))) := by
  obtain ⟨B, h1, h2⟩ := h
  rcases h2 with ⟨rfl, h0⟩ | ⟨g, cap, cur, rfl, _, hh, _, _, _, ht⟩
  · exact ⟨none, 0, by rw [h0], fun hn => absurd (List.eq_nil_of_length_eq_zero h0) hn⟩
  · refine ⟨_, cap, rfl, fun _ => ⟨g, rfl, (Array.getElem?_eq_some_iff.1 hh).1, fun i hi => ?_⟩⟩
    have h3 : (cur.toList.take (l.length * 1))[i]? = some (.bool (l.getD i true)) := by
      rw [ht]; simp [List.getD, hi]
    rw [List.getElem?_take_of_lt (by omega)] at h3
    have h4 : cur[i]? = some (.bool (l.getD i true)) := by simpa using h3
    simp [World.cell?, hh, h4]
set_option maxHeartbeats 4000000 in
theorem freach_many (v0 v1 v3 v4 v5 : Value) (p : Option Addr) (len cap : Nat) (w : World)
    (hf : ∀ w1, Calls Try.prog 22 #[.agg #[v0, v1, .slice p len cap, v3, v4, v5]] w1 fun e w' => e = .returned (.bool false) ∧ Below w1.heap.size w1 w') :
    Calls Try.prog 11 #[.agg #[v0, v1, .slice p len cap, v3, v4, v5]] w fun e w' => e = .returned (.bool true) ∧ Below w.heap.size w w' := by
  have Hf := hid hf
  clear hf
  go_enter Try.func11, Try.ntmps11
  go_wp2_with (first | (go_at_call 21; refine (awake18 _).mono ?_; rintro e w' ⟨rfl, hb⟩; obtain ⟨g1, rfl⟩ := bout hb; clear hb) | (go_at_call 22; refine (Hf.out _).mono ?_; rintro e w' ⟨rfl, hb⟩; obtain ⟨g2, rfl⟩ := bout hb; clear hb))
  go_ret
  exact ⟨rfl, by repeat (first | exact Below.refl _ _ | refine bG ?_ _ | refine bI ?_ _ _ | refine bA ?_ _)⟩
set_option maxHeartbeats 4000000 in
theorem freach_few (v0 v1 v3 v4 v5 : Value) (p : Option Addr) (len cap : Nat) (L : List Bool) (hL1 : L.length ≤ 1000) (w : World)
    (hf : ∀ w1, Calls Try.prog 22 #[.agg #[v0, v1, .slice p len cap, v3, v4, v5]] w1 fun e w' => e = .returned (.bool true) ∧ Below w1.heap.size w1 w')
    (hn : ∀ w1, Below w.heap.size w w1 → Calls Try.prog 28 #[.agg #[v0, v1, .slice p len cap, v3, v4, v5]] w1 fun e w' => ∃ v, e = .returned v ∧ Below w1.heap.size w1 w' ∧ Bools w' v L)
    (hr : ∀ w1, Below w.heap.size w w1 → Calls Try.prog 29 #[.agg #[v0, v1, .slice p len cap, v3, v4, v5]] w1 fun e w' => ∃ v, e = .returned v ∧ Below w1.heap.size w1 w' ∧ Bools w' v L) :
    Calls Try.prog 11 #[.agg #[v0, v1, .slice p len cap, v3, v4, v5]] w fun e w' => e = .returned (.bool true) ∧ Below w.heap.size w w' := by
  have Hf := hid hf
  have Hn := hid hn
  have Hr := hid hr
  clear hf hn hr
  go_enter Try.func11, Try.ntmps11
  go_wp2_with (first | (go_at_call 21; refine (awake18 _).mono ?_; rintro e w' ⟨rfl, hb⟩; obtain ⟨g1, rfl⟩ := bout hb; clear hb) | (go_at_call 22; refine (Hf.out _).mono ?_; rintro e w' ⟨rfl, hb⟩; obtain ⟨g2, rfl⟩ := bout hb; clear hb))
  go_outline
  go_region_held3 (fun w' => w'.cell? ⟨w.heap.size, 0, none⟩ = some v0 ∧ w'.cell? ⟨w.heap.size, 1, none⟩ = some v1 ∧ w'.cell? ⟨w.heap.size, 2, none⟩ = some (.slice p len cap) ∧ w'.cell? ⟨w.heap.size, 3, none⟩ = some v3 ∧ w'.cell? ⟨w.heap.size, 4, none⟩ = some v4 ∧ w'.cell? ⟨w.heap.size, 5, none⟩ = some v5) (simp [go_sem])
    (first
      | (go_at_call 28; ((with_reducible refine (Hn.out _ (by repeat (first | exact Below.refl _ _ | refine bG ?_ _ | refine bI ?_ _ _ | refine bA ?_ _ | refine bD ?_ | refine bN ?_ _))).mono ?_); rintro e w' ⟨x, rfl, hb, hx⟩); obtain ⟨g3, rfl⟩ := bout hb; clear hb)
      | (go_at_call 29; ((with_reducible refine (Hr.out _ (by repeat (first | exact Below.refl _ _ | refine bG ?_ _ | refine bI ?_ _ _ | refine bA ?_ _ | refine bD ?_ | refine bN ?_ _))).mono ?_); rintro e w' ⟨y, rfl, hb, hy⟩); obtain ⟨g4, rfl⟩ := bout hb; clear hb))
  have hx2 := hx.below (bG (Below.refl _ _) g4)
  clear hx
  simp only [grow_grow, grow_drew] at hx2 hy
  obtain ⟨px, cx, rfl, hpx⟩ := hx2.out
  obtain ⟨py, cy, rfl, hpy⟩ := hy.out
  have hne : ((L.length : Int) != (L.length : Int)) = false := by simp
  have Hx := hid hpx
  have Hy := hid hpy
  clear hx2 hy hpx hpy
  generalize hn : L.length = n at *
  have Hn2 := hid hn
  clear hn
  go_wp2
  have hb3 : Below w.heap.size w (grow (w.alloc (.cells #[v0, v1, .slice p len cap, v3, v4, v5] 48)) (((g1.app g2).app g3).app g4)) := by
    repeat (first | exact Below.refl _ _ | refine bG ?_ _ | refine bI ?_ _ _ | refine bA ?_ _)
  generalize grow (w.alloc (.cells #[v0, v1, .slice p len cap, v3, v4, v5] 48)) (((g1.app g2).app g3).app g4) = W3 at *
  have Hb3 := hid hb3
  clear hb3
  go_loopw [5, 22] (fun _ i wr => ∃ k : Nat, ∃ q : Nat, k ≤ n ∧ i = .int .i64 k ∧ wr = W3.drewN q) (fun _ i _ => n - (intOf i).toNat)
  case atStart => exact ⟨0, 0, by omega, rfl, rfl⟩
  case round =>
    obtain ⟨k, q, hk, rfl, rfl⟩ := hrel
    by_cases hlt : k < n
    · have hL : L ≠ [] := fun e => by have := Hn2.out; rw [e] at this; simp at this; omega
      obtain ⟨bx, rfl, _, hcx⟩ := Hx.out hL
      obtain ⟨bY, rfl, _, hcy⟩ := Hy.out hL
      have c1 := hcx k hlt
      have c2 := hcy k hlt
      clear hcx hcy hL
      generalize L.getD k true = z at c1 c2
      have hlk : (0 : Int) ≤ (k : Int) := by omega
      have hlk2 : (k : Int) < (n : Int) := by omega
      cases z
      · go_wp2
        go_region_held3 (fun w' => w'.cell? ⟨bx, k, none⟩ = some (.bool false) ∧ w'.cell? ⟨bY, k, none⟩ = some (.bool false)) (simp [go_sem, *]) (fail)
        go_wp2
        go_roundw
        case rel => exact ⟨k + 1, _, by omega, by go_num, rfl⟩
        case measure => simp [intOf]; omega
      · go_wp2
        go_region_held3 (fun w' => w'.cell? ⟨bx, k, none⟩ = some (.bool true) ∧ w'.cell? ⟨bY, k, none⟩ = some (.bool true)) (simp [go_sem, *]) (fail)
        go_wp2
        go_roundw
        case rel => exact ⟨k + 1, _, by omega, by go_num, rfl⟩
        case measure => simp [intOf]; omega
    · go_wp2
      go_ret
      exact ⟨rfl, bN Hb3.out _⟩
end Go.Proofs.Ytjocifamacpamaa
