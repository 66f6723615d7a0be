/- ScopeHolds and ScopeEnds: the laws, walked. Conditions: the sizes that a program may hold; the library's variables. -/
import Derived.Test.YtbgjanmheagilaaGreatDoorSfX
import Derived.Test.YtbgjanmheagilaaGreatDoorAw11
set_option linter.unusedVariables false
set_option linter.unusedSimpArgs false
namespace Go.Proofs.YtbgjanmheagilaaGreatDoor
open Go Go.RowKit Go.Nodes
set_option linter.unusedVariables false
set_option maxRecDepth 10000 in
set_option maxHeartbeats 2000000 in
theorem scopeHolds_any (p : Option Addr) (c : Nat) (xs : List Nd) (n : Int) (w : World) (ha : NodesAt w p xs) (hs : Slim xs) (hc : Capped xs) (hl : Lib0 w) :
    Calls Tryz.prog 6 #[.slice p xs.length c, .int .i64 n] w fun e w' => e = .returned (.bool true) ∧ Below w.heap.size w w' := by
  have Haw : Hid (∀ w', Below w.heap.size w w' → Calls Tryz.prog 17 #[] w' fun e w2 => e = .returned (.bool true) ∧ Below w'.heap.size w' w2) := hid fun w' h => awake11 w' (hl.later h)
  have F1 : Hid (∀ w', Below w.heap.size w w' → Calls Tryz.prog 9 #[.slice p xs.length c] w' fun e w2 => e = .returned (.bool (fewS xs 0)) ∧ Below w'.heap.size w' w2) := hid fun w' h => few_any p c xs w' (NodesAt.later ha h)
  have G : ∀ (f g : Nat) (v : Bool), (fewS xs 0 = true → ∀ w', Below w.heap.size w w' → Calls Tryz.prog f #[.slice p xs.length c, .int .i64 n] w' fun e w2 => e = .returned (.bool v) ∧ Below w'.heap.size w' w2) → (fewS xs 0 = true → ∀ w', Below w.heap.size w w' → Calls Tryz.prog g #[.slice p xs.length c, .int .i64 n] w' fun e w2 => e = .returned (.bool v) ∧ Below w'.heap.size w' w2) →
      (fewS xs 0 = true → (∀ w', Below w.heap.size w w' → Calls Tryz.prog f #[.slice p xs.length c, .int .i64 n] w' fun e w2 => e = .returned (.bool v) ∧ Below w'.heap.size w' w2) ∧ (∀ w', Below w.heap.size w w' → Calls Tryz.prog g #[.slice p xs.length c, .int .i64 n] w' fun e w2 => e = .returned (.bool v) ∧ Below w'.heap.size w' w2)) := fun f g v h1 h2 h => ⟨h1 h, h2 h⟩
  have F2 := hid (G 18 19 (holdS xs [22] 10 n) (fun h w' hb => returns_any w' p c xs (small_of hs h) hc (NodesAt.later ha hb) (hl.later hb) n) (fun h w' hb => rreturns_any w' p c xs (small_of hs h) hc (NodesAt.later ha hb) (hl.later hb) n))
  have F3 := hid (G 20 21 (holdS xs [22, 9] 11 n) (fun h w' hb => breaks_any w' p c xs (small_of hs h) hc (NodesAt.later ha hb) (hl.later hb) n) (fun h w' hb => rbreaks_any w' p c xs (small_of hs h) hc (NodesAt.later ha hb) (hl.later hb) n))
  have F4 := hid (G 22 23 (endS xs n) (fun h w' hb => ends_any w' p c xs (small_of hs h) hc (NodesAt.later ha hb) (hl.later hb) n) (fun h w' hb => rends_any w' p c xs (small_of hs h) hc (NodesAt.later ha hb) (hl.later hb) n))
  clear ha hs hc hl G
  generalize fewS xs 0 = f at *
  generalize holdS xs [22] 10 n = v2 at *
  generalize holdS xs [22, 9] 11 n = v3 at *
  generalize endS xs n = v4 at *
  generalize xs.length = m at *
  cases f with
  | false =>
    clear F2 F3 F4
    go_enter Tryz.func6, Tryz.ntmps6
    go_wp2_with (first
      | (go_at_call 17; ((with_reducible refine (Haw.out _ (by repeat (first | exact Below.refl _ _ | refine bG ?_ _ | refine bA ?_ _ | refine bD ?_ | refine bN ?_ _))).mono ?_)); rintro e w' ⟨rfl, hb⟩; obtain ⟨g1, rfl⟩ := bout hb; clear hb)
      | (go_at_call 9; ((with_reducible refine (F1.out _ (by repeat (first | exact Below.refl _ _ | refine bG ?_ _ | refine bA ?_ _ | refine bD ?_ | refine bN ?_ _))).mono ?_)); rintro e w' ⟨rfl, hb⟩; obtain ⟨g2, rfl⟩ := bout hb; clear hb))
    go_ret
    exact ⟨rfl, by repeat (first | exact Below.refl _ _ | refine bG ?_ _ | refine bA ?_ _ | refine bD ?_ | refine bN ?_ _)⟩
  | true =>
    have G2 := hid (F2.out rfl).1
    have G3 := hid (F2.out rfl).2
    have G4 := hid (F3.out rfl).1
    have G5 := hid (F3.out rfl).2
    have G6 := hid (F4.out rfl).1
    have G7 := hid (F4.out rfl).2
    clear F2 F3 F4
    cases v2 <;> cases v3 <;> cases v4
    all_goals
      go_enter Tryz.func6, Tryz.ntmps6
      go_wp2_with (first
        | (go_at_call 17; ((with_reducible refine (Haw.out _ (by repeat (first | exact Below.refl _ _ | refine bG ?_ _ | refine bA ?_ _ | refine bD ?_ | refine bN ?_ _))).mono ?_)); rintro e w' ⟨rfl, hb⟩; obtain ⟨g1, rfl⟩ := bout hb; clear hb)
        | (go_at_call 9; ((with_reducible refine (F1.out _ (by repeat (first | exact Below.refl _ _ | refine bG ?_ _ | refine bA ?_ _ | refine bD ?_ | refine bN ?_ _))).mono ?_)); rintro e w' ⟨rfl, hb⟩; obtain ⟨g2, rfl⟩ := bout hb; clear hb)
        | (go_at_call 18; ((with_reducible refine (G2.out _ (by repeat (first | exact Below.refl _ _ | refine bG ?_ _ | refine bA ?_ _ | refine bD ?_ | refine bN ?_ _))).mono ?_)); rintro e w' ⟨rfl, hb⟩; obtain ⟨g3, rfl⟩ := bout hb; clear hb)
        | (go_at_call 19; ((with_reducible refine (G3.out _ (by repeat (first | exact Below.refl _ _ | refine bG ?_ _ | refine bA ?_ _ | refine bD ?_ | refine bN ?_ _))).mono ?_)); rintro e w' ⟨rfl, hb⟩; obtain ⟨g4, rfl⟩ := bout hb; clear hb)
        | (go_at_call 20; ((with_reducible refine (G4.out _ (by repeat (first | exact Below.refl _ _ | refine bG ?_ _ | refine bA ?_ _ | refine bD ?_ | refine bN ?_ _))).mono ?_)); rintro e w' ⟨rfl, hb⟩; obtain ⟨g5, rfl⟩ := bout hb; clear hb)
        | (go_at_call 21; ((with_reducible refine (G5.out _ (by repeat (first | exact Below.refl _ _ | refine bG ?_ _ | refine bA ?_ _ | refine bD ?_ | refine bN ?_ _))).mono ?_)); rintro e w' ⟨rfl, hb⟩; obtain ⟨g6, rfl⟩ := bout hb; clear hb)
        | (go_at_call 22; ((with_reducible refine (G6.out _ (by repeat (first | exact Below.refl _ _ | refine bG ?_ _ | refine bA ?_ _ | refine bD ?_ | refine bN ?_ _))).mono ?_)); rintro e w' ⟨rfl, hb⟩; obtain ⟨g7, rfl⟩ := bout hb; clear hb)
        | (go_at_call 23; ((with_reducible refine (G7.out _ (by repeat (first | exact Below.refl _ _ | refine bG ?_ _ | refine bA ?_ _ | refine bD ?_ | refine bN ?_ _))).mono ?_)); rintro e w' ⟨rfl, hb⟩; obtain ⟨g8, rfl⟩ := bout hb; clear hb))
      go_ret
      exact ⟨rfl, by repeat (first | exact Below.refl _ _ | refine bG ?_ _ | refine bA ?_ _ | refine bD ?_ | refine bN ?_ _)⟩
set_option maxRecDepth 10000 in
set_option maxHeartbeats 2000000 in
theorem scopeEnds_any (p : Option Addr) (c : Nat) (xs : List Nd) (n : Int) (w : World) (ha : NodesAt w p xs) (hs : Slim xs) (hc : Capped xs) (hl : Lib0 w) :
    Calls Tryz.prog 7 #[.slice p xs.length c, .int .i64 n] w fun e w' => e = .returned (.bool true) ∧ Below w.heap.size w w' := by
  have Haw : Hid (∀ w', Below w.heap.size w w' → Calls Tryz.prog 17 #[] w' fun e w2 => e = .returned (.bool true) ∧ Below w'.heap.size w' w2) := hid fun w' h => awake11 w' (hl.later h)
  have F1 : Hid (∀ w', Below w.heap.size w w' → Calls Tryz.prog 9 #[.slice p xs.length c] w' fun e w2 => e = .returned (.bool (fewS xs 0)) ∧ Below w'.heap.size w' w2) := hid fun w' h => few_any p c xs w' (NodesAt.later ha h)
  have F0 : Hid (fewS xs 0 = true → ∀ w', Below w.heap.size w w' → Calls Tryz.prog 24 #[.slice p xs.length c] w' fun e w2 => e = .returned (.tuple #[.int .i64 (checkS xs).1, .int .i64 (checkS xs).2]) ∧ Below w'.heap.size w' w2) := hid fun h w' hb => rcheck_any w' p c xs (small_of hs h) hc (NodesAt.later ha hb) (hl.later hb)
  have F2 : Hid (fewS xs 0 = true → ∀ w', Below w.heap.size w w' → Calls Tryz.prog 18 #[.slice p xs.length c, .int .i64 n] w' fun e w2 => e = .returned (.bool (holdS xs [22] 10 n)) ∧ Below w'.heap.size w' w2) := hid fun h w' hb => returns_any w' p c xs (small_of hs h) hc (NodesAt.later ha hb) (hl.later hb) n
  have F3 : Hid (fewS xs 0 = true → ∀ w', Below w.heap.size w w' → Calls Tryz.prog 20 #[.slice p xs.length c, .int .i64 n] w' fun e w2 => e = .returned (.bool (holdS xs [22, 9] 11 n)) ∧ Below w'.heap.size w' w2) := hid fun h w' hb => breaks_any w' p c xs (small_of hs h) hc (NodesAt.later ha hb) (hl.later hb) n
  have F4 : Hid (fewS xs 0 = true → ∀ w', Below w.heap.size w w' → Calls Tryz.prog 22 #[.slice p xs.length c, .int .i64 n] w' fun e w2 => e = .returned (.bool (endS xs n)) ∧ Below w'.heap.size w' w2) := hid fun h w' hb => ends_any w' p c xs (small_of hs h) hc (NodesAt.later ha hb) (hl.later hb) n
  have hbad : ¬ (checkS xs).2 = 0 → holdS xs [22] 10 n = false ∧ holdS xs [22, 9] 11 n = false ∧ endS xs n = false := fun h => by
    have hg : goodS xs n = false := by unfold goodS; rw [decide_eq_false h]; rfl
    unfold holdS endS
    rw [hg]
    exact ⟨rfl, rfl, rfl⟩
  have himp : endS xs n = true → holdS xs [22] 10 n = true := fun h => by
    unfold endS at h
    simp only [Bool.and_eq_true] at h
    obtain ⟨hv, n0, n1⟩ := goodS_in h.1
    unfold holdS
    rw [h.1, Bool.true_and]
    obtain ⟨z, rfl⟩ : ∃ z : Nat, n = (z : Int) := ⟨n.toNat, by omega⟩
    exact ends_has hv _ z (by omega) (by omega) h.2
  clear ha hs hc hl
  generalize fewS xs 0 = f at *
  generalize holdS xs [22] 10 n = v2 at *
  generalize holdS xs [22, 9] 11 n = v3 at *
  generalize endS xs n = v4 at *
  generalize (checkS xs).1 = k1 at *
  generalize (checkS xs).2 = k2 at *
  generalize xs.length = m at *
  cases f with
  | false =>
    clear F0 F2 F3 F4 hbad himp
    go_enter Tryz.func7, Tryz.ntmps7
    go_wp2_with (first
      | (go_at_call 17; ((with_reducible refine (Haw.out _ (by repeat (first | exact Below.refl _ _ | refine bG ?_ _ | refine bA ?_ _ | refine bD ?_ | refine bN ?_ _))).mono ?_)); rintro e w' ⟨rfl, hb⟩; obtain ⟨g1, rfl⟩ := bout hb; clear hb)
      | (go_at_call 9; ((with_reducible refine (F1.out _ (by repeat (first | exact Below.refl _ _ | refine bG ?_ _ | refine bA ?_ _ | refine bD ?_ | refine bN ?_ _))).mono ?_)); rintro e w' ⟨rfl, hb⟩; obtain ⟨g2, rfl⟩ := bout hb; clear hb))
    go_ret
    exact ⟨rfl, by repeat (first | exact Below.refl _ _ | refine bG ?_ _ | refine bA ?_ _ | refine bD ?_ | refine bN ?_ _)⟩
  | true =>
    have G0 := hid (F0.out rfl)
    have G2 := hid (F2.out rfl)
    have G3 := hid (F3.out rfl)
    have G4 := hid (F4.out rfl)
    clear F0 F2 F3 F4
    by_cases hk : k2 = 0
    · subst hk
      have hor : (v4 = false) ∨ (v4 = true ∧ v2 = true) := by
        cases v4 with
        | false => exact .inl rfl
        | true => exact .inr ⟨rfl, himp rfl⟩
      clear hbad himp
      rcases hor with rfl | ⟨rfl, rfl⟩
      all_goals
        go_enter Tryz.func7, Tryz.ntmps7
        go_wp2_with (first
          | (go_at_call 17; ((with_reducible refine (Haw.out _ (by repeat (first | exact Below.refl _ _ | refine bG ?_ _ | refine bA ?_ _ | refine bD ?_ | refine bN ?_ _))).mono ?_)); rintro e w' ⟨rfl, hb⟩; obtain ⟨g1, rfl⟩ := bout hb; clear hb)
          | (go_at_call 9; ((with_reducible refine (F1.out _ (by repeat (first | exact Below.refl _ _ | refine bG ?_ _ | refine bA ?_ _ | refine bD ?_ | refine bN ?_ _))).mono ?_)); rintro e w' ⟨rfl, hb⟩; obtain ⟨g2, rfl⟩ := bout hb; clear hb)
          | (go_at_call 24; ((with_reducible refine (G0.out _ (by repeat (first | exact Below.refl _ _ | refine bG ?_ _ | refine bA ?_ _ | refine bD ?_ | refine bN ?_ _))).mono ?_)); rintro e w' ⟨rfl, hb⟩; obtain ⟨g3, rfl⟩ := bout hb; clear hb)
          | (go_at_call 18; ((with_reducible refine (G2.out _ (by repeat (first | exact Below.refl _ _ | refine bG ?_ _ | refine bA ?_ _ | refine bD ?_ | refine bN ?_ _))).mono ?_)); rintro e w' ⟨rfl, hb⟩; obtain ⟨g4, rfl⟩ := bout hb; clear hb)
          | (go_at_call 22; ((with_reducible refine (G4.out _ (by repeat (first | exact Below.refl _ _ | refine bG ?_ _ | refine bA ?_ _ | refine bD ?_ | refine bN ?_ _))).mono ?_)); rintro e w' ⟨rfl, hb⟩; obtain ⟨g5, rfl⟩ := bout hb; clear hb))
        go_ret
        exact ⟨rfl, by repeat (first | exact Below.refl _ _ | refine bG ?_ _ | refine bA ?_ _ | refine bD ?_ | refine bN ?_ _)⟩
    · obtain ⟨rfl, rfl, rfl⟩ := hbad hk
      have hk2 : (k2 != 0) = true := by simp [bne, ne_beq hk]
      clear hbad himp hk
      go_enter Tryz.func7, Tryz.ntmps7
      go_wp2_with (first
        | (go_at_call 17; ((with_reducible refine (Haw.out _ (by repeat (first | exact Below.refl _ _ | refine bG ?_ _ | refine bA ?_ _ | refine bD ?_ | refine bN ?_ _))).mono ?_)); rintro e w' ⟨rfl, hb⟩; obtain ⟨g1, rfl⟩ := bout hb; clear hb)
        | (go_at_call 9; ((with_reducible refine (F1.out _ (by repeat (first | exact Below.refl _ _ | refine bG ?_ _ | refine bA ?_ _ | refine bD ?_ | refine bN ?_ _))).mono ?_)); rintro e w' ⟨rfl, hb⟩; obtain ⟨g2, rfl⟩ := bout hb; clear hb)
        | (go_at_call 24; ((with_reducible refine (G0.out _ (by repeat (first | exact Below.refl _ _ | refine bG ?_ _ | refine bA ?_ _ | refine bD ?_ | refine bN ?_ _))).mono ?_)); rintro e w' ⟨rfl, hb⟩; obtain ⟨g3, rfl⟩ := bout hb; clear hb)
        | (go_at_call 18; ((with_reducible refine (G2.out _ (by repeat (first | exact Below.refl _ _ | refine bG ?_ _ | refine bA ?_ _ | refine bD ?_ | refine bN ?_ _))).mono ?_)); rintro e w' ⟨rfl, hb⟩; obtain ⟨g4, rfl⟩ := bout hb; clear hb)
        | (go_at_call 20; ((with_reducible refine (G3.out _ (by repeat (first | exact Below.refl _ _ | refine bG ?_ _ | refine bA ?_ _ | refine bD ?_ | refine bN ?_ _))).mono ?_)); rintro e w' ⟨rfl, hb⟩; obtain ⟨g5, rfl⟩ := bout hb; clear hb)
        | (go_at_call 22; ((with_reducible refine (G4.out _ (by repeat (first | exact Below.refl _ _ | refine bG ?_ _ | refine bA ?_ _ | refine bD ?_ | refine bN ?_ _))).mono ?_)); rintro e w' ⟨rfl, hb⟩; obtain ⟨g6, rfl⟩ := bout hb; clear hb))
      go_ret
      exact ⟨rfl, by repeat (first | exact Below.refl _ _ | refine bG ?_ _ | refine bA ?_ _ | refine bD ?_ | refine bN ?_ _)⟩
end Go.Proofs.YtbgjanmheagilaaGreatDoor
