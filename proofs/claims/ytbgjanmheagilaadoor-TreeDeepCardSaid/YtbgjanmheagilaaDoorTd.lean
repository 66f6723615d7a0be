/- TreeDeep: the law, walked. Conditions: the sizes that a program may hold. -/
import Derived.Test.YtbgjanmheagilaaDoorDr
import Derived.Test.YtbgjanmheagilaaDoorTs
namespace Go.Proofs.YtbgjanmheagilaaDoor
open Go Go.RowKit Go.Nodes
set_option linter.unusedVariables false
set_option maxHeartbeats 1000000 in
theorem treeDeep_any (p : Option Addr) (c : Nat) (xs : List Nd) (w : World) (ha : NodesAt w p xs) (hs : Slim xs) :
    Calls Tryd.prog 4 #[.slice p xs.length c] w fun e w' => e = .returned (.bool true) ∧ Below w.heap.size w w' := by
  have Ha : Hid (∀ w', Below w.heap.size w w' → NodesAt w' p xs) := hid fun w' h => nodes_later h ha
  have F1 : Hid (∀ w', Below w.heap.size w w' → Calls Tryd.prog 13 #[.slice p xs.length c] w' fun e w2 => e = .returned (.bool (fewS xs 0)) ∧ Below w'.heap.size w' w2) := hid fun w' h => few_any p c xs w' (Ha.out w' h)
  have F2 : Hid (∃ z, fewS xs 0 = true → (∀ w', Below w.heap.size w w' → Calls Tryd.prog 14 #[.slice p xs.length c] w' fun e w2 => e = .returned (.int .i64 z) ∧ Below w'.heap.size w' w2) ∧ ∀ w', Below w.heap.size w w' → Calls Tryd.prog 15 #[.slice p xs.length c] w' fun e w2 => e = .returned (.int .i64 z) ∧ Below w'.heap.size w' w2) :=
    hid ⟨deepOf xs, fun hf => ⟨fun w' h => deep_any p c xs w' (Ha.out w' h) (small_of hs hf), fun w' h => rdeep_any p c xs w' (Ha.out w' h) (small_of hs hf)⟩⟩
  clear ha Ha hs
  obtain ⟨z, f2⟩ := F2.out
  have G2 := hid f2
  clear F2 f2
  generalize fewS xs 0 = f at *
  generalize xs.length = n at *
  cases f with
  | false =>
    go_enter Tryd.func4, Tryd.ntmps4
    go_wp2_with (first
      | (go_at_call 12; refine (awake6 _).mono ?_; rintro e w' ⟨rfl, hb⟩; obtain ⟨g1, rfl⟩ := bout hb; clear hb)
      | (go_at_call 13; ((with_reducible refine (F1.out _ ?_).mono ?_); rotate_left; rintro e w' ⟨rfl, hb⟩; obtain ⟨g2, rfl⟩ := bout hb; clear hb)))
    all_goals (try (repeat (first | exact Below.refl _ _ | refine bG ?_ _ | refine bI ?_ _ _ | refine bA ?_ _)))
    all_goals (go_ret; refine ⟨rfl, ?_⟩; repeat (first | exact Below.refl _ _ | refine bG ?_ _ | refine bI ?_ _ _ | refine bA ?_ _))
  | true =>
    have G3 := hid (G2.out rfl).1
    have G4 := hid (G2.out rfl).2
    clear G2
    go_enter Tryd.func4, Tryd.ntmps4
    go_wp2_with (first
      | (go_at_call 12; refine (awake6 _).mono ?_; rintro e w' ⟨rfl, hb⟩; obtain ⟨g1, rfl⟩ := bout hb; clear hb)
      | (go_at_call 13; ((with_reducible refine (F1.out _ ?_).mono ?_); rotate_left; rintro e w' ⟨rfl, hb⟩; obtain ⟨g2, rfl⟩ := bout hb; clear hb))
      | (go_at_call 14; ((with_reducible refine (G3.out _ ?_).mono ?_); rotate_left; rintro e w' ⟨rfl, hb⟩; obtain ⟨g2, rfl⟩ := bout hb; clear hb))
      | (go_at_call 15; ((with_reducible refine (G4.out _ ?_).mono ?_); rotate_left; rintro e w' ⟨rfl, hb⟩; obtain ⟨g2, rfl⟩ := bout hb; clear hb)))
    all_goals (try (repeat (first | exact Below.refl _ _ | refine bG ?_ _ | refine bI ?_ _ _ | refine bA ?_ _)))
    all_goals (go_ret; refine ⟨rfl, ?_⟩; repeat (first | exact Below.refl _ _ | refine bG ?_ _ | refine bI ?_ _ _ | refine bA ?_ _))
end Go.Proofs.YtbgjanmheagilaaDoor
