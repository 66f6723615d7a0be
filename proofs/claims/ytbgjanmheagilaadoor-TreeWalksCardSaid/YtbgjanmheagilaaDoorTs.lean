/- TreeSame: the law, walked. Conditions: none. -/
import Derived.Test.YtbgjanmheagilaaDoorSnX
import Derived.Test.YtbgjanmheagilaaDoorAw6
set_option linter.unusedVariables false
set_option linter.unusedSimpArgs false
namespace Go.Proofs.YtbgjanmheagilaaDoor
open Go Go.RowKit Go.Nodes
set_option linter.unusedVariables false
theorem ints_later {w w' : World} {p : Option Addr} {xs : List Int} (hb : Below w.heap.size w w') (h : IntsAt w p xs) : IntsAt w' p xs := by
  rcases h with h | ⟨b, o, hp, hlt, hc⟩
  · exact .inl h
  · exact .inr ⟨b, o, hp, Nat.lt_of_lt_of_le hlt hb.size, fun i hi => cell_later hb (hc i hi)⟩
theorem nodes_later {w w' : World} {p : Option Addr} {xs : List Nd} (hb : Below w.heap.size w w') (h : NodesAt w p xs) : NodesAt w' p xs := by
  obtain ⟨h1, h2, h3⟩ := h
  refine ⟨h1, fun x hx => ?_, ?_⟩
  · obtain ⟨f1, f2, f3, f4, f5, f6⟩ := h2 x hx
    exact ⟨f1, f2, f3, f4, f5, ints_later hb f6⟩
  · rcases h3 with h3 | ⟨b, o, hp, hlt, hc⟩
    · exact .inl h3
    · exact .inr ⟨b, o, hp, Nat.lt_of_lt_of_le hlt hb.size, fun i hi => ⟨cell_later hb (hc i hi).1, cell_later hb (hc i hi).2.1, cell_later hb (hc i hi).2.2.1, cell_later hb (hc i hi).2.2.2⟩⟩
theorem sameB_refl (xs : List Nd) : sameB xs xs = true := by
  unfold sameB
  refine @decide_eq_true _ (Classical.propDecidable _) ⟨rfl, fun i x y hx hy => ?_⟩
  rw [hx] at hy
  cases hy
  exact ⟨rfl, rfl, rfl⟩
set_option maxHeartbeats 1000000 in
theorem treeSame_any (p q : Option Addr) (c d : Nat) (xs ys : List Nd) (w : World) (ha : NodesAt w p xs) (hb : NodesAt w q ys) :
    Calls Tryd.prog 5 #[.slice p xs.length c, .slice q ys.length d] w fun e w' => e = .returned (.bool true) ∧ Below w.heap.size w w' := by
  have Ha : Hid (∀ w', Below w.heap.size w w' → NodesAt w' p xs) := hid fun w' h => nodes_later h ha
  have Hb : Hid (∀ w', Below w.heap.size w w' → NodesAt w' q ys) := hid fun w' h => nodes_later h hb
  have F1 : Hid (∃ b, ∀ w', Below w.heap.size w w' → Calls Tryd.prog 13 #[.slice p xs.length c] w' fun e w2 => e = .returned (.bool b) ∧ Below w'.heap.size w' w2) := hid ⟨_, fun w' h => few_any p c xs w' (Ha.out w' h)⟩
  have F2 : Hid (∃ b, ∀ w', Below w.heap.size w w' → Calls Tryd.prog 13 #[.slice q ys.length d] w' fun e w2 => e = .returned (.bool b) ∧ Below w'.heap.size w' w2) := hid ⟨_, fun w' h => few_any q d ys w' (Hb.out w' h)⟩
  have F3 : Hid (∃ b, (∀ w', Below w.heap.size w w' → Calls Tryd.prog 16 #[.slice p xs.length c, .slice q ys.length d] w' fun e w2 => e = .returned (.bool b) ∧ Below w'.heap.size w' w2) ∧ ∀ w', Below w.heap.size w w' → Calls Tryd.prog 17 #[.slice p xs.length c, .slice q ys.length d] w' fun e w2 => e = .returned (.bool b) ∧ Below w'.heap.size w' w2) :=
    hid ⟨_, fun w' h => same_any p q c d xs ys w' (Ha.out w' h) (Hb.out w' h), fun w' h => rsame_any p q c d xs ys w' (Ha.out w' h) (Hb.out w' h)⟩
  have F4 : Hid (∀ w', Below w.heap.size w w' → Calls Tryd.prog 16 #[.slice p xs.length c, .slice p xs.length c] w' fun e w2 => e = .returned (.bool true) ∧ Below w'.heap.size w' w2) := hid fun w' h => by
    have := same_any p p c c xs xs w' (Ha.out w' h) (Ha.out w' h)
    rwa [sameB_refl] at this
  clear ha hb Ha Hb
  obtain ⟨f1, g1⟩ := F1.out
  obtain ⟨f2, g2⟩ := F2.out
  obtain ⟨f3, g3, g4⟩ := F3.out
  have G1 := hid g1
  have G2 := hid g2
  have G3 := hid g3
  have G4 := hid g4
  clear F1 F2 F3 g1 g2 g3 g4
  generalize xs.length = n at *
  generalize ys.length = m at *
  go_enter Tryd.func5, Tryd.ntmps5
  go_wp2_with (first
    | (go_at_call 12; refine (awake6 _).mono ?_; rintro e w' ⟨rfl, hb⟩; obtain ⟨g1, rfl⟩ := bout hb; clear hb)
    | (go_at_call 13; ((with_reducible refine (G1.out _ ?_).mono ?_); rotate_left; rintro e w' ⟨rfl, hb⟩; obtain ⟨g2, rfl⟩ := bout hb; clear hb))
    | (go_at_call 13; ((with_reducible refine (G2.out _ ?_).mono ?_); rotate_left; rintro e w' ⟨rfl, hb⟩; obtain ⟨g2, rfl⟩ := bout hb; clear hb))
    | (go_at_call 16; ((with_reducible refine (G3.out _ ?_).mono ?_); rotate_left; rintro e w' ⟨rfl, hb⟩; obtain ⟨g2, rfl⟩ := bout hb; clear hb))
    | (go_at_call 16; ((with_reducible refine (F4.out _ ?_).mono ?_); rotate_left; rintro e w' ⟨rfl, hb⟩; obtain ⟨g2, rfl⟩ := bout hb; clear hb))
    | (go_at_call 17; ((with_reducible refine (G4.out _ ?_).mono ?_); rotate_left; rintro e w' ⟨rfl, hb⟩; obtain ⟨g2, rfl⟩ := bout hb; clear hb)))
  all_goals (try (repeat (first | exact Below.refl _ _ | refine bG ?_ _ | refine bI ?_ _ _ | refine bA ?_ _)))
  all_goals (go_ret; refine ⟨rfl, ?_⟩; repeat (first | exact Below.refl _ _ | refine bG ?_ _ | refine bI ?_ _ _ | refine bA ?_ _))
end Go.Proofs.YtbgjanmheagilaaDoor
