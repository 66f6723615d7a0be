/- ShowLisp: the law, whole. Conditions: the library's variables. -/
import Derived.Test.YtjchnliaglecoaaGreatDoorL8X
import Derived.Test.YtjchnliaglecoaaGreatDoorAw8
import Derived.Test.YtjchnliaglecoaaGreatDoorTs
set_option linter.unusedVariables false
set_option linter.unusedSimpArgs false
namespace Go.Proofs.YtjchnliaglecoaaGreatDoor
open Go Go.RowKit Go.Nodes Go.Am
set_option linter.unusedVariables false
set_option linter.unusedSimpArgs false
set_option maxRecDepth 100000 in
set_option maxHeartbeats 4000000 in
theorem law7_any (p : Option Addr) (cap : Nat) (ns : List Nd) (W : World) (hw : NodesAt W p ns) (hs : Slim ns) (hc : ∀ x ∈ ns, x.kids.length ≤ x.kcap) (hl : Lib0 W) :
    Calls Tryz.prog 7 #[.slice p ns.length cap] W fun e w' => e = .returned (.bool true) ∧ Below W.heap.size W w' := by
  have HA : Hid (∀ W', Below W.heap.size W W' → Calls Tryz.prog 19 #[] W' fun e w' => e = .returned (.bool true) ∧ Below W'.heap.size W' w') := hid fun W' hb => awake8 W' (hl.later hb)
  have HF0 : ∀ W', Below W.heap.size W W' → Calls Tryz.prog 20 #[.slice p ns.length cap] W' fun e w' => e = .returned (.bool (fewU ns 0)) ∧ Below W'.heap.size W' w' := fun W' hb => few8_any p cap ns W' (nodes_later hb hw)
  cases hf : fewU ns 0 with
  | false =>
    rw [hf] at HF0
    have HF := hid HF0
    clear hw hs hc hl hf HF0
    generalize ns.length = L at *
    go_enter Tryz.func7, Tryz.ntmps7
    go_wp2_with (first | (go_at_call 19; refine (HA.out _ (by repeat (first | exact Below.refl _ _ | refine bN ?_ _ | refine bD ?_ | refine bG ?_ _ | refine bI ?_ _ _ | refine bA ?_ _))).mono ?_; rintro e w' ⟨rfl, hb⟩; obtain ⟨G, rfl⟩ := bout hb; clear hb) | (go_at_call 20; refine (HF.out _ (by repeat (first | exact Below.refl _ _ | refine bN ?_ _ | refine bD ?_ | refine bG ?_ _ | refine bI ?_ _ _ | refine bA ?_ _))).mono ?_; rintro e w' ⟨rfl, hb⟩; obtain ⟨G, rfl⟩ := bout hb; clear hb))
    go_ret
    exact ⟨rfl, by repeat (first | exact Below.refl _ _ | refine bN ?_ _ | refine bD ?_ | refine bG ?_ _ | refine bI ?_ _ _ | refine bA ?_ _)⟩
  | true =>
    rw [hf] at HF0
    have HF := hid HF0
    have h8 : Few8 ns := few8_small hs hf
    have HS : Hid (∀ W', Below W.heap.size W W' → Calls Tryz.prog 23 #[.slice p ns.length cap] W' fun e w' => e = .returned (.string (refLisp ns)) ∧ Below W'.heap.size W' w') := hid fun W' hb => by
      have := showlisp_any p cap ns W' (nodes_later hb hw) h8 (hl.later hb)
      rwa [lisp_eq] at this
    have HR : Hid (∀ W', Below W.heap.size W W' → Calls Tryz.prog 24 #[.slice p ns.length cap] W' fun e w' => e = .returned (.string (refLisp ns)) ∧ Below W'.heap.size W' w') := hid fun W' hb => reflisp_any p cap ns W W' hw h8 hl hb
    clear hw hs hc hl hf HF0 h8
    generalize refLisp ns = u at *
    generalize ns.length = L at *
    go_enter Tryz.func7, Tryz.ntmps7
    go_wp2_with (first | (go_at_call 19; refine (HA.out _ (by repeat (first | exact Below.refl _ _ | refine bN ?_ _ | refine bD ?_ | refine bG ?_ _ | refine bI ?_ _ _ | refine bA ?_ _))).mono ?_; rintro e w' ⟨rfl, hb⟩; obtain ⟨G, rfl⟩ := bout hb; clear hb) | (go_at_call 20; refine (HF.out _ (by repeat (first | exact Below.refl _ _ | refine bN ?_ _ | refine bD ?_ | refine bG ?_ _ | refine bI ?_ _ _ | refine bA ?_ _))).mono ?_; rintro e w' ⟨rfl, hb⟩; obtain ⟨G, rfl⟩ := bout hb; clear hb) | (go_at_call 23; refine (HS.out _ (by repeat (first | exact Below.refl _ _ | refine bN ?_ _ | refine bD ?_ | refine bG ?_ _ | refine bI ?_ _ _ | refine bA ?_ _))).mono ?_; rintro e w' ⟨rfl, hb⟩; obtain ⟨G, rfl⟩ := bout hb; clear hb) | (go_at_call 24; refine (HR.out _ (by repeat (first | exact Below.refl _ _ | refine bN ?_ _ | refine bD ?_ | refine bG ?_ _ | refine bI ?_ _ _ | refine bA ?_ _))).mono ?_; rintro e w' ⟨rfl, hb⟩; obtain ⟨G, rfl⟩ := bout hb; clear hb))
    go_ret
    exact ⟨rfl, by repeat (first | exact Below.refl _ _ | refine bN ?_ _ | refine bD ?_ | refine bG ?_ _ | refine bI ?_ _ _ | refine bA ?_ _)⟩
end Go.Proofs.YtjchnliaglecoaaGreatDoor
