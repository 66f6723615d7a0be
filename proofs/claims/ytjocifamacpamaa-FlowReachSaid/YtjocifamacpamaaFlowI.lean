/- flow.Reach, walked. Conditions: none. -/
import Derived.Test.YtjocifamacpamaaFlowH
namespace Go.Proofs.Ytjocifamacpamaa
open Go.RowKit
set_option linter.unusedVariables false
set_option linter.unusedSimpArgs false
set_option maxHeartbeats 2000000 in
theorem flowReach_nil (v0 v1 v3 v4 v5 : Value) (p : Option Addr) (cap : Nat) (w : World) :
    Calls Try.prog 28 #[.agg #[v0, v1, .slice p 0 cap, v3, v4, v5]] w fun e w' => e = .returned (.slice none 0 0) ∧ Below w.heap.size w w' := by
  go_enter Try.func28, Try.ntmps28
  go_wp2
  go_ret
  exact ⟨rfl, by repeat (first | exact Below.refl _ _ | refine bG ?_ _ | refine bI ?_ _ _ | refine bA ?_ _)⟩
set_option maxRecDepth 10000 in
set_option maxHeartbeats 2000000 in
theorem flowReach_some (v0 v1 v3 v4 v5 : Value) (b o len cap : Nat) (ws : Nat → Int) (hws : ∀ i, i < len → 0 ≤ ws i ∧ ws i < 4294967296) (hl : len ≤ 40) (h0 : 0 < len) (w : World) (hb : b < w.heap.size)
    (hc : ∀ i, i < len → w.cell? ⟨b, o + i, none⟩ = some (.int .u32 (ws i))) (k0 : Nat) (hk0 : k0 ≤ 1000) (R : List Bool)
    (hR : fromF (fun i => nextS len (ws i) i) (-1) k0 [0] (List.replicate len false) = some R) :
    Calls Try.prog 28 #[.agg #[v0, v1, .slice (some ⟨b, o, none⟩) len cap, v3, v4, v5]] w fun e w' => ∃ v, e = .returned v ∧ Below w.heap.size w w' ∧ w'.ownsRow w.heap.size 4 1 v len (R.map Value.bool) := by
  have Hws := hid hws
  have Hc := hid hc
  have HR := hid hR
  clear hws hc hR
  have hne : ((len : Int) == 0) = false := by rw [beq_eq_false_iff_ne]; omega
  go_enter Try.func28, Try.ntmps28
  go_wp2_with (go_at_call 48; refine (from_any v0 v1 v3 v4 v5 b o len cap w.heap.size ws Hws.out hl _ hb (by simp; omega) (fun i hi => cell_later (by repeat (first | exact Below.refl _ _ | refine bG ?_ _ | refine bI ?_ _ _ | refine bA ?_ _)) (Hc.out i hi)) _ [0] (Ints_one _ _ _ _ (by simp) (by simp)) (by simp; omega) (-1) k0 R (by simp; omega) HR.out).mono ?_; rintro e w2 ⟨v, rfl, hb2, ho2⟩)
  go_ret
  refine ⟨v, rfl, Below.trans ?_ hb2, ?_⟩
  · repeat (first | exact Below.refl _ _ | refine bG ?_ _ | refine bI ?_ _ _ | refine bA ?_ _)
  · obtain ⟨q1, q2⟩ := ho2
    refine ⟨q1, ?_⟩
    rcases q2 with q2 | ⟨g, cp, cur, hv, hg, hr⟩
    · exact .inl q2
    · exact .inr ⟨g, cp, cur, hv, by simp at hg; omega, hr⟩
end Go.Proofs.Ytjocifamacpamaa
