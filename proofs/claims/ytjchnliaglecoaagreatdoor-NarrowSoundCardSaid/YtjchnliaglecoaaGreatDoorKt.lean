/- Kinds and the types of them, as tables. Conditions: none. -/
import Derived.Test.YtjchnliaglecoaaGreatDoorKvX
import Derived.Test.YtjchnliaglecoaaGreatDoorKb
import Derived.Test.YtjchnliaglecoaaGreatDoorLfBX
set_option linter.unusedVariables false
set_option linter.unusedSimpArgs false
namespace Go.Proofs.YtjchnliaglecoaaGreatDoor
open Go Go.RowKit Go.Nodes
set_option linter.unusedVariables false
set_option linter.unusedSimpArgs false
def popc (β : Nat) : Nat := (List.range 7).countP fun i => β.testBit i
theorem ones_tab : ((List.range 128).all fun β => okAt 38 [.int .u64 β] (.int .i64 (popc β))) = true := by kernel_rfl
theorem ones38 (β : Nat) (h : β ≤ 127) (w : World) : Calls Tryz.prog 38 #[.int .u64 β] w fun e w' => e = .returned (.int .i64 (popc β)) ∧ Below w.heap.size w w' :=
  okAt_calls (List.all_eq_true.1 ones_tab β (List.mem_range.2 (by omega))) w
def goodB (β : Nat) : Bool := decide (β ≤ 127) && decide (β &&& 95 = β) && decide (β ≠ 0) && decide (β ≠ 95)
def selOK (β : Nat) : Bool := decide (1 ≤ (selK β 7).length) && decide ((selK β 7).length ≤ 5) && okT 2 (unionT β) && decide (kindsS (unionT β) = β) && decide (1 ≤ skK (unionT β)) && decide (skK (unionT β) ≤ 7)
theorem sel_tab : ((List.range 128).all fun β => !goodB β || selOK β) = true := by decide +kernel
theorem sel_of {β : Nat} (h : goodB β = true) : 1 ≤ (selK β 7).length ∧ (selK β 7).length ≤ 5 ∧ okT 2 (unionT β) = true ∧ kindsS (unionT β) = β ∧ 1 ≤ skK (unionT β) ∧ skK (unionT β) ≤ 7 := by
  have hb : β ≤ 127 := by unfold goodB at h; simp at h; omega
  have h1 := List.all_eq_true.1 sel_tab β (List.mem_range.2 (by omega))
  rw [h] at h1
  unfold selOK at h1
  simp only [Bool.not_true, Bool.false_or, Bool.and_eq_true, decide_eq_true_eq] at h1
  obtain ⟨⟨⟨⟨⟨a, b⟩, c⟩, d⟩, e⟩, f⟩ := h1
  exact ⟨a, b, c, d, e, f⟩
theorem one_tab : ((List.range 128).all fun β => !(decide (popc β ≤ 1) && decide (β ≠ 32) && decide (β ≠ 0)) || goodB β) = true := by decide +kernel
theorem one_good {β : Nat} (hb : β ≤ 127) (h1 : popc β ≤ 1) (h2 : β ≠ 32) (h3 : β ≠ 0) : goodB β = true := by
  have h := List.all_eq_true.1 one_tab β (List.mem_range.2 (by omega))
  rw [decide_eq_true h1, decide_eq_true h2, decide_eq_true h3] at h
  simpa using h
theorem bit_tab : ([1, 2, 4, 8, 16, 64].all fun c => (List.range 128).all fun β => !decide (β &&& c = β) || (decide (β = 0) || decide (β = c))) = true := by decide +kernel
theorem bit_one {β c : Nat} (hb : β ≤ 127) (hc : c ∈ [1, 2, 4, 8, 16, 64]) (h : β &&& c = β) : β = 0 ∨ β = c := by
  have h1 := List.all_eq_true.1 (List.all_eq_true.1 bit_tab c hc) β (List.mem_range.2 (by omega))
  rw [decide_eq_true h] at h1
  simpa using h1
end Go.Proofs.YtjchnliaglecoaaGreatDoor
