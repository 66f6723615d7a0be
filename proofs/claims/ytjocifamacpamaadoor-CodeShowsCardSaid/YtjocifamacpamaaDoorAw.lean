/- Chapter 16's example, run by the abstract evaluator. Conditions: none. -/
import Derived.Test.YtjocifamacpamaaDoorAmQ
import Derived.Test.YtjocifamacpamaaDoorDecC
namespace Go.Proofs.YtjocifamacpamaaDoor
open Go.RowKit Go.Am
set_option linter.unusedVariables false
def isTrue : Value → Bool
  | .bool b => b
  | _ => false
def bodied (f : Nat) : Bool := Nat.blt f 79 && !(Nat.beq f 0 || Nat.beq f 1 || Nat.beq f 42 || Nat.beq f 46 || Nat.beq f 70)
theorem bodied_all : ((List.range 79).all fun f => !bodied f || match Tryd.prog.funcs[f]? with
    | some fn => !(fn.name == "runtime.NumGoroutine") && !fn.body.isNone
    | none => false) = true := by kernel_rfl
theorem bodied_spec (f : Nat) (h : bodied f = true) : ∃ fn, Tryd.prog.funcs[f]? = some fn ∧ (fn.name == "runtime.NumGoroutine") = false ∧ fn.body.isNone = false := by
  have hlt : f < 79 := by
    unfold bodied at h
    simp only [Bool.and_eq_true] at h
    have := h.1
    rw [blt_eq] at this
    simpa using this
  have h1 := List.all_eq_true.1 bodied_all f (List.mem_range.2 hlt)
  rw [h] at h1
  simp only [Bool.not_true, Bool.false_or] at h1
  split at h1
  · rename_i fn hf
    simp only [Bool.and_eq_true, Bool.not_eq_true'] at h1
    exact ⟨fn, hf, h1.1, h1.2⟩
  · cases h1
noncomputable def l16 (f : Nat) (vs : List Value) : Option Value := match vs with
  | [.int .u32 x] => bif Nat.beq f 19 && decide (0 ≤ x) && decide (x < 4294967296) then some (decS x) else none
  | [.int .i64 x] => bif Nat.beq f 13 then some (.string (fmI x)) else none
  | _ => none
noncomputable def hk16 : Hk := ⟨bodied, fun _ _ => none, l16⟩
theorem decS_gnd (x : Int) : gnd 3 (decS x) = true := by
  rcases decS_form x with ⟨n, a, b, c, d, h, _⟩ | h
  · rw [h]; rfl
  · rw [h]; rfl
theorem plain16 : Plain Tryd.prog hk16 where
  x := bodied_spec
  z := fun f vs v h => by cases h
  l := fun f vs v h => by
    change l16 f vs = some v at h
    unfold l16 at h
    split at h
    · rename_i x
      cases hb : (Nat.beq f 19 && decide (0 ≤ x) && decide (x < 4294967296)) with
      | false => rw [hb] at h; cases h
      | true =>
        rw [hb] at h
        cases h
        simp only [Bool.and_eq_true, decide_eq_true_eq] at hb
        obtain ⟨⟨h1, h2⟩, h3⟩ := hb
        have := Nat.eq_of_beq_eq_true h1
        subst this
        exact ⟨rfl, decS_gnd x, fun w => dec_any x h2 h3 w⟩
    · rename_i x
      cases hb : Nat.beq f 13 with
      | false => rw [hb] at h; cases h
      | true =>
        rw [hb] at h
        cases h
        have := Nat.eq_of_beq_eq_true hb
        subst this
        exact ⟨rfl, rfl, fun w => form_any x w⟩
    · cases h
theorem runs16 : runsD Tryd.prog hk16 300 8 #[] isTrue = true := by kernel_rfl
theorem awake16 (w : World) : Calls Tryd.prog 8 #[] w fun e w' => e = .returned (.bool true) ∧ Below w.heap.size w w' :=
  (runsD_calls (by kernel_rfl) plain16 runs16 rfl w).mono fun e w' ⟨v, v', E, h1, h2, h3, h4⟩ => by
    refine ⟨?_, h4⟩
    cases v <;> simp [isTrue] at h1
    subst h1
    cases h3
    exact h2
end Go.Proofs.YtjocifamacpamaaDoor
