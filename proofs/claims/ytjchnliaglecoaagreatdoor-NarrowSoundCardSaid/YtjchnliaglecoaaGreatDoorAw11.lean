/- Chapter 11's example, run by the abstract evaluator. Conditions: the library's variables. -/
import Derived.Test.YtjchnliaglecoaaGreatDoorNrX
set_option linter.unusedVariables false
set_option linter.unusedSimpArgs false
namespace Go.Proofs.YtjchnliaglecoaaGreatDoor
open Go Go.RowKit Go.Am
set_option linter.unusedVariables false
noncomputable def l11 (f : Nat) (vs : List Value) : Option Value := match vs with
  | [.string s] => bif Nat.beq f 134 && Nat.ble s.size 1000 then some (.bool (nameS s.data.toList)) else none
  | [.int .i64 n] => bif Nat.beq f 184 && decide (0 ≤ n) && decide (n ≤ 1000000) then some (.string ⟨(Lib.itoa n).toArray⟩) else none
  | _ => l6 f vs
noncomputable def hk11 : Hk := ⟨bodied, fun _ _ => none, l11⟩
theorem plain11 (W0 : World) (hl : Lib0 W0) : Plain Tryz.prog hk11 W0 where
  x := bodied_spec
  z := fun f vs v h => by cases h
  l := fun f vs v h => by
    change l11 f vs = some v at h
    unfold l11 at h
    split at h
    · rename_i s
      cases hb : (Nat.beq f 134 && Nat.ble s.size 1000) with
      | false => rw [hb] at h; cases h
      | true =>
        rw [hb] at h
        cases h
        simp only [Bool.and_eq_true] at hb
        have := Nat.eq_of_beq_eq_true hb.1
        subst this
        have h2 := Nat.le_of_ble_eq_true hb.2
        exact ⟨rfl, rfl, fun w hw => name_any s (by omega) w (Lib0.later hl hw)⟩
    · rename_i n
      cases hb : (Nat.beq f 184 && decide (0 ≤ n) && decide (n ≤ 1000000)) with
      | false => rw [hb] at h; cases h
      | true =>
        rw [hb] at h
        cases h
        simp only [Bool.and_eq_true, decide_eq_true_eq] at hb
        have := Nat.eq_of_beq_eq_true hb.1.1
        subst this
        exact ⟨rfl, rfl, fun w hw => show_any n (by omega) (by omega) w (Lib0.later hl hw)⟩
    · exact (plain6 W0).l f _ v h
end Go.Proofs.YtjchnliaglecoaaGreatDoor
