/- Chapter 14's example, run by the abstract evaluator. Conditions: the library's variables. -/
import Derived.Test.YtjchnliaglecoaaGreatDoorAw11X
import Derived.Test.YtjchnliaglecoaaGreatDoorOn
import Derived.Test.YtjchnliaglecoaaGreatDoorNqX
set_option linter.unusedVariables false
set_option linter.unusedSimpArgs false
namespace Go.Proofs.YtjchnliaglecoaaGreatDoor
open Go Go.RowKit Go.Am
set_option linter.unusedVariables false
noncomputable def l14 (f : Nat) (vs : List Value) : Option Value := match vs with
  | [.string s, .string a] => bif Nat.beq f 182 && Nat.ble s.size 1000 && Nat.ble a.size 1000 then some (.bool (oneS s.data.toList a.data.toList)) else l11 f [.string s, .string a]
  | [.string s] => bif Nat.beq f 183 && Nat.ble s.size 1000 then some (numV (numS s.data.toList)) else l11 f [.string s]
  | vs => l11 f vs
noncomputable def hk14 : Hk := ⟨bodied, fun _ _ => none, l14⟩
theorem gnd_num (o : Option Nat) : gnd 3 (numV o) = true := by cases o <;> rfl
theorem plain14 (W0 : World) (hl : Lib0 W0) : Plain Tryz.prog hk14 W0 where
  x := bodied_spec
  z := fun f vs v h => by cases h
  l := fun f vs v h => by
    change l14 f vs = some v at h
    unfold l14 at h
    split at h
    · rename_i s a
      cases hb : (Nat.beq f 182 && Nat.ble s.size 1000 && Nat.ble a.size 1000) with
      | false => rw [hb] at h; exact (plain11 W0 hl).l f _ v h
      | true =>
        rw [hb] at h
        cases h
        simp only [Bool.and_eq_true] at hb
        have := Nat.eq_of_beq_eq_true hb.1.1
        subst this
        have h1 := Nat.le_of_ble_eq_true hb.1.2
        have h2 := Nat.le_of_ble_eq_true hb.2
        exact ⟨rfl, rfl, fun w hw => one_any s a (by omega) h2 w (Lib0.later hl hw)⟩
    · rename_i s
      cases hb : (Nat.beq f 183 && Nat.ble s.size 1000) with
      | false => rw [hb] at h; exact (plain11 W0 hl).l f _ v h
      | true =>
        rw [hb] at h
        cases h
        simp only [Bool.and_eq_true] at hb
        have := Nat.eq_of_beq_eq_true hb.1
        subst this
        have h1 := Nat.le_of_ble_eq_true hb.2
        exact ⟨rfl, gnd_num _, fun w hw => number_any s (by omega) w⟩
    · exact (plain11 W0 hl).l f _ v h
end Go.Proofs.YtjchnliaglecoaaGreatDoor
