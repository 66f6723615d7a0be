/- flow's laws: same, at any two lists of whole numbers. Conditions: none. -/
import Derived.Outline
import Derived.Test.YtjocifamacpamaaFlowD
namespace Go.Proofs.Ytjocifamacpamaa
open Go.RowKit
set_option linter.unusedVariables false
set_option linter.unusedSimpArgs false
set_option maxHeartbeats 2000000 in
theorem same_eqlen (B1 B2 : Nat) (v1 v2 : Value) (l m : List Int) (hlm : l.length = m.length) (hl : l.length ≤ 100000) (w : World) (h1 : Ints B1 w v1 l) (h2 : Ints B2 w v2 m) :
    Calls Try.prog 23 #[v1, v2] w fun e w' => e = .returned (.bool (decide (l = m))) ∧ Below w.heap.size w w' := by
  by_cases hnil : l = []
  · subst hnil
    have : m = [] := List.eq_nil_of_length_eq_zero (by simpa using hlm.symm)
    subst this
    exact same_yes B1 B2 v1 v2 [] (by simp) w h1 h2
  have hnil2 : m ≠ [] := fun e => by subst e; exact hnil (List.eq_nil_of_length_eq_zero (by simpa using hlm))
  obtain ⟨p, c, rfl, hp⟩ := h1.out
  obtain ⟨q, d, rfl, hq⟩ := h2.out
  have hne : ((l.length : Int) != (l.length : Int)) = false := by simp
  obtain ⟨b, o, rfl, _, hb, hcb⟩ := hp hnil
  obtain ⟨b2, o2, rfl, _, hb2, hcb2⟩ := hq hnil2
  have hg1 : ∀ i, i < l.length → w.cell? ⟨b, o + i, none⟩ = some (.int .i64 (l.getD i 0)) := fun i h => by rw [hcb i h]; simp [List.getD, h]
  have hg2 : ∀ i, i < l.length → w.cell? ⟨b2, o2 + i, none⟩ = some (.int .i64 (m.getD i 0)) := fun i h => by rw [hcb2 i (by omega)]; simp [List.getD, show i < m.length by omega]
  rw [← hlm]
  clear hp hq hcb hcb2 hnil hnil2
  have hdec : (∀ i, i < l.length → l.getD i 0 = m.getD i 0) → decide (l = m) = true := fun h => by
    rw [decide_eq_true_eq]
    apply List.ext_getElem hlm
    intro i h1 h2
    have := h i h1
    simpa [List.getD, h1, h2] using this
  have hdec2 : ∀ i, i < l.length → l.getD i 0 ≠ m.getD i 0 → decide (l = m) = false := fun i hi h => by
    rw [decide_eq_false_iff_not]
    intro e; subst e; exact h rfl
  generalize decide (l = m) = D at *
  generalize hn : l.length = n at *
  have Hc1 := hid hg1
  have Hc2 := hid hg2
  have Hd := hid hdec
  have Hd2 := hid hdec2
  have Hlm := hid hlm
  have Hn := hid hn
  clear hg1 hg2 hdec hdec2 hlm hn h1 h2
  go_enter Try.func23, Try.ntmps23
  go_wp2
  go_loopw [5, 13] (fun _ i wr => ∃ k : Nat, ∃ q : Nat, k ≤ n ∧ i = .int .i64 k ∧ wr = w.drewN q ∧ Hid (∀ j, j < k → l.getD j 0 = m.getD j 0)) (fun _ i _ => n - (intOf i).toNat)
  case atStart => exact ⟨0, 0, by omega, rfl, rfl, hid fun j h => absurd h (Nat.not_lt_zero j)⟩
  case round =>
    obtain ⟨k, q, hk, rfl, rfl, He⟩ := hrel
    by_cases hlt : k < n
    · have c1 := Hc1.out k hlt
      have c2 := Hc2.out k hlt
      by_cases hxy : l.getD k 0 = m.getD k 0
      · rw [← hxy] at c2
        have Hxy := hid hxy
        clear hxy
        have He2 : Hid (∀ j, j < k + 1 → l.getD j 0 = m.getD j 0) := fun j hj => by
          by_cases e : j < k
          · exact He.out j e
          · obtain rfl : j = k := by omega
            exact Hxy.out
        clear He Hxy
        generalize l.getD k 0 = x at c1 c2
        go_wp2
        go_quiet (fail)
        go_wp2
        go_roundw
        case rel => exact ⟨k + 1, _, by omega, by go_num, rfl, He2⟩
        case measure => simp [intOf]; omega
      · have HD : Hid (D = false) := Hd2.out k hlt hxy
        have hb1 : (l.getD k 0 != m.getD k 0) = true := by simpa using hxy
        clear hxy He
        generalize l.getD k 0 = x at c1 hb1
        generalize m.getD k 0 = y at c2 hb1
        go_wp2
        go_quiet (fail)
        go_wp2
        go_ret
        exact ⟨by rw [HD.out]; rfl, bN (bN (Below.refl _ _) _) _⟩
    · have HD : Hid (D = true) := Hd.out fun i hi => He.out i (by omega)
      clear He
      go_wp2
      go_ret
      exact ⟨by rw [HD.out]; rfl, bN (Below.refl _ _) _⟩
theorem same_any (B1 B2 : Nat) (v1 v2 : Value) (l m : List Int) (hl : l.length ≤ 100000) (w : World) (h1 : Ints B1 w v1 l) (h2 : Ints B2 w v2 m) :
    Calls Try.prog 23 #[v1, v2] w fun e w' => e = .returned (.bool (decide (l = m))) ∧ Below w.heap.size w w' := by
  by_cases hlm : l.length = m.length
  · exact same_eqlen B1 B2 v1 v2 l m hlm hl w h1 h2
  · have hd : decide (l = m) = false := by rw [decide_eq_false_iff_not]; intro e; subst e; exact hlm rfl
    rw [hd]
    obtain ⟨p, c, rfl, _⟩ := h1.out
    obtain ⟨q, d, rfl, _⟩ := h2.out
    exact same_len p q l.length m.length c d (by simp; omega) w
end Go.Proofs.Ytjocifamacpamaa
