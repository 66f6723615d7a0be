/- flow's laws: same. Conditions: none. -/
import Derived.Test.YtjocifamacpamaaFlowC
namespace Go.Proofs.Ytjocifamacpamaa
open Go.RowKit
set_option linter.unusedVariables false
set_option linter.unusedSimpArgs false
set_option maxHeartbeats 1000000 in
theorem same_len (p q : Option Addr) (n m c d : Nat) (h : ((n : Int) == m) = false) (w : World) :
    Calls Try.prog 23 #[.slice p n c, .slice q m d] w fun e w' => e = .returned (.bool false) ∧ Below w.heap.size w w' := by
  have h' : ((n : Int) != m) = true := by rw [bne, h]; rfl
  go_enter Try.func23, Try.ntmps23
  go_wp2
  go_ret
  exact ⟨rfl, Below.refl _ _⟩
set_option maxHeartbeats 2000000 in
theorem same_yes (B1 B2 : Nat) (v1 v2 : Value) (l : List Int) (hl : l.length ≤ 1000) (w : World) (h1 : Ints B1 w v1 l) (h2 : Ints B2 w v2 l) :
    Calls Try.prog 23 #[v1, v2] w fun e w' => e = .returned (.bool true) ∧ Below w.heap.size w w' := by
  obtain ⟨p, c, rfl, hp⟩ := h1.out
  obtain ⟨q, d, rfl, hq⟩ := h2.out
  have hne : ((l.length : Int) != (l.length : Int)) = false := by simp
  by_cases hnil : l = []
  · subst hnil
    clear hp hq
    go_enter Try.func23, Try.ntmps23
    go_wp2
    refine wp_loop_rounds 1 ?_
    rw [rounds_succ]
    go_wp2
    go_ret
    exact ⟨rfl, Below.refl _ _⟩
  obtain ⟨b, o, rfl, _, hb, hcb⟩ := hp hnil
  obtain ⟨b2, o2, rfl, _, hb2, hcb2⟩ := hq hnil
  have hg1 : ∀ i, i < l.length → w.cell? ⟨b, o + i, none⟩ = some (.int .i64 (l.getD i 0)) := fun i h => by rw [hcb i h]; simp [List.getD, h]
  have hg2 : ∀ i, i < l.length → w.cell? ⟨b2, o2 + i, none⟩ = some (.int .i64 (l.getD i 0)) := fun i h => by rw [hcb2 i h]; simp [List.getD, h]
  clear hp hq hcb hcb2 hnil
  generalize l.length = n at *
  have Hc1 := hid hg1
  have Hc2 := hid hg2
  clear hg1 hg2
  go_enter Try.func23, Try.ntmps23
  go_wp2
  go_loopw [5, 13] (fun _ i wr => ∃ k : Nat, ∃ q : Nat, k ≤ n ∧ i = .int .i64 k ∧ wr = w.drewN q) (fun _ i _ => n - (intOf i).toNat)
  case atStart => exact ⟨0, 0, by omega, rfl, rfl⟩
  case round =>
    obtain ⟨k, q, hk, rfl, rfl⟩ := hrel
    by_cases hlt : k < n
    · have c1 := Hc1.out k hlt
      have c2 := Hc2.out k hlt
      generalize l.getD k 0 = x at c1 c2
      go_wp2
      go_quiet (fail)
      go_wp2
      go_roundw
      case rel => exact ⟨k + 1, _, by omega, by go_num, rfl⟩
      case measure => simp [intOf]; omega
    · go_wp2
      go_ret
      exact ⟨rfl, bN (Below.refl _ _) _⟩
end Go.Proofs.Ytjocifamacpamaa
