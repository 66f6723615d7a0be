/- A slice that make has just made, as a world that is written out. Conditions: none. -/
import Derived.Test.YtjchnliaglecoaaGreatDoorBaseBX
set_option linter.unusedVariables false
set_option linter.unusedSimpArgs false
namespace Go.Proofs.YtjchnliaglecoaaGreatDoor
open Go.RowKit
set_option linter.unusedVariables false
theorem make_out {W w1 : World} {B n m : Nat} {e : TypeId} {xs : List Value} (hO : w1.ownsRow B e 1 (.slice (some ⟨m, 0, none⟩) n n) n xs) (hg : W.grownBy w1 none) (hm : m = W.heap.size) : ∃ g, w1 = grow (W.alloc (.cells xs.toArray e)) g := by
  subst hm
  obtain ⟨hl, h2⟩ := hO
  rcases h2 with ⟨h0, _⟩ | ⟨g', cap, cur, hv, _, hh, _, _, hsz, htake⟩
  · cases h0
  cases hv
  have hcur : cur = xs.toArray := by
    apply Array.toList_inj.1
    rw [← htake, List.take_of_length_le (by simp; omega)]
  subst hcur
  refine bout ⟨hg.os, hg.tape, hg.output, ?_, fun k hk => ?_⟩
  · have := (Array.getElem?_eq_some_iff.1 hh).1
    simp; omega
  · simp at hk
    rcases Nat.lt_or_ge k W.heap.size with h | h
    · rw [hg.block k h (by simp), heap_alloc_old _ _ h]
    · obtain rfl : k = W.heap.size := by omega
      rw [hh, heap_alloc_new]
end Go.Proofs.YtjchnliaglecoaaGreatDoor
