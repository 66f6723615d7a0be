/- A row of bools of one's own that a callee writes: the world with that row. Conditions: none. -/
import Derived.Test.YtbgjanmheagilaaGreatDoorMyX
import Derived.Test.YtbgjanmheagilaaGreatDoorEaX
set_option linter.unusedVariables false
set_option linter.unusedSimpArgs false
namespace Go.Proofs.YtbgjanmheagilaaGreatDoor
open Go Go.RowKit Go.Nodes
set_option linter.unusedVariables false
set_option linter.unusedSimpArgs false
/-- The world whose block U is this row. -/
def rowed (W : World) (U : Nat) (us : List Bool) : World := { W with heap := W.heap.setIfInBounds U (.cells (us.map Value.bool).toArray 4 (0, 0)) }
@[simp, go_sem] theorem size_rowed (W : World) (U : Nat) (us : List Bool) : (rowed W U us).heap.size = W.heap.size := by simp [rowed]
theorem heap_rowed (W : World) (U : Nat) (us : List Bool) (b : Nat) (h : ¬ b = U) : (rowed W U us).heap[b]? = W.heap[b]? := by
  have h' : U ≠ b := fun e => h e.symm
  simp [rowed, Array.getElem?_setIfInBounds, h']
theorem heap_rowed_self (W : World) (U : Nat) (us : List Bool) (h : U < W.heap.size) : (rowed W U us).heap[U]? = some (.cells (us.map Value.bool).toArray 4 (0, 0)) := by
  simp [rowed, h]
@[go_sem] theorem cell_rowed (W : World) (U : Nat) (us : List Bool) (b i : Nat) (h : ¬ b = U) : (rowed W U us).cell? ⟨b, i, none⟩ = W.cell? ⟨b, i, none⟩ := World.cell?_of_block (w := W) (heap_rowed W U us b h)
@[go_sem] theorem frozen_rowed (W : World) (U : Nat) (us : List Bool) (b i : Nat) (h : ¬ b = U) : (rowed W U us).frozen? ⟨b, i, none⟩ = W.frozen? ⟨b, i, none⟩ := World.frozen?_of_block (w := W) (heap_rowed W U us b h)
@[go_sem] theorem cell_rowed_self (W : World) (U : Nat) (us : List Bool) (i : Nat) (h : U < W.heap.size) : (rowed W U us).cell? ⟨U, i, none⟩ = us[i]?.map Value.bool := by
  simp [World.cell?, heap_rowed_self W U us h]
@[go_sem] theorem frozen_rowed_self (W : World) (U : Nat) (us : List Bool) (i : Nat) (h : U < W.heap.size) : (rowed W U us).frozen? ⟨U, i, none⟩ = false := by
  simp [World.frozen?, heap_rowed_self W U us h]
@[go_sem] theorem setCell_rowed (W : World) (U : Nat) (us : List Bool) (i : Nat) (x : Bool) (h : U < W.heap.size) : (rowed W U us).setCell ⟨U, i, none⟩ (.bool x) = rowed W U (us.set i x) := by
  simp only [World.setCell, rowed]
  congr 1
  apply Array.ext_getElem?
  intro k
  simp only [Array.getElem?_modify, Array.getElem?_setIfInBounds]
  by_cases e : U = k
  · subst e; simp [h, List.map_set]
  · simp [e]
theorem rowed_same (W : World) (U : Nat) (us : List Bool) (h : W.heap[U]? = some (.cells (us.map Value.bool).toArray 4 (0, 0))) : rowed W U us = W := by
  have hlt := (Array.getElem?_eq_some_iff.1 h).1
  unfold rowed
  congr 1
  apply Array.ext_getElem?
  intro k
  by_cases e : U = k
  · subst e; simp [hlt, ← h]
  · simp [Array.getElem?_setIfInBounds, e]
theorem rowed_twice (W : World) (U : Nat) (us vs : List Bool) : rowed (rowed W U us) U vs = rowed W U vs := by
  simp only [rowed]
  congr 1
  apply Array.ext_getElem?
  intro k
  simp only [Array.getElem?_setIfInBounds, Array.size_setIfInBounds]
  by_cases e : U = k
  · subst e; simp
  · simp [e]
theorem rowed_grow (W : World) (g : Gro) (U : Nat) (us : List Bool) (h : U < W.heap.size) : rowed (grow W g) U us = grow (rowed W U us) g := by
  simp only [rowed, grow]
  congr 1
  apply Array.ext_getElem?
  intro k
  simp only [Array.getElem?_setIfInBounds, Array.getElem?_append, Array.size_append, Array.size_setIfInBounds]
  by_cases e : U = k
  · subst e; simp [h]; omega
  · simp [e]
theorem rowed_alloc (W : World) (o : Obj) (U : Nat) (us : List Bool) (h : U < W.heap.size) : rowed (W.alloc o) U us = (rowed W U us).alloc o := by
  simp only [rowed, World.alloc]
  congr 1
  apply Array.ext_getElem?
  intro k
  simp only [Array.getElem?_setIfInBounds, Array.getElem?_push, Array.size_push, Array.size_setIfInBounds]
  by_cases e : U = k
  · subst e
    have h2 : ¬ U = W.heap.size := by omega
    have h3 : U < W.heap.size + 1 := by omega
    simp [h, h2, h3]
  · simp [e]
theorem below_rowed {w W : World} {U : Nat} {us : List Bool} (hW : Below w.heap.size w W) (hU : w.heap.size ≤ U) : Below w.heap.size w (rowed W U us) := by
  obtain ⟨h1, h2, h3, h4, h5⟩ := hW
  exact ⟨h1, h2, h3, by simpa using h4, fun k hk => by rw [heap_rowed _ _ _ _ (by omega)]; exact h5 k hk⟩
end Go.Proofs.YtbgjanmheagilaaGreatDoor
