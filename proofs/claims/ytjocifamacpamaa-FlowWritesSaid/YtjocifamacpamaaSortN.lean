/- slices.Sort and slices.Compact at a slice of one or two ints that has just been made. Conditions: none. -/
import Derived.Lib.RowBridge
import Derived.Test.YtjocifamacpamaaBaseB
import Derived.Test.YtjocifamacpamaaRows
import Derived.Test.YtjocifamacpamaaShelf
namespace Go.Proofs.Ytjocifamacpamaa
open Go.RowKit
set_option linter.unusedVariables false
set_option linter.unusedSimpArgs false
theorem putCells_all (c : Array Value) (d : Array Int) (h : c.size = d.size) : Go.Sort.putCells (Value.int .i64) 0 d c = d.map (Value.int .i64) := by
  apply Array.ext
  · simp [Go.Sort.putCells, h]
  · intro k h1 h2
    have hk : k < d.size := by simpa using h2
    simp [Go.Sort.putCells, hk, getElem!_pos]
theorem put_out (W : World) (n : Nat) (hn : n = W.heap.size) (c : Array Value) (d : Array Int) (hsz : c.size = d.size) (g : Gro) (q : Nat) (os : Array Obj) :
    ∃ g', Go.Sort.grow (Go.Sort.putRow (Value.int .i64) (Go.Sort.ahead (grow (W.alloc (.cells c 3)) g) q) n 0 d) os = grow (W.alloc (.cells (d.map (Value.int .i64)) 3)) g' := by
  subst hn
  refine bout ⟨rfl, rfl, rfl, ?_, fun k hk => ?_⟩
  · simp [Go.Sort.grow, Go.Sort.putRow, Go.Sort.mapBlock, Go.Sort.ahead]
    omega
  · simp at hk
    show ((((W.heap.push (.cells c 3)) ++ g.blocks).modify W.heap.size (Go.Sort.onCells (Go.Sort.putCells (Value.int .i64) 0 d))) ++ os)[k]? = (W.heap.push (.cells (d.map (Value.int .i64)) 3))[k]?
    have l1 : k < W.heap.size + 1 + g.blocks.size := by omega
    simp only [Array.getElem?_append, Array.getElem?_modify, Array.getElem?_push, Array.size_modify, Array.size_append, Array.size_push, l1, hk, if_true]
    by_cases e : k = W.heap.size
    · subst e
      simp [Go.Sort.onCells, putCells_all c d hsz]
    · have e' : ¬ W.heap.size = k := fun h => e h.symm
      simp [e, e']
theorem holds_new (W : World) (n : Nat) (hn : n = W.heap.size) (d : Array Int) (g : Gro) : Go.Sort.Holds (Value.int .i64) (grow (W.alloc (.cells (d.map (Value.int .i64)) 3)) g) n 0 d := by
  subst hn
  intro j hj
  rw [cell_grow _ _ _ _ (by simp), frozen_grow _ _ _ _ (by simp), World.cell?_alloc_at _ _ _ _ rfl, World.frozen?_alloc_at _ _ _ _ rfl]
  simp [hj, getElem!_pos]
theorem sort_new (W : World) (n : Nat) (hn : n = W.heap.size) (zs : List Int) (hz : zs.length < 1000) (g : Gro) :
    Calls Try.prog 39 #[.slice (some ⟨n, 0, none⟩) zs.length zs.length] (grow (W.alloc (.cells (zs.toArray.map (Value.int .i64)) 3)) g) fun e w' => e = .returned (.tuple #[]) ∧ ∃ g', w' = grow (W.alloc (.cells ((zs.mergeSort fun x y => decide (x ≤ y)).toArray.map (Value.int .i64)) 3)) g' := by
  refine (Try.slices_Sort_int n 0 zs.length zs _ (holds_new W n hn zs.toArray g) (by simp; omega) (by omega)).mono fun e w' ⟨he, k, os, hw⟩ => ⟨he, ?_⟩
  rw [hw]
  exact put_out W n hn _ _ (by simp) g k os
theorem compact_new (W : World) (n : Nat) (hn : n = W.heap.size) (zs : List Int) (hz : zs.length < 1000) (g : Gro) :
    Calls Try.prog 40 #[.slice (some ⟨n, 0, none⟩) zs.length zs.length] (grow (W.alloc (.cells (zs.toArray.map (Value.int .i64)) 3)) g) fun e w' => e = .returned (.slice (some ⟨n, 0, none⟩) (Lib.compact zs).length zs.length) ∧
      ∃ g', w' = grow (W.alloc (.cells ((Lib.compact zs ++ List.replicate (zs.length - (Lib.compact zs).length) 0).toArray.map (Value.int .i64)) 3)) g' := by
  refine (Try.slices_Compact_int n 0 zs.length zs _ (holds_new W n hn zs.toArray g) (by omega) (Nat.le_refl _)).mono fun e w' ⟨he, k, hw⟩ => ⟨he, ?_⟩
  rw [hw]
  have hl : (Lib.compact zs).length ≤ zs.length := Lib.compact_length_le zs
  obtain ⟨g', h'⟩ := put_out W n hn (zs.toArray.map (Value.int .i64)) (Lib.compact zs ++ List.replicate (zs.length - (Lib.compact zs).length) 0).toArray (by simp; omega) g k #[]
  exact ⟨g', by rw [← h']; simp only [Go.Sort.grow, Array.append_empty]⟩
theorem grow_none (W : World) : ∃ g, W = grow W g := ⟨⟨#[], W.drawn⟩, (grow_refl W).symm⟩
theorem ms_two (a b : Int) : ([a, b].mergeSort fun x y => decide (x ≤ y)) = [min a b, max a b] := by
  by_cases h : a ≤ b
  · simp [List.mergeSort, List.MergeSort.Internal.splitInTwo, List.merge, h, Int.min_def, Int.max_def]
  · simp [List.mergeSort, List.MergeSort.Internal.splitInTwo, List.merge, h, Int.min_def, Int.max_def]
theorem ms_one (a : Int) : ([a].mergeSort fun x y => decide (x ≤ y)) = [a] := by simp [List.mergeSort]
theorem sort_one (W : World) (n : Nat) (x : Int) (hn : n = W.heap.size) :
    Calls Try.prog 39 #[.slice (some ⟨n, 0, none⟩) 1 1] (W.alloc (.cells #[.int .i64 x] 3)) fun e w' => e = .returned (.tuple #[]) ∧ ∃ g', w' = grow (W.alloc (.cells #[.int .i64 x] 3)) g' := by
  have h := sort_new W n hn [x] (by simp) ⟨#[], (W.alloc (.cells #[.int .i64 x] 3)).drawn⟩
  rw [ms_one] at h
  simp only [List.map_toArray, List.map_cons, List.map_nil, grow_refl] at h
  exact h
theorem sort_two (W : World) (n : Nat) (x y : Int) (hn : n = W.heap.size) :
    Calls Try.prog 39 #[.slice (some ⟨n, 0, none⟩) 2 2] (W.alloc (.cells #[.int .i64 x, .int .i64 y] 3)) fun e w' => e = .returned (.tuple #[]) ∧ ∃ g', w' = grow (W.alloc (.cells #[.int .i64 (min x y), .int .i64 (max x y)] 3)) g' := by
  have h := sort_new W n hn [x, y] (by simp) ⟨#[], (W.alloc (.cells #[.int .i64 x, .int .i64 y] 3)).drawn⟩
  rw [ms_two] at h
  simp only [List.map_toArray, List.map_cons, List.map_nil, grow_refl] at h
  exact h
theorem compact_one (W : World) (n : Nat) (x : Int) (hn : n = W.heap.size) (g : Gro) :
    Calls Try.prog 40 #[.slice (some ⟨n, 0, none⟩) 1 1] (grow (W.alloc (.cells #[.int .i64 x] 3)) g) fun e w' => e = .returned (.slice (some ⟨n, 0, none⟩) 1 1) ∧ ∃ g', w' = grow (W.alloc (.cells #[.int .i64 x] 3)) g' := by
  have h := compact_new W n hn [x] (by simp) g
  have e : Lib.compact [x] = [x] := by simp [Lib.compact, Lib.compactUpTo, Lib.keeps]
  rw [e] at h
  simpa using h
theorem compact_ne (W : World) (n : Nat) (x y : Int) (hxy : x ≠ y) (hn : n = W.heap.size) (g : Gro) :
    Calls Try.prog 40 #[.slice (some ⟨n, 0, none⟩) 2 2] (grow (W.alloc (.cells #[.int .i64 x, .int .i64 y] 3)) g) fun e w' => e = .returned (.slice (some ⟨n, 0, none⟩) 2 2) ∧ ∃ g', w' = grow (W.alloc (.cells #[.int .i64 x, .int .i64 y] 3)) g' := by
  have h := compact_new W n hn [x, y] (by simp) g
  have e : Lib.compact [x, y] = [x, y] := by
    have hyx : ¬ y = x := fun h => hxy h.symm
    simp [Lib.compact, Lib.compactUpTo, Lib.keeps, List.range_succ, hyx]
  rw [e] at h
  simpa using h
theorem compact_eq (W : World) (n : Nat) (x : Int) (hn : n = W.heap.size) (g : Gro) :
    Calls Try.prog 40 #[.slice (some ⟨n, 0, none⟩) 2 2] (grow (W.alloc (.cells #[.int .i64 x, .int .i64 x] 3)) g) fun e w' => e = .returned (.slice (some ⟨n, 0, none⟩) 1 2) ∧ ∃ g', w' = grow (W.alloc (.cells #[.int .i64 x, .int .i64 0] 3)) g' := by
  have h := compact_new W n hn [x, x] (by simp) g
  have e : Lib.compact [x, x] = [x] := by simp [Lib.compact, Lib.compactUpTo, Lib.keeps, List.range_succ]
  rw [e] at h
  simpa using h
end Go.Proofs.Ytjocifamacpamaa
