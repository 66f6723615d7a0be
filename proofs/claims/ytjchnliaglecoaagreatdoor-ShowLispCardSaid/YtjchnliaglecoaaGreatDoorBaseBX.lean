/- The growth of a world: what a call that writes to no block that was there before leaves. Plain lemmas for the walk. -/
import Derived.WalkKit
import Derived.WalkSpells
import Derived.WalkLawsBesides
import Derived.LoopTactic
import Derived.Below
import Derived.RegionTactic
import Derived.ChangeAlike
import Derived.Deep.QuietTactic
import Derived.BigQuiet
import Derived.LoopN
import Derived.Laws.RangeString
import Derived.Laws.RangeAny
import Derived.Laws.BitsAllLaws
set_option linter.unusedVariables false
set_option linter.unusedSimpArgs false
namespace Go.Proofs.YtjchnliaglecoaaGreatDoor
open Go.RowKit

@[go_sem] theorem lt_own1 (a b0 : Nat) : a < a + 1 + b0 := by omega
@[go_sem] theorem lt_far1 (a b b0 : Nat) (h : a < b) : a < b + b0 := by omega
@[go_sem] theorem lt_own2 (a b0 b1 : Nat) : a < a + 1 + b0 + b1 := by omega
@[go_sem] theorem lt_far2 (a b b0 b1 : Nat) (h : a < b) : a < b + b0 + b1 := by omega
@[go_sem] theorem lt_own3 (a b0 b1 b2 : Nat) : a < a + 1 + b0 + b1 + b2 := by omega
@[go_sem] theorem lt_far3 (a b b0 b1 b2 : Nat) (h : a < b) : a < b + b0 + b1 + b2 := by omega
@[go_sem] theorem lt_own4 (a b0 b1 b2 b3 : Nat) : a < a + 1 + b0 + b1 + b2 + b3 := by omega
@[go_sem] theorem lt_far4 (a b b0 b1 b2 b3 : Nat) (h : a < b) : a < b + b0 + b1 + b2 + b3 := by omega
@[go_sem] theorem lt_own5 (a b0 b1 b2 b3 b4 : Nat) : a < a + 1 + b0 + b1 + b2 + b3 + b4 := by omega
@[go_sem] theorem lt_far5 (a b b0 b1 b2 b3 b4 : Nat) (h : a < b) : a < b + b0 + b1 + b2 + b3 + b4 := by omega
@[go_sem] theorem lt_own6 (a b0 b1 b2 b3 b4 b5 : Nat) : a < a + 1 + b0 + b1 + b2 + b3 + b4 + b5 := by omega
@[go_sem] theorem lt_far6 (a b b0 b1 b2 b3 b4 b5 : Nat) (h : a < b) : a < b + b0 + b1 + b2 + b3 + b4 + b5 := by omega
@[go_sem] theorem lt_own7 (a b0 b1 b2 b3 b4 b5 b6 : Nat) : a < a + 1 + b0 + b1 + b2 + b3 + b4 + b5 + b6 := by omega
@[go_sem] theorem lt_far7 (a b b0 b1 b2 b3 b4 b5 b6 : Nat) (h : a < b) : a < b + b0 + b1 + b2 + b3 + b4 + b5 + b6 := by omega
@[go_sem] theorem lt_own8 (a b0 b1 b2 b3 b4 b5 b6 b7 : Nat) : a < a + 1 + b0 + b1 + b2 + b3 + b4 + b5 + b6 + b7 := by omega
@[go_sem] theorem lt_far8 (a b b0 b1 b2 b3 b4 b5 b6 b7 : Nat) (h : a < b) : a < b + b0 + b1 + b2 + b3 + b4 + b5 + b6 + b7 := by omega
@[go_sem] theorem lt_own9 (a b0 b1 b2 b3 b4 b5 b6 b7 b8 : Nat) : a < a + 1 + b0 + b1 + b2 + b3 + b4 + b5 + b6 + b7 + b8 := by omega
@[go_sem] theorem lt_far9 (a b b0 b1 b2 b3 b4 b5 b6 b7 b8 : Nat) (h : a < b) : a < b + b0 + b1 + b2 + b3 + b4 + b5 + b6 + b7 + b8 := by omega
@[go_sem] theorem lt_own10 (a b0 b1 b2 b3 b4 b5 b6 b7 b8 b9 : Nat) : a < a + 1 + b0 + b1 + b2 + b3 + b4 + b5 + b6 + b7 + b8 + b9 := by omega
@[go_sem] theorem lt_far10 (a b b0 b1 b2 b3 b4 b5 b6 b7 b8 b9 : Nat) (h : a < b) : a < b + b0 + b1 + b2 + b3 + b4 + b5 + b6 + b7 + b8 + b9 := by omega
@[go_sem] theorem lt_own11 (a b0 b1 b2 b3 b4 b5 b6 b7 b8 b9 b10 : Nat) : a < a + 1 + b0 + b1 + b2 + b3 + b4 + b5 + b6 + b7 + b8 + b9 + b10 := by omega
@[go_sem] theorem lt_far11 (a b b0 b1 b2 b3 b4 b5 b6 b7 b8 b9 b10 : Nat) (h : a < b) : a < b + b0 + b1 + b2 + b3 + b4 + b5 + b6 + b7 + b8 + b9 + b10 := by omega
@[go_sem] theorem lt_own12 (a b0 b1 b2 b3 b4 b5 b6 b7 b8 b9 b10 b11 : Nat) : a < a + 1 + b0 + b1 + b2 + b3 + b4 + b5 + b6 + b7 + b8 + b9 + b10 + b11 := by omega
@[go_sem] theorem lt_far12 (a b b0 b1 b2 b3 b4 b5 b6 b7 b8 b9 b10 b11 : Nat) (h : a < b) : a < b + b0 + b1 + b2 + b3 + b4 + b5 + b6 + b7 + b8 + b9 + b10 + b11 := by omega
@[go_sem] theorem lt_own13 (a b0 b1 b2 b3 b4 b5 b6 b7 b8 b9 b10 b11 b12 : Nat) : a < a + 1 + b0 + b1 + b2 + b3 + b4 + b5 + b6 + b7 + b8 + b9 + b10 + b11 + b12 := by omega
@[go_sem] theorem lt_far13 (a b b0 b1 b2 b3 b4 b5 b6 b7 b8 b9 b10 b11 b12 : Nat) (h : a < b) : a < b + b0 + b1 + b2 + b3 + b4 + b5 + b6 + b7 + b8 + b9 + b10 + b11 + b12 := by omega
@[go_sem] theorem lt_own14 (a b0 b1 b2 b3 b4 b5 b6 b7 b8 b9 b10 b11 b12 b13 : Nat) : a < a + 1 + b0 + b1 + b2 + b3 + b4 + b5 + b6 + b7 + b8 + b9 + b10 + b11 + b12 + b13 := by omega
@[go_sem] theorem lt_far14 (a b b0 b1 b2 b3 b4 b5 b6 b7 b8 b9 b10 b11 b12 b13 : Nat) (h : a < b) : a < b + b0 + b1 + b2 + b3 + b4 + b5 + b6 + b7 + b8 + b9 + b10 + b11 + b12 + b13 := by omega
@[go_sem] theorem lt_own15 (a b0 b1 b2 b3 b4 b5 b6 b7 b8 b9 b10 b11 b12 b13 b14 : Nat) : a < a + 1 + b0 + b1 + b2 + b3 + b4 + b5 + b6 + b7 + b8 + b9 + b10 + b11 + b12 + b13 + b14 := by omega
@[go_sem] theorem lt_far15 (a b b0 b1 b2 b3 b4 b5 b6 b7 b8 b9 b10 b11 b12 b13 b14 : Nat) (h : a < b) : a < b + b0 + b1 + b2 + b3 + b4 + b5 + b6 + b7 + b8 + b9 + b10 + b11 + b12 + b13 + b14 := by omega
@[go_sem] theorem lt_own16 (a b0 b1 b2 b3 b4 b5 b6 b7 b8 b9 b10 b11 b12 b13 b14 b15 : Nat) : a < a + 1 + b0 + b1 + b2 + b3 + b4 + b5 + b6 + b7 + b8 + b9 + b10 + b11 + b12 + b13 + b14 + b15 := by omega
@[go_sem] theorem lt_far16 (a b b0 b1 b2 b3 b4 b5 b6 b7 b8 b9 b10 b11 b12 b13 b14 b15 : Nat) (h : a < b) : a < b + b0 + b1 + b2 + b3 + b4 + b5 + b6 + b7 + b8 + b9 + b10 + b11 + b12 + b13 + b14 + b15 := by omega
theorem hid {p : Prop} (h : p) : Hid p := h

/-- New blocks, and the count of draws. -/
structure Gro where
  blocks : Array Obj
  drawn : Nat

def Gro.size (g : Gro) : Nat := g.blocks.size

/-- The world with new blocks behind it. -/
def grow (w : World) (g : Gro) : World := { w with heap := w.heap ++ g.blocks, drawn := g.drawn }

@[simp, go_sem] theorem size_grow (w : World) (g : Gro) : (grow w g).heap.size = w.heap.size + g.size := by
  simp [grow, Gro.size]
theorem heap_grow (w : World) (g : Gro) (n : Nat) (h : n < w.heap.size) : (grow w g).heap[n]? = w.heap[n]? := by
  simp only [grow, Array.getElem?_append, h, if_true]
@[go_sem] theorem cell_grow (w : World) (g : Gro) (n i : Nat) (h : n < w.heap.size) : (grow w g).cell? ⟨n, i, none⟩ = w.cell? ⟨n, i, none⟩ :=
  World.cell?_of_block (w := w) (heap_grow w g n h)
@[go_sem] theorem frozen_grow (w : World) (g : Gro) (n i : Nat) (h : n < w.heap.size) : (grow w g).frozen? ⟨n, i, none⟩ = w.frozen? ⟨n, i, none⟩ :=
  World.frozen?_of_block (w := w) (heap_grow w g n h)
@[go_sem] theorem setCell_grow (w : World) (g : Gro) (n i : Nat) (v : Value) (h : n < w.heap.size) : (grow w g).setCell ⟨n, i, none⟩ v = grow (w.setCell ⟨n, i, none⟩ v) g := by
  simp only [World.setCell, grow]
  congr 1
  apply Array.ext_getElem?
  intro k
  simp only [Array.getElem?_modify, Array.getElem?_append, Array.size_modify]
  by_cases e : n = k
  · subst e; simp [h]
  · simp [e]
@[simp, go_sem] theorem grow_drewN (w : World) (k : Nat) (g : Gro) : grow (w.drewN k) g = grow w g := rfl
@[simp, go_sem] theorem grow_drew (w : World) (g : Gro) : grow w.drew g = grow w g := rfl
theorem below_grow (w : World) (g : Gro) : Below w.heap.size w (grow w g) :=
  ⟨rfl, rfl, rfl, by simp, fun k h => heap_grow w g k h⟩
/-- What a contract says, as a world that is written out. -/
theorem bout {w w' : World} (h : Below w.heap.size w w') : ∃ g, w' = grow w g := by
  refine ⟨⟨w'.heap.extract w.heap.size w'.heap.size, w'.drawn⟩, ?_⟩
  obtain ⟨h1, h2, h3, h4, h5⟩ := h
  cases w with
  | mk heap tape drawn os output =>
    cases w' with
    | mk heap' tape' drawn' os' output' =>
      simp only at h1 h2 h3 h4 h5
      subst h1 h2 h3
      simp only [grow]
      congr 1
      apply Array.ext
      · simp; omega
      · intro k h1 h2
        simp only [Array.getElem_append, Array.getElem_extract]
        split
        · rename_i hk
          have := h5 k hk
          rw [Array.getElem?_eq_getElem h1, Array.getElem?_eq_getElem hk] at this
          exact Option.some.inj this
        · congr 1; omega
/-! What lies below the world that the call began in stays: step by step, without side conditions. -/
theorem bA {a w : World} (h : Below a.heap.size a w) (o : Obj) : Below a.heap.size a (w.alloc o) := h.alloc h.size o
theorem bG {a w : World} (h : Below a.heap.size a w) (g : Gro) : Below a.heap.size a (grow w g) := h.trans ((below_grow w g).mono h.size)
theorem bI {a w : World} (h : Below a.heap.size a w) (s : ByteArray) (p : Nat) : Below a.heap.size a (w.iter s p) := h.alloc h.size _
theorem bN {a w : World} (h : Below a.heap.size a w) (n : Nat) : Below a.heap.size a (w.drewN n) := _root_.Go.below_drewN h n
theorem bD {a w : World} (h : Below a.heap.size a w) : Below a.heap.size a w.drew := h.drew
theorem bB {a w w' : World} (h : Below a.heap.size a w) (h' : Below w.heap.size w w') : Below a.heap.size a w' := h.trans (h'.mono h.size)
theorem bS {a w : World} (h : Below a.heap.size a w) (n i : Nat) (v : Value) (hn : a.heap.size ≤ n) : Below a.heap.size a (w.setCell ⟨n, i, none⟩ v) := h.setCell hn v
/-- The iterator of a range over a text. -/
@[go_sem] theorem cell_iter (w : World) (s : ByteArray) (p n i : Nat) (h : n < w.heap.size) : (w.iter s p).cell? ⟨n, i, none⟩ = w.cell? ⟨n, i, none⟩ :=
  World.cell?_alloc_past (w := w) _ n i h
@[go_sem] theorem frozen_iter (w : World) (s : ByteArray) (p n i : Nat) (h : n < w.heap.size) : (w.iter s p).frozen? ⟨n, i, none⟩ = w.frozen? ⟨n, i, none⟩ :=
  World.frozen?_alloc_past (w := w) _ n i h
@[go_sem] theorem setCell_iter (w : World) (s : ByteArray) (p n i : Nat) (v : Value) (h : n < w.heap.size) : (w.iter s p).setCell ⟨n, i, none⟩ v = (w.setCell ⟨n, i, none⟩ v).iter s p :=
  World.setCell_alloc_past (w := w) _ n i v h
@[simp, go_sem] theorem size_iter (w : World) (s : ByteArray) (p : Nat) : (w.iter s p).heap.size = w.heap.size + 1 := by
  simp [World.iter]
theorem next_in {P : Program} (w : World) (r : Nat) (s : ByteArray) (pos c wd : Nat) (ty : TypeId) (hr : w.heap[r]? = some (.stringIter s pos)) (h : pos < s.size) (hd : Utf8.decode s pos = (c, wd)) :
    (Instr.next (.pointer (some ⟨r, 0, none⟩)) true ty).run P w = .ok (.tuple #[.bool true, .int .i64 pos, .int .i32 c]) { w with heap := w.heap.setIfInBounds r (.stringIter s (pos + wd)) } := by
  simp [Instr.next, getObj, setObj, Sem.run, hr, h, hd, goInt]
theorem iter_grow_set (W : World) (s : ByteArray) (p q : Nat) (g : Gro) : { grow (W.iter s p) g with heap := (grow (W.iter s p) g).heap.setIfInBounds W.heap.size (.stringIter s q) } = grow (W.iter s q) g := by
  simp only [grow, World.iter, World.alloc]
  congr 1
  apply Array.ext_getElem?
  intro k
  simp only [Array.getElem?_setIfInBounds, Array.getElem?_append, Array.getElem?_push, Array.size_push, Array.size_append]
  by_cases e : W.heap.size = k
  · subst e; simp; try omega
  · have e' : k ≠ W.heap.size := fun h => e h.symm
    simp [e, e']
/-- A step of a range over a text, where the call has made blocks since. -/
theorem next_grow {P : Program} (W : World) (s : ByteArray) (pos c wd : Nat) (ty : TypeId) (g : Gro) (h : pos < s.size) (hd : Utf8.decode s pos = (c, wd)) :
    (Instr.next (.pointer (some ⟨W.heap.size, 0, none⟩)) true ty).run P (grow (W.iter s pos) g) = .ok (.tuple #[.bool true, .int .i64 pos, .int .i32 c]) (grow (W.iter s (pos + wd)) g) := by
  rw [next_in _ _ s pos c wd ty (by rw [heap_grow _ _ _ (by simp)]; exact World.iter_heap W s pos) h hd, iter_grow_set]
theorem next_grow_end {P : Program} (W : World) (s : ByteArray) (pos : Nat) (ty : TypeId) (g : Gro) (h : ¬ pos < s.size) :
    (Instr.next (.pointer (some ⟨W.heap.size, 0, none⟩)) true ty).run P (grow (W.iter s pos) g) = .ok (.tuple #[.bool false]) (grow (W.iter s pos) g) := by
  have hr : (grow (W.iter s pos) g).heap[W.heap.size]? = some (.stringIter s pos) := by rw [heap_grow _ _ _ (by simp)]; exact World.iter_heap W s pos
  simp [Instr.next, getObj, Sem.run, hr, h]
def Gro.app (g h : Gro) : Gro := ⟨g.blocks ++ h.blocks, h.drawn⟩
theorem grow_grow (w : World) (g h : Gro) : grow (grow w g) h = grow w (g.app h) := by
  simp [grow, Gro.app, Array.append_assoc]
@[simp] theorem iterPos_grow (W : World) (s : ByteArray) (p n : Nat) (g : Gro) (hn : n = W.heap.size) : (grow (W.iter s p) g).iterPos n = p := by
  subst hn
  have hr : (grow (W.iter s p) g).heap[W.heap.size]? = some (.stringIter s p) := by rw [heap_grow _ _ _ (by simp)]; exact World.iter_heap W s p
  simp [World.iterPos, hr]
theorem grow_refl (w : World) : grow w ⟨#[], w.drawn⟩ = w := by
  simp [grow]
/-! Operations run one behind the other, by reckoning. -/
def runOps (P : Program) : List Oper → Act → World → Option (Act × World)
  | [], a, w => some (a, w)
  | o :: rest, a, w => match o.guard with
    | some _ => none
    | none => match (execOp a.eval o).run P w with
      | .ok (.value v) w' => runOps P rest (a.put o.dst v) w'
      | .ok .skip w' => runOps P rest (a.put o.dst undef) w'
      | _ => none
theorem wpList_run {P : Program} {ops : Array Oper} {Q : Exit → Act → World → Prop} : ∀ (k : Nat) {l : List Oper} {a a' : Act} {w w' : World},
    runOps P (l.take k) a w = some (a', w') → wpList P ops Q (l.drop k) a' w' → wpList P ops Q l a w
  | 0, l, a, a', w, w', h, h2 => by
    simp [runOps] at h; obtain ⟨rfl, rfl⟩ := h; simpa using h2
  | k + 1, [], a, a', w, w', h, h2 => by
    simp [runOps] at h; obtain ⟨rfl, rfl⟩ := h; simpa using h2
  | k + 1, o :: rest, a, a', w, w', h, h2 => by
    simp only [List.take_succ_cons, runOps] at h
    split at h
    · exact absurd h (by simp)
    · rename_i hg
      split at h
      · rename_i v w1 hr
        exact wpList_plain hg fun K hK => by
          unfold Oper.wp; rw [hr]; exact hK _ _ (wpList_run k h (by simpa using h2))
      · rename_i w1 hr
        exact wpList_plain hg fun K hK => by
          unfold Oper.wp; rw [hr]; exact hK _ _ (wpList_run k h (by simpa using h2))
      · exact absurd h (by simp)
end Go.Proofs.YtjchnliaglecoaaGreatDoor

/- More lemmas for the walk: two growths are one; a step of a range over a text at whatever address. -/
namespace Go.Proofs.YtjchnliaglecoaaGreatDoor
open Go.RowKit
attribute [go_sem] grow_grow
theorem size_app (g h : Gro) : (g.app h).size = g.size + h.size := by simp [Gro.size, Gro.app]
@[go_sem] theorem and255 (x : Int) (h0 : 0 ≤ x) (h1 : x < 4294967296) : bits .and .u32 x 255 = x % 256 := by
  rw [u32_and x 255 h0 h1 (by decide) (by decide)]
  have : x.toNat &&& (255 : Int).toNat = x.toNat % 256 := Nat.and_two_pow_sub_one_eq_mod x.toNat 8
  rw [this]; omega
theorem next_at {P : Program} (s : ByteArray) (pos c wd : Nat) (h : pos < s.size) (hd : Utf8.decode s pos = (c, wd)) (W : World) (r : Nat) (ty : TypeId) (g : Gro) (hr : r = W.heap.size) :
    (Instr.next (.pointer (some ⟨r, 0, none⟩)) true ty).run P (grow (W.iter s pos) g) = .ok (.tuple #[.bool true, .int .i64 pos, .int .i32 c]) (grow (W.iter s (pos + wd)) g) := by
  subst hr; exact next_grow W s pos c wd ty g h hd
theorem next_at_end {P : Program} (s : ByteArray) (pos : Nat) (h : ¬ pos < s.size) (W : World) (r : Nat) (ty : TypeId) (g : Gro) (hr : r = W.heap.size) :
    (Instr.next (.pointer (some ⟨r, 0, none⟩)) true ty).run P (grow (W.iter s pos) g) = .ok (.tuple #[.bool false]) (grow (W.iter s pos) g) := by
  subst hr; exact next_grow_end W s pos ty g h
theorem next_new {P : Program} (s : ByteArray) (pos c wd : Nat) (h : pos < s.size) (hd : Utf8.decode s pos = (c, wd)) (W : World) (r : Nat) (ty : TypeId) (hr : r = W.heap.size) :
    (Instr.next (.pointer (some ⟨r, 0, none⟩)) true ty).run P (W.iter s pos) = .ok (.tuple #[.bool true, .int .i64 pos, .int .i32 c]) (W.iter s (pos + wd)) := by
  have := next_at (P := P) s pos c wd h hd W r ty ⟨#[], (W.iter s pos).drawn⟩ hr
  rw [show grow (W.iter s pos) ⟨#[], (W.iter s pos).drawn⟩ = W.iter s pos from grow_refl _, show grow (W.iter s (pos + wd)) ⟨#[], (W.iter s pos).drawn⟩ = W.iter s (pos + wd) from grow_refl _] at this
  exact this
theorem next_new_end {P : Program} (s : ByteArray) (pos : Nat) (h : ¬ pos < s.size) (W : World) (r : Nat) (ty : TypeId) (hr : r = W.heap.size) :
    (Instr.next (.pointer (some ⟨r, 0, none⟩)) true ty).run P (W.iter s pos) = .ok (.tuple #[.bool false]) (W.iter s pos) := by
  have := next_at_end (P := P) s pos h W r ty ⟨#[], (W.iter s pos).drawn⟩ hr
  rw [show grow (W.iter s pos) ⟨#[], (W.iter s pos).drawn⟩ = W.iter s pos from grow_refl _] at this
  exact this
theorem next_at_q {P : Program} (s : ByteArray) (pos c q : Nat) (h : pos < s.size) (hd : Utf8.decode s pos = (c, q - pos)) (hq : pos ≤ q) (W : World) (r : Nat) (ty : TypeId) (g : Gro) (hr : r = W.heap.size) :
    (Instr.next (.pointer (some ⟨r, 0, none⟩)) true ty).run P (grow (W.iter s pos) g) = .ok (.tuple #[.bool true, .int .i64 pos, .int .i32 c]) (grow (W.iter s q) g) := by
  have := next_at (P := P) s pos c (q - pos) h hd W r ty g hr
  rwa [show pos + (q - pos) = q by omega] at this
theorem next_new_q {P : Program} (s : ByteArray) (pos c q : Nat) (h : pos < s.size) (hd : Utf8.decode s pos = (c, q - pos)) (hq : pos ≤ q) (W : World) (r : Nat) (ty : TypeId) (hr : r = W.heap.size) :
    (Instr.next (.pointer (some ⟨r, 0, none⟩)) true ty).run P (W.iter s pos) = .ok (.tuple #[.bool true, .int .i64 pos, .int .i32 c]) (W.iter s q) := by
  have := next_new (P := P) s pos c (q - pos) h hd W r ty hr
  rwa [show pos + (q - pos) = q by omega] at this
end Go.Proofs.YtjchnliaglecoaaGreatDoor
