/- strings.Builder in show.Lisp: what lies where, WriteString, Len, String. Conditions: none. -/
import Derived.Test.YtjchnliaglecoaaGreatDoorQx
import Derived.Test.YtjchnliaglecoaaGreatDoorBq
set_option linter.unusedVariables false
set_option linter.unusedSimpArgs false
namespace Go.Proofs.YtjchnliaglecoaaGreatDoor
open Go Go.RowKit Go.Nodes Go.Am
set_option linter.unusedVariables false
set_option linter.unusedSimpArgs false
/-- show.Lisp's own three blocks: the nodes, the builder, the function that calls itself. -/
structure LWp (W0 : World) (S p : Value) (u : ByteArray) (w : World) : Prop where
  below : Below W0.heap.size W0 w
  bld : ∃ v, w.heap[W0.heap.size + 1]? = some (.cells #[p, v] 77 (0, 0)) ∧ w.ownsRow W0.heap.size 5 1 v u.size (Lib.strCells u)
  nodes : w.heap[W0.heap.size]? = some (.cells #[S] 22 (0, 0))
  down : w.heap[W0.heap.size + 2]? = some (.cells #[.func (.func 50) #[] #[.pointer (some ⟨W0.heap.size + 1, 0, none⟩), .pointer (some ⟨W0.heap.size, 0, none⟩), .pointer (some ⟨W0.heap.size + 2, 0, none⟩)]] 84 (0, 0))
def LW (W0 : World) (S : Value) (u : ByteArray) (w : World) : Prop := LWp W0 S (.pointer none) u w ∨ LWp W0 S (.pointer (some ⟨W0.heap.size + 1, 0, none⟩)) u w
theorem row_turned {w w' : World} {B b : Nat} {co : Obj} {v : Value} {n : Nat} {xs : List Value} (h : w.ownsRow B 5 1 v n xs) (hT : Turned b co w w') (hb : ∀ cur, w.heap[b]? ≠ some (.cells cur 5 (0, 0))) : w'.ownsRow B 5 1 v n xs := by
  refine ⟨h.1, ?_⟩
  rcases h.2 with h1 | ⟨g, cap, cur, h1, h2, h3, h4⟩
  · exact .inl h1
  · exact .inr ⟨g, cap, cur, h1, h2, by rw [hT.other g (fun e => hb cur (e ▸ h3))]; exact h3, h4⟩
theorem row_block {w : World} {B b : Nat} {v : Value} {n : Nat} {xs : List Value} {cs : Array Value} {t : TypeId} (h : w.ownsRow B 5 1 v n xs) (hb : w.heap[b]? = some (.cells cs t (0, 0))) (ht : t ≠ 5) : v.ownBlock ≠ some b := by
  intro e
  rcases h.2 with ⟨rfl, _⟩ | ⟨g, cap, cur, rfl, _, h3, _⟩
  · simp [Value.ownBlock] at e
  · simp [Value.ownBlock] at e
    subst e
    rw [hb] at h3
    cases h3
    exact ht rfl
theorem row_later {w w' : World} {B : Nat} {v : Value} {n : Nat} {xs : List Value} (h : w.ownsRow B 5 1 v n xs) (hb : Below w.heap.size w w') : w'.ownsRow B 5 1 v n xs := by
  refine ⟨h.1, ?_⟩
  rcases h.2 with h1 | ⟨g, cap, cur, h1, h2, h3, h4⟩
  · exact .inl h1
  · exact .inr ⟨g, cap, cur, h1, h2, by rw [hb.block g (Array.getElem?_eq_some_iff.1 h3).1]; exact h3, h4⟩
theorem block_later {w w' : World} {b : Nat} {o : Obj} (h : w.heap[b]? = some o) (hb : Below w.heap.size w w') : w'.heap[b]? = some o := by
  rw [hb.block b (Array.getElem?_eq_some_iff.1 h).1]; exact h
theorem LWp.size {W0 w : World} {S p : Value} {u : ByteArray} (h : LWp W0 S p u w) : W0.heap.size + 2 < w.heap.size := (Array.getElem?_eq_some_iff.1 h.down).1
theorem LWp.later {W0 w w' : World} {S p : Value} {u : ByteArray} (h : LWp W0 S p u w) (hb : Below w.heap.size w w') : LWp W0 S p u w' := by
  obtain ⟨v, h1, h2⟩ := h.bld
  exact ⟨h.below.trans (hb.mono h.below.size), ⟨v, block_later h1 hb, row_later h2 hb⟩, block_later h.nodes hb, block_later h.down hb⟩
theorem LW.later {W0 w w' : World} {S : Value} {u : ByteArray} (h : LW W0 S u w) (hb : Below w.heap.size w w') : LW W0 S u w' := h.imp (·.later hb) (·.later hb)
/-- What is no builder and no row of bytes stays. -/
def Keep (W0 w w' : World) : Prop := ∀ g cs t, w.heap[g]? = some (.cells cs t (0, 0)) → t ≠ 5 → g ≠ W0.heap.size + 1 → w'.heap[g]? = some (.cells cs t (0, 0))
theorem Keep.trans {W0 a b c : World} (h : Keep W0 a b) (k : Keep W0 b c) : Keep W0 a c := fun g cs t h1 h2 h3 => k g cs t (h g cs t h1 h2 h3) h2 h3
theorem keep_below {W0 w w' : World} (hb : Below w.heap.size w w') : Keep W0 w w' := fun g cs t h1 _ _ => block_later h1 hb
theorem keep_turned {W0 w w' : World} {co : Obj} (hT : Turned (W0.heap.size + 1) co w w') : Keep W0 w w' := fun g cs t h1 _ h3 => by rw [hT.other g h3]; exact h1
theorem below_turned {W0 w w' : World} {b : Nat} {co : Obj} (h : Below W0.heap.size W0 w) (hT : Turned b co w w') (hb : W0.heap.size ≤ b) : Below W0.heap.size W0 w' :=
  h.trans ⟨hT.os, hT.tape, hT.output, Nat.le_of_eq hT.size.symm, fun i hi => hT.other i (by omega)⟩
theorem copy_lw {W0 w : World} {S : Value} {u : ByteArray} (h : LW W0 S u w) : Calls Tryz.prog 98 #[.pointer (some ⟨W0.heap.size + 1, 0, none⟩)] w fun e w' => e = .returned (.tuple #[]) ∧ LWp W0 S (.pointer (some ⟨W0.heap.size + 1, 0, none⟩)) u w' ∧ Keep W0 w w' := by
  rcases h with h | h
  · obtain ⟨v, h1, h2⟩ := h.bld
    refine (copyFresh_77 _ 2 w (by rw [Lib.cell_of_heap h1]; rfl) (shape_of_heap h1) (Nat.le_refl _) (Lib.frozen_of_heap h1 0)).mono fun e w' ⟨he, hw⟩ => ⟨he, ?_⟩
    have hT := setCell_turned (o := 0) (v := .pointer (some ⟨W0.heap.size + 1, 0, none⟩)) h1
    rw [← hw] at hT
    exact ⟨⟨below_turned h.below hT (by omega), ⟨v, hT.at_, row_turned h2 hT (fun cur e => by rw [h1] at e; cases e)⟩, by rw [hT.other _ (by omega)]; exact h.nodes, by rw [hT.other _ (by omega)]; exact h.down⟩, keep_turned hT⟩
  · obtain ⟨v, h1, h2⟩ := h.bld
    refine (copyUsed_77 _ w (by rw [Lib.cell_of_heap h1]; rfl)).mono fun e w' ⟨he, hw⟩ => ⟨he, ?_⟩
    rw [hw]; exact ⟨h, fun g cs t h1 _ _ => h1⟩
set_option maxHeartbeats 2000000 in
set_option maxRecDepth 100000 in
theorem write_lw {W0 w : World} {S : Value} {u : ByteArray} (h : LW W0 S u w) (s : ByteArray) (hlen : u.size + s.size ≤ 1000000000) :
    Calls Tryz.prog 52 #[.pointer (some ⟨W0.heap.size + 1, 0, none⟩), .string s] w fun e w' => e = .returned (.tuple #[.int .i64 s.size, .nilIface]) ∧ LW W0 S (u ++ s) w' ∧ Keep W0 w w' := by
  obtain ⟨i0, hi, hz0, hz1, hz2⟩ := byteInfo
  go_enter Tryz.func52, Tryz.ntmps52
  go_wp2_with (go_at_call 98; refine (copy_lw h).mono ?_)
  rintro e w1 ⟨rfl, h1, hk1⟩
  obtain ⟨v, hbk, hown⟩ := h1.bld
  have c0 : w1.cell? ⟨W0.heap.size + 1, 0, none⟩ = some (.pointer (some ⟨W0.heap.size + 1, 0, none⟩)) := by rw [Lib.cell_of_heap hbk]; rfl
  have c1 : w1.cell? ⟨W0.heap.size + 1, 1, none⟩ = some v := by rw [Lib.cell_of_heap hbk]; rfl
  go_wp2_with (at_builtin; refine Lib.wpList_append_own_string _ rfl _ _ 75 9 rfl W0.heap.size 5 i0 Tryz.underlying75 Tryz.underlying9 hi hz0 hz1 hz2 _ _ _ rfl hown s rfl ?c3 ?c4 ?c5 ?_)
  case c3 => unfold maxLen; omega
  case c4 => omega
  case c5 => exact h1.below.size
  intro v' w2 hown' hgrow _
  have hlt := h1.size
  have hb2 : w2.heap[W0.heap.size + 1]? = some (.cells #[.pointer (some ⟨W0.heap.size + 1, 0, none⟩), v] 77 (0, 0)) := by
    rw [hgrow.block (W0.heap.size + 1) (by omega) (fun e => row_block hown hbk (by decide) e.symm)]
    exact hbk
  have hn2 := (hgrow.block W0.heap.size (by omega) (fun e => row_block hown h1.nodes (by decide) e.symm)).trans h1.nodes
  have hd2 := (hgrow.block (W0.heap.size + 2) (by omega) (fun e => row_block hown h1.down (by decide) e.symm)).trans h1.down
  have d0 : w2.cell? ⟨W0.heap.size + 1, 0, none⟩ = some (.pointer (some ⟨W0.heap.size + 1, 0, none⟩)) := by rw [Lib.cell_of_heap hb2]; rfl
  have d1 : w2.cell? ⟨W0.heap.size + 1, 1, none⟩ = some v := by rw [Lib.cell_of_heap hb2]; rfl
  have f1 : w2.frozen? ⟨W0.heap.size + 1, 1, none⟩ = false := Lib.frozen_of_heap hb2 1
  have hbel : Below W0.heap.size W0 w2 := h1.below.grown hgrow h1.below.size (fun k hk => (hown.lt k hk).1)
  obtain ⟨ao, n', cap, rfl⟩ : ∃ ao n' cap, v' = .slice ao n' cap := by
    rcases hown'.2 with ⟨hv, _⟩ | ⟨g, cap, cur, hv, _⟩
    · exact ⟨_, _, _, hv⟩
    · exact ⟨_, _, _, hv⟩
  have hk2 : Keep W0 w w2 := hk1.trans fun g cs t h3 h4 h5 => (hgrow.block g (Array.getElem?_eq_some_iff.1 h3).1 (fun e => row_block hown h3 h4 e.symm)).trans h3
  have HK := hid hk2
  have HT := hid (setCell_turned (o := 1) (v := .slice ao n' cap) hb2)
  have Hown := hid hown'
  have Hbel := hid hbel
  have Hn := hid hn2
  have Hd := hid hd2
  have Hb2 := hid hb2
  clear hk1 hk2 hown' hbel hn2 hd2 hb2 hown hgrow h1 hbk h c0 c1
  go_wp2
  go_ret2
  have hT := HT.out
  refine ⟨rfl, .inr ?_, HK.out.trans (keep_turned hT)⟩
  refine ⟨below_turned Hbel.out hT (by omega), ⟨.slice ao n' cap, ?_, ?_⟩, ?_, ?_⟩
  · exact hT.at_
  · rw [strCells_app, ByteArray.size_append]
    exact row_turned Hown.out hT (fun cur e => by rw [Hb2.out] at e; cases e)
  · rw [hT.other _ (by omega)]; exact Hn.out
  · rw [hT.other _ (by omega)]; exact Hd.out
theorem len_lw {W0 w : World} {S : Value} {u : ByteArray} (h : LW W0 S u w) : Calls Tryz.prog 51 #[.pointer (some ⟨W0.heap.size + 1, 0, none⟩)] w fun e w' => e = .returned (.int .i64 u.size) ∧ w' = w := by
  obtain ⟨p, v, h1, h2⟩ : ∃ p v, w.heap[W0.heap.size + 1]? = some (.cells #[p, v] 77 (0, 0)) ∧ w.ownsRow W0.heap.size 5 1 v u.size (Lib.strCells u) := by
    rcases h with h | h <;> obtain ⟨v, h1, h2⟩ := h.bld <;> exact ⟨_, v, h1, h2⟩
  obtain ⟨a, cap, rfl⟩ : ∃ a cap, v = .slice a u.size cap := by
    rcases h2.2 with ⟨rfl, h0⟩ | ⟨g, cap, cur, rfl, _⟩
    · exact ⟨none, 0, by rw [h0]⟩
    · exact ⟨_, cap, rfl⟩
  have c1 : w.cell? ⟨W0.heap.size + 1, 1, none⟩ = some (.slice a u.size cap) := by rw [Lib.cell_of_heap h1]; rfl
  generalize W0.heap.size + 1 = B at *
  clear h1 h2
  go_enter Tryz.func51, Tryz.ntmps51
  go_wp2
  go_ret
  exact ⟨rfl, rfl⟩
theorem string_lw {W0 w : World} {S : Value} {u : ByteArray} (h : LW W0 S u w) (h0 : u.size ≠ 0) (hlen : u.size ≤ 1000000) : Calls Tryz.prog 47 #[.pointer (some ⟨W0.heap.size + 1, 0, none⟩)] w fun e w' => e = .returned (.string u) ∧ Below W0.heap.size W0 w' := by
  obtain ⟨p, v, h1, h2, hb⟩ : ∃ p v, w.heap[W0.heap.size + 1]? = some (.cells #[p, v] 77 (0, 0)) ∧ w.ownsRow W0.heap.size 5 1 v u.size (Lib.strCells u) ∧ Below W0.heap.size W0 w := by
    rcases h with h | h <;> obtain ⟨v, h1, h2⟩ := h.bld <;> exact ⟨_, v, h1, h2, h.below⟩
  rcases h2.2 with ⟨hv, h3⟩ | ⟨g, cap, cur, hv, hBg, hg, hnc, hcm, hcs, htk⟩
  · exact absurd h3 h0
  · subst hv
    have hl : u.data.toList.length = u.size := by simp
    have hc1 : w.cell? ⟨W0.heap.size + 1, 1, none⟩ = some (.slice (some ⟨g, 0, none⟩) u.data.toList.length cap) := by rw [Lib.cell_of_heap h1, hl]; rfl
    refine (stringRow_77 _ g cap cur u.data.toList w hc1 (by omega) (by intro e; rw [e] at hl; simp at hl; omega) (by omega) hg (by omega) (fun j x hx => ?_)).mono fun e w' ⟨he, hw⟩ => ⟨by rw [he], by rw [hw]; exact Lib.below_freeze hb.drew (p := ⟨g, 0, none⟩) hBg _⟩
    have h5 : (Lib.strCells u)[j]? = some (Value.int .u8 x.toNat) := by rw [Lib.strCells_eq, Lib.byteCells, List.getElem?_map, hx]; rfl
    rw [← htk, List.getElem?_take] at h5
    split at h5
    · simpa using h5
    · cases h5
end Go.Proofs.YtjchnliaglecoaaGreatDoor
