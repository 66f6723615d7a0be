/- strings.Builder's copyCheck and String, walked, wherever a builder lies; so the abstract evaluator may run builders. Conditions: none. -/
import Derived.Lib.Builder
import Derived.Lib.AppendStr
import Derived.Lib.UnsafeStr
import Derived.Laws.Externs
import Derived.Deep.QuietTactic
import Derived.BigQuiet
import Derived.Test.YtjchnliaglecoaaGreatDoorAmT
import Derived.Test.YtjchnliaglecoaaGreatDoorBaseBX
import Derived.Test.YtjchnliaglecoaaGreatDoorProg
set_option linter.unusedVariables false
set_option linter.unusedSimpArgs false
namespace Go.Proofs.YtjchnliaglecoaaGreatDoor
open Go Go.RowKit Go.Am
set_option linter.unusedVariables false
set_option linter.unusedSimpArgs false
theorem Tryz.sizeBuilder : (Tryz.prog.info? 77).map (·.size) = some 2 := by kernel_rfl
theorem shape_of_heap {w : World} {b : Nat} {cs : Array Value} {t : TypeId} {fr : Nat × Nat} (h : w.heap[b]? = some (.cells cs t fr)) : w.shape? b = some (t, cs.size) := by
  simp [World.shape?, h]
theorem setCell_turned {w : World} {b o : Nat} {cs : Array Value} {t : TypeId} {v : Value} (h : w.heap[b]? = some (.cells cs t (0, 0))) : Turned b (.cells (cs.setIfInBounds o v) t (0, 0)) w (w.setCell ⟨b, o, none⟩ v) := by
  refine ⟨rfl, rfl, rfl, by simp [World.setCell], ?_, fun i hi => ?_⟩
  · simp [World.setCell, Array.getElem?_modify, h]
  · simp [World.setCell, Array.getElem?_modify, Ne.symm hi]
theorem turned_refl {w : World} {b : Nat} {co : Obj} (h : w.heap[b]? = some co) : Turned b co w w := ⟨rfl, rfl, rfl, rfl, h, fun _ _ => rfl⟩
theorem lies_77 (n : Nat) (h : 2 ≤ n) : liesAt Tryz.prog Tryz.prog.depth 77 (n / Tryz.prog.cellsOf 77) 0 77 1 = true := by
  have hc : Tryz.prog.cellsOf 77 = 2 := by kernel_rfl
  have h1 : liesAt Tryz.prog Tryz.prog.depth 77 1 0 77 1 = true := by kernel_rfl
  rw [hc]
  exact liesAt_more _ _ 1 _ _ _ _ (by omega) h1
set_option maxHeartbeats 1000000 in
set_option maxRecDepth 100000 in
theorem copyUsed_77 (b : Nat) (w : World) (h0 : w.cell? ⟨b, 0, none⟩ = some (.pointer (some ⟨b, 0, none⟩))) :
    Calls Tryz.prog 98 #[.pointer (some ⟨b, 0, none⟩)] w fun e w' => e = .returned (.tuple #[]) ∧ w' = w := by
  obtain ⟨j, hj, _⟩ := Option.map_eq_some_iff.1 Tryz.sizeBuilder
  go_enter Tryz.func98, Tryz.ntmps98
  go_wp2
  rw [Lib.run_neq_ptr_same w _ Tryz.underlying74 hj]
  go_wp2
  go_end0
  exact ⟨rfl, rfl⟩
set_option maxHeartbeats 1000000 in
set_option maxRecDepth 100000 in
theorem copyFresh_77 (b n : Nat) (w : World) (h0 : w.cell? ⟨b, 0, none⟩ = some (.pointer none)) (hsh : w.shape? b = some (77, n)) (hn : 2 ≤ n) (hfz : w.frozen? ⟨b, 0, none⟩ = false) :
    Calls Tryz.prog 98 #[.pointer (some ⟨b, 0, none⟩)] w fun e w' => e = .returned (.tuple #[]) ∧ w' = w.setCell ⟨b, 0, none⟩ (.pointer (some ⟨b, 0, none⟩)) := by
  obtain ⟨j, hj, hjs⟩ := Option.map_eq_some_iff.1 Tryz.sizeBuilder
  go_enter Tryz.func98, Tryz.ntmps98
  go_wp2
  rw [Lib.run_to_unsafe w ⟨b, 0, none⟩ Tryz.underlying74 Tryz.underlying178 hj (by rw [hjs]; decide) hsh (by show 0 < n; omega)]
  simp only [Result.andThen]
  rw [Oper.upon_value]
  go_wp2
  rw [run_callFunc_extern Tryz.func152 (by kernel_rfl) (by kernel_rfl) (by kernel_rfl) (e := Extern.AbiNoEscape.same) (by kernel_rfl)]
  rw [Lib.run_noEscape]
  simp only [Result.andThen]
  rw [Oper.upon_value]
  go_wp2
  rw [Lib.run_from_unsafe w ⟨b, 0, none⟩ Tryz.underlying178 Tryz.underlying74 hj hsh (lies_77 n hn)]
  simp only [Result.andThen]
  rw [Oper.upon_value]
  go_wp2
  go_end0
  exact ⟨rfl, rfl⟩
theorem lies_79 (n : Nat) (h : 4 ≤ n) : liesAt Tryz.prog Tryz.prog.depth 79 (n / Tryz.prog.cellsOf 79) 1 77 1 = true := by
  have hc : Tryz.prog.cellsOf 79 = 4 := by kernel_rfl
  have h1 : liesAt Tryz.prog Tryz.prog.depth 79 1 1 77 1 = true := by kernel_rfl
  rw [hc]
  exact liesAt_more _ _ 1 _ _ _ _ (by omega) h1
set_option maxHeartbeats 1000000 in
set_option maxRecDepth 100000 in
theorem copyUsed_79 (b : Nat) (w : World) (h0 : w.cell? ⟨b, 1, none⟩ = some (.pointer (some ⟨b, 1, none⟩))) :
    Calls Tryz.prog 98 #[.pointer (some ⟨b, 1, none⟩)] w fun e w' => e = .returned (.tuple #[]) ∧ w' = w := by
  obtain ⟨j, hj, _⟩ := Option.map_eq_some_iff.1 Tryz.sizeBuilder
  go_enter Tryz.func98, Tryz.ntmps98
  go_wp2
  rw [Lib.run_neq_ptr_same w _ Tryz.underlying74 hj]
  go_wp2
  go_end0
  exact ⟨rfl, rfl⟩
set_option maxHeartbeats 1000000 in
set_option maxRecDepth 100000 in
theorem copyFresh_79 (b n : Nat) (w : World) (h0 : w.cell? ⟨b, 1, none⟩ = some (.pointer none)) (hsh : w.shape? b = some (79, n)) (hn : 4 ≤ n) (hfz : w.frozen? ⟨b, 1, none⟩ = false) :
    Calls Tryz.prog 98 #[.pointer (some ⟨b, 1, none⟩)] w fun e w' => e = .returned (.tuple #[]) ∧ w' = w.setCell ⟨b, 1, none⟩ (.pointer (some ⟨b, 1, none⟩)) := by
  obtain ⟨j, hj, hjs⟩ := Option.map_eq_some_iff.1 Tryz.sizeBuilder
  go_enter Tryz.func98, Tryz.ntmps98
  go_wp2
  rw [Lib.run_to_unsafe w ⟨b, 1, none⟩ Tryz.underlying74 Tryz.underlying178 hj (by rw [hjs]; decide) hsh (by show 1 < n; omega)]
  simp only [Result.andThen]
  rw [Oper.upon_value]
  go_wp2
  rw [run_callFunc_extern Tryz.func152 (by kernel_rfl) (by kernel_rfl) (by kernel_rfl) (e := Extern.AbiNoEscape.same) (by kernel_rfl)]
  rw [Lib.run_noEscape]
  simp only [Result.andThen]
  rw [Oper.upon_value]
  go_wp2
  rw [Lib.run_from_unsafe w ⟨b, 1, none⟩ Tryz.underlying178 Tryz.underlying74 hj hsh (lies_79 n hn)]
  simp only [Result.andThen]
  rw [Oper.upon_value]
  go_wp2
  go_end0
  exact ⟨rfl, rfl⟩
set_option maxHeartbeats 2000000 in
set_option maxRecDepth 100000 in
theorem stringNil_77 (b c : Nat) (w : World) (h1 : w.cell? ⟨b, 1, none⟩ = some (.slice none 0 c)) :
    Calls Tryz.prog 47 #[.pointer (some ⟨b, 0, none⟩)] w fun e w' => e = .returned (.string ⟨#[]⟩) ∧ w' = w.drew := by
  have c1 : w.drew.cell? ⟨b, 1, none⟩ = some (.slice none 0 c) := h1
  have hUS : ∀ W : World, (Builtin.unsafeString_ #[139, 3] 9 #[.pointer none, .int .i64 0]).run Tryz.prog W = .ok (.string .empty) W := fun W => Lib.run_unsafeString_none W _ _ _ none
  have hSD : (Builtin.unsafeSliceData_ #[75] 139 #[.slice none 0 c]).run Tryz.prog w.drew = .ok (.pointer none) w.drew := rfl
  go_enter Tryz.func47, Tryz.ntmps47
  go_wp2
  go_region
  all_goals (go_wp2; go_ret; exact ⟨rfl, rfl⟩)
set_option maxHeartbeats 2000000 in
set_option maxRecDepth 100000 in
theorem stringRow_77 (b g c : Nat) (ds : Array Value) (l : List UInt8) (w : World) (h1 : w.cell? ⟨b, 1, none⟩ = some (.slice (some ⟨g, 0, none⟩) l.length c)) (hc : c ≠ 0) (h0 : l ≠ []) (h63 : l.length ≤ 1000000) (hg : w.heap[g]? = some (.cells ds 5 (0, 0)))
    (hn : l.length ≤ ds.size) (hcell : ∀ (j : Nat) (x : UInt8), l[j]? = some x → ds[j]? = some (Value.int .u8 x.toNat)) :
    Calls Tryz.prog 47 #[.pointer (some ⟨b, 0, none⟩)] w fun e w' => e = .returned (.string ⟨l.toArray⟩) ∧ w' = w.drew.freeze ⟨g, 0, none⟩ l.length := by
  have c1 : w.drew.cell? ⟨b, 1, none⟩ = some (.slice (some ⟨g, 0, none⟩) l.length c) := h1
  have hSD : (Builtin.unsafeSliceData_ #[75] 139 #[.slice (some ⟨g, 0, none⟩) l.length c]).run Tryz.prog w.drew = .ok (.pointer (some ⟨g, 0, none⟩)) w.drew :=
    Lib.run_unsafeSliceData_row _ _ _ _ _ _ hc
  have hUS : (Builtin.unsafeString_ #[139, 3] 9 #[.pointer (some ⟨g, 0, none⟩), .int .i64 l.length]).run Tryz.prog w.drew = .ok (.string ⟨l.toArray⟩) (w.drew.freeze ⟨g, 0, none⟩ l.length) := by
    have hg' : w.drew.heap[g]? = some (.cells ds 5 (0, 0)) := hg
    refine Lib.run_unsafeString_row w.drew 139 3 9 5 Tryz.underlying139 (by kernel_rfl) g ds.size (by simp [World.shape?, hg']) l h0 hn (by omega) ?_
    intro j x hx
    have : (⟨g, 0, none⟩ : Addr).add j = ⟨g, j, none⟩ := by unfold Addr.add; split <;> simp_all
    rw [this, Lib.cell_of_heap hg']
    exact hcell j x hx
  generalize l.length = n at *
  generalize (⟨l.toArray⟩ : ByteArray) = s at *
  clear hcell h0
  go_enter Tryz.func47, Tryz.ntmps47
  go_wp2
  go_region
  all_goals (go_wp2; go_ret; exact ⟨rfl, rfl⟩)
set_option maxHeartbeats 2000000 in
set_option maxRecDepth 100000 in
theorem stringNil_79 (b c : Nat) (w : World) (h1 : w.cell? ⟨b, 2, none⟩ = some (.slice none 0 c)) :
    Calls Tryz.prog 47 #[.pointer (some ⟨b, 1, none⟩)] w fun e w' => e = .returned (.string ⟨#[]⟩) ∧ w' = w.drew := by
  have c1 : w.drew.cell? ⟨b, 2, none⟩ = some (.slice none 0 c) := h1
  have hUS : ∀ W : World, (Builtin.unsafeString_ #[139, 3] 9 #[.pointer none, .int .i64 0]).run Tryz.prog W = .ok (.string .empty) W := fun W => Lib.run_unsafeString_none W _ _ _ none
  have hSD : (Builtin.unsafeSliceData_ #[75] 139 #[.slice none 0 c]).run Tryz.prog w.drew = .ok (.pointer none) w.drew := rfl
  go_enter Tryz.func47, Tryz.ntmps47
  go_wp2
  go_region
  all_goals (go_wp2; go_ret; exact ⟨rfl, rfl⟩)
set_option maxHeartbeats 2000000 in
set_option maxRecDepth 100000 in
theorem stringRow_79 (b g c : Nat) (ds : Array Value) (l : List UInt8) (w : World) (h1 : w.cell? ⟨b, 2, none⟩ = some (.slice (some ⟨g, 0, none⟩) l.length c)) (hc : c ≠ 0) (h0 : l ≠ []) (h63 : l.length ≤ 1000000) (hg : w.heap[g]? = some (.cells ds 5 (0, 0)))
    (hn : l.length ≤ ds.size) (hcell : ∀ (j : Nat) (x : UInt8), l[j]? = some x → ds[j]? = some (Value.int .u8 x.toNat)) :
    Calls Tryz.prog 47 #[.pointer (some ⟨b, 1, none⟩)] w fun e w' => e = .returned (.string ⟨l.toArray⟩) ∧ w' = w.drew.freeze ⟨g, 0, none⟩ l.length := by
  have c1 : w.drew.cell? ⟨b, 2, none⟩ = some (.slice (some ⟨g, 0, none⟩) l.length c) := h1
  have hSD : (Builtin.unsafeSliceData_ #[75] 139 #[.slice (some ⟨g, 0, none⟩) l.length c]).run Tryz.prog w.drew = .ok (.pointer (some ⟨g, 0, none⟩)) w.drew :=
    Lib.run_unsafeSliceData_row _ _ _ _ _ _ hc
  have hUS : (Builtin.unsafeString_ #[139, 3] 9 #[.pointer (some ⟨g, 0, none⟩), .int .i64 l.length]).run Tryz.prog w.drew = .ok (.string ⟨l.toArray⟩) (w.drew.freeze ⟨g, 0, none⟩ l.length) := by
    have hg' : w.drew.heap[g]? = some (.cells ds 5 (0, 0)) := hg
    refine Lib.run_unsafeString_row w.drew 139 3 9 5 Tryz.underlying139 (by kernel_rfl) g ds.size (by simp [World.shape?, hg']) l h0 hn (by omega) ?_
    intro j x hx
    have : (⟨g, 0, none⟩ : Addr).add j = ⟨g, j, none⟩ := by unfold Addr.add; split <;> simp_all
    rw [this, Lib.cell_of_heap hg']
    exact hcell j x hx
  generalize l.length = n at *
  generalize (⟨l.toArray⟩ : ByteArray) = s at *
  clear hcell h0
  go_enter Tryz.func47, Tryz.ntmps47
  go_wp2
  go_region
  all_goals (go_wp2; go_ret; exact ⟨rfl, rfl⟩)
theorem freeze_turned {w : World} {g n : Nat} {ds : Array Value} {t : TypeId} {fr : Nat × Nat} (h : w.heap[g]? = some (.cells ds t fr)) : ∃ co, Turned g co w (w.freeze ⟨g, 0, none⟩ n) := by
  unfold World.freeze
  split
  · exact ⟨_, turned_refl h⟩
  · have hm : ∀ f : Obj → Obj, (w.heap.modify g f)[g]? = some (f (.cells ds t fr)) := fun f => by
      rw [Array.getElem?_modify, if_pos rfl, h]; rfl
    exact ⟨_, rfl, rfl, rfl, by simp, hm _, fun i hi => by simp [Array.getElem?_modify, Ne.symm hi]⟩
theorem turned_drew {w w' : World} {b : Nat} {co : Obj} (h : Turned b co w.drew w') : Turned b co w w' := ⟨h.os, h.tape, h.output, h.size, h.at_, h.other⟩
def tryzBd : Bd := ⟨98, 47, 5, fun t n o => (Nat.beq t 77 && Nat.beq o 0 && Nat.ble 2 n) || (Nat.beq t 79 && Nat.beq o 1 && Nat.ble 4 n)⟩
theorem tryzBd_cases {t n o : Nat} (h : tryzBd.ok t n o = true) : (t = 77 ∧ o = 0 ∧ 2 ≤ n) ∨ (t = 79 ∧ o = 1 ∧ 4 ≤ n) := by
  have h' : ((Nat.beq t 77 && Nat.beq o 0 && Nat.ble 2 n) || (Nat.beq t 79 && Nat.beq o 1 && Nat.ble 4 n)) = true := h
  simp only [Bool.or_eq_true, Bool.and_eq_true] at h'
  rcases h' with ⟨⟨h1, h2⟩, h3⟩ | ⟨⟨h1, h2⟩, h3⟩
  · exact .inl ⟨Nat.eq_of_beq_eq_true h1, Nat.eq_of_beq_eq_true h2, Nat.le_of_ble_eq_true h3⟩
  · exact .inr ⟨Nat.eq_of_beq_eq_true h1, Nat.eq_of_beq_eq_true h2, Nat.le_of_ble_eq_true h3⟩
theorem tryzBd_ok : BdOK Tryz.prog tryzBd := by
  refine ⟨fun t n n' o hn h => ?_, fun t n o h => ?_, fun w b o t cs h hb hc => ?_, fun w b o t cs h hb hc => ?_, fun w b o t cs c h hb hc => ?_, fun w b o t cs g c ds l h hb hc a1 a2 a3 a4 a5 a6 => ?_⟩
  · rcases tryzBd_cases h with ⟨rfl, rfl, h3⟩ | ⟨rfl, rfl, h3⟩
    · show ((Nat.beq 77 77 && Nat.beq 0 0 && Nat.ble 2 n') || (Nat.beq 77 79 && Nat.beq 0 1 && Nat.ble 4 n')) = true
      rw [Nat.ble_eq_true_of_le (Nat.le_trans h3 hn)]; rfl
    · show ((Nat.beq 79 77 && Nat.beq 1 0 && Nat.ble 2 n') || (Nat.beq 79 79 && Nat.beq 1 1 && Nat.ble 4 n')) = true
      rw [Nat.ble_eq_true_of_le (Nat.le_trans h3 hn)]; rfl
  · rcases tryzBd_cases h with ⟨rfl, rfl, h3⟩ | ⟨rfl, rfl, h3⟩ <;> omega
  · rcases tryzBd_cases h with ⟨rfl, rfl, h3⟩ | ⟨rfl, rfl, h3⟩
    · exact (copyFresh_77 b _ w (by rw [Lib.cell_of_heap hb]; exact hc) (shape_of_heap hb) h3 (Lib.frozen_of_heap hb 0)).mono fun e w' ⟨h1, h2⟩ => ⟨h1, by rw [h2]; exact setCell_turned hb⟩
    · exact (copyFresh_79 b _ w (by rw [Lib.cell_of_heap hb]; exact hc) (shape_of_heap hb) h3 (Lib.frozen_of_heap hb 1)).mono fun e w' ⟨h1, h2⟩ => ⟨h1, by rw [h2]; exact setCell_turned hb⟩
  · rcases tryzBd_cases h with ⟨rfl, rfl, h3⟩ | ⟨rfl, rfl, h3⟩
    · exact (copyUsed_77 b w (by rw [Lib.cell_of_heap hb]; exact hc)).mono fun e w' ⟨h1, h2⟩ => ⟨h1, by rw [h2]; exact turned_refl hb⟩
    · exact (copyUsed_79 b w (by rw [Lib.cell_of_heap hb]; exact hc)).mono fun e w' ⟨h1, h2⟩ => ⟨h1, by rw [h2]; exact turned_refl hb⟩
  · rcases tryzBd_cases h with ⟨rfl, rfl, h3⟩ | ⟨rfl, rfl, h3⟩
    · exact (stringNil_77 b c w (by rw [Lib.cell_of_heap hb]; exact hc)).mono fun e w' ⟨h1, h2⟩ => ⟨h1, by rw [h2]; exact turned_drew (turned_refl hb)⟩
    · exact (stringNil_79 b c w (by rw [Lib.cell_of_heap hb]; exact hc)).mono fun e w' ⟨h1, h2⟩ => ⟨h1, by rw [h2]; exact turned_drew (turned_refl hb)⟩
  · rcases tryzBd_cases h with ⟨rfl, rfl, h3⟩ | ⟨rfl, rfl, h3⟩
    · refine (stringRow_77 b g c ds l w (by rw [Lib.cell_of_heap hb]; exact hc) a1 a2 a3 a4 a5 a6).mono fun e w' ⟨h1, h2⟩ => ⟨h1, ?_⟩
      rw [h2]
      obtain ⟨co, hT⟩ := freeze_turned (w := w.drew) (n := l.length) (show w.drew.heap[g]? = _ from a4)
      exact ⟨co, turned_drew hT⟩
    · refine (stringRow_79 b g c ds l w (by rw [Lib.cell_of_heap hb]; exact hc) a1 a2 a3 a4 a5 a6).mono fun e w' ⟨h1, h2⟩ => ⟨h1, ?_⟩
      rw [h2]
      obtain ⟨co, hT⟩ := freeze_turned (w := w.drew) (n := l.length) (show w.drew.heap[g]? = _ from a4)
      exact ⟨co, turned_drew hT⟩
end Go.Proofs.YtjchnliaglecoaaGreatDoor
