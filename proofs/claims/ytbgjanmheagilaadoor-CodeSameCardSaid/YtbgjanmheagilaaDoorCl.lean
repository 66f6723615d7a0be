/- CodeSame: the law, walked. Conditions: none. -/
import Derived.Test.YtbgjanmheagilaaDoorSw
import Derived.Test.YtbgjanmheagilaaDoorFi
import Derived.Test.YtbgjanmheagilaaDoorA16X
import Derived.Test.YtbgjanmheagilaaDoorAmS
set_option linter.unusedVariables false
set_option linter.unusedSimpArgs false
namespace Go.Proofs.YtbgjanmheagilaaDoor
open Go Go.RowKit Go.Nodes
set_option linter.unusedVariables false
set_option linter.unusedSimpArgs false
theorem wanted_undef {ops : Array Oper} {o : Oper} {j : Nat} {d : Tmp} {ca : Act} {b : Bool} (hg : o.guard = some (j, b)) (ho : (ops[j]?).bind (·.dst) = some d) (hv : ca.tmps.getD d undef = undef) : Region.wanted o (yielded ops ca.tmps) = false := by
  unfold Region.wanted
  rw [hg]
  simp only [yielded, ho, Option.bind_some]
  rw [Array.getD_eq_getD_getElem?] at hv
  cases h : ca.tmps[d]? with
  | none => rfl
  | some v =>
    rw [h] at hv
    simp only [Option.getD_some] at hv
    subst hv
    rfl
def phiC1 (A B : Value) (r : Bool) : Nat → World → Value → Prop
  | 0, w, v => v = A
  | 1, w, v => v = .bool false
  | 2, w, v => v = .bool true
  | 3, w, v => v = .bool true
  | 4, w, v => v = undef
  | 5, w, v => v = undef
  | 6, w, v => v = undef
  | 7, w, v => v = .bool true
  | 8, w, v => v = .bool true
  | 9, w, v => v = undef
  | 10, w, v => v = undef
  | 11, w, v => v = undef
  | 12, w, v => v = undef
  | 13, w, v => v = undef
  | 14, w, v => v = undef
  | 15, w, v => v = undef
  | 16, w, v => v = undef
  | 17, w, v => v = undef
  | 18, w, v => v = undef
  | 19, w, v => v = undef
  | 20, w, v => v = undef
  | 21, w, v => v = .bool true
  | _, w, v => v = .bool true
theorem phiC1_below {A B : Value} {r : Bool} : ∀ (k : Nat) (w w' : World) (v : Value), Below w.heap.size w w' → phiC1 A B r k w v → phiC1 A B r k w' v := by
  intro k w w' v hb h
  unfold phiC1 at *
  split at h <;> first | exact h | exact h
def phiC2 (A B : Value) (r : Bool) : Nat → World → Value → Prop
  | 0, w, v => v = A
  | 1, w, v => v = .bool true
  | 2, w, v => v = .bool false
  | 3, w, v => v = .bool false
  | 4, w, v => v = B
  | 5, w, v => v = .bool false
  | 6, w, v => v = .bool true
  | 7, w, v => v = .bool true
  | 8, w, v => v = .bool true
  | 9, w, v => v = undef
  | 10, w, v => v = undef
  | 11, w, v => v = undef
  | 12, w, v => v = undef
  | 13, w, v => v = undef
  | 14, w, v => v = undef
  | 15, w, v => v = undef
  | 16, w, v => v = undef
  | 17, w, v => v = undef
  | 18, w, v => v = undef
  | 19, w, v => v = undef
  | 20, w, v => v = undef
  | 21, w, v => v = .bool true
  | _, w, v => v = .bool true
theorem phiC2_below {A B : Value} {r : Bool} : ∀ (k : Nat) (w w' : World) (v : Value), Below w.heap.size w w' → phiC2 A B r k w v → phiC2 A B r k w' v := by
  intro k w w' v hb h
  unfold phiC2 at *
  split at h <;> first | exact h | exact h
def phiC3 (A B : Value) (r : Bool) : Nat → World → Value → Prop
  | 0, w, v => v = A
  | 1, w, v => v = .bool true
  | 2, w, v => v = .bool false
  | 3, w, v => v = .bool false
  | 4, w, v => v = B
  | 5, w, v => v = .bool true
  | 6, w, v => v = .bool false
  | 7, w, v => v = .bool false
  | 8, w, v => v = .bool false
  | 9, w, v => v = A
  | 10, w, v => v = B
  | 11, w, v => v = .bool r
  | 12, w, v => v = A
  | 13, w, v => v = B
  | 14, w, v => v = .bool r
  | 15, w, v => v = .bool true
  | 16, w, v => v = .bool true
  | 17, w, v => v = A
  | 18, w, v => v = A
  | 19, w, v => v = .bool true
  | 20, w, v => v = .bool true
  | 21, w, v => v = .bool true
  | _, w, v => v = .bool true
theorem phiC3_below {A B : Value} {r : Bool} : ∀ (k : Nat) (w w' : World) (v : Value), Below w.heap.size w w' → phiC3 A B r k w v → phiC3 A B r k w' v := by
  intro k w w' v hb h
  unfold phiC3 at *
  split at h <;> first | exact h | exact h
set_option maxRecDepth 10000 in
set_option maxHeartbeats 8000000 in
theorem codeSame_any (f g : Nat) (W : World) (va vb : List Value) (A B : Im) (hA : ImAt W f va A) (hB : ImAt W g vb B) :
    Calls Tryd.prog 3 #[.agg va.toArray, .agg vb.toArray] W fun e w' => e = .returned (.bool true) ∧ Below W.heap.size W w' := by
  obtain ⟨fx, hfx⟩ : ∃ b, b = fewIm f A := ⟨_, rfl⟩
  obtain ⟨fy, hfy⟩ : ∃ b, b = fewIm g B := ⟨_, rfl⟩
  obtain ⟨r, hr⟩ : ∃ b, b = eqB A B := ⟨_, rfl⟩
  have G1 : Hid (∀ W', Below W.heap.size W W' → Calls Tryd.prog 9 #[.agg va.toArray] W' fun e w' => e = .returned (.bool fx) ∧ Below W'.heap.size W' w') := hid fun W' h => by rw [hfx]; exact few9 f W' va A (hA.later h)
  have G2 : Hid (∀ W', Below W.heap.size W W' → Calls Tryd.prog 9 #[.agg vb.toArray] W' fun e w' => e = .returned (.bool fy) ∧ Below W'.heap.size W' w') := hid fun W' h => by rw [hfy]; exact few9 g W' vb B (hB.later h)
  have G3 : Hid (∀ W', Below W.heap.size W W' → Calls Tryd.prog 10 #[.agg va.toArray, .agg vb.toArray] W' fun e w' => e = .returned (.bool r) ∧ Below W'.heap.size W' w') := hid fun W' h => by rw [hr]; exact same10 f W' W va A h hA g vb B hB
  have G4 : Hid (∀ W', Below W.heap.size W W' → Calls Tryd.prog 11 #[.agg va.toArray, .agg vb.toArray] W' fun e w' => e = .returned (.bool r) ∧ Below W'.heap.size W' w') := hid fun W' h => by rw [hr]; exact same11 f W' va A (hA.later h) g vb B (hB.later h)
  have G5 : Hid (∀ W', Below W.heap.size W W' → Calls Tryd.prog 10 #[.agg va.toArray, .agg va.toArray] W' fun e w' => e = .returned (.bool true) ∧ Below W'.heap.size W' w') := hid fun W' h => by have := same10 f W' W va A h hA f va A hA; rw [eqB_true rfl] at this; exact this
  obtain ⟨a, b, c, d⟩ := A
  obtain ⟨a', b', c', d'⟩ := B
  obtain ⟨_, _, _, pp, pc, cp, cc, sp, sc, m0, m1, m2, m3, m4, m5, m6, m7, _, rfl, _⟩ := hA
  obtain ⟨_, _, _, pp', pc', cp', cc', sp', sc', m0', m1', m2', m3', m4', m5', m6', m7', _, rfl, _⟩ := hB
  simp only at G1 G2 G3 G4 G5 ⊢
  clear hfx hfy hr
  generalize a.length = n0 at *
  generalize b.length = n1 at *
  generalize c.length = n2 at *
  generalize a'.length = n0' at *
  generalize b'.length = n1' at *
  generalize c'.length = n2' at *
  cases fx with
  | false =>
      go_enter Tryd.func3, Tryd.ntmps3
      go_wp2_with (go_at_call 8; refine (awake16 _).mono ?_; rintro e w' ⟨rfl, hb⟩; obtain ⟨g1, rfl⟩ := bout hb; clear hb)
      have HB : Hid (Below W.heap.size W (grow ((W.alloc (.cells #[.slice pp n0 pc, .slice cp n1 cc, .slice sp n2 sc, .int .u64 m0, .int .u64 m1, .int .u64 m2, .int .u64 m3, .int .u64 m4, .int .u64 m5, .int .u64 m6, .int .u64 m7] 29)).alloc (.cells #[.slice pp' n0' pc', .slice cp' n1' cc', .slice sp' n2' sc', .int .u64 m0', .int .u64 m1', .int .u64 m2', .int .u64 m3', .int .u64 m4', .int .u64 m5', .int .u64 m6', .int .u64 m7'] 29)) g1)) := hid (bG (bA (bA (Below.refl _ _) _) _) _)
      have HP : Hid ((grow ((W.alloc (.cells #[.slice pp n0 pc, .slice cp n1 cc, .slice sp n2 sc, .int .u64 m0, .int .u64 m1, .int .u64 m2, .int .u64 m3, .int .u64 m4, .int .u64 m5, .int .u64 m6, .int .u64 m7] 29)).alloc (.cells #[.slice pp' n0' pc', .slice cp' n1' cc', .slice sp' n2' sc', .int .u64 m0', .int .u64 m1', .int .u64 m2', .int .u64 m3', .int .u64 m4', .int .u64 m5', .int .u64 m6', .int .u64 m7'] 29)) g1).heap[W.heap.size]? = some (.cells #[.slice pp n0 pc, .slice cp n1 cc, .slice sp n2 sc, .int .u64 m0, .int .u64 m1, .int .u64 m2, .int .u64 m3, .int .u64 m4, .int .u64 m5, .int .u64 m6, .int .u64 m7] 29 (0, 0))) := hid (by rw [heap_grow _ _ _ (by simp; omega), heap_alloc_old _ _ (by simp)]; exact heap_alloc_new _ _)
      have HQ : Hid ((grow ((W.alloc (.cells #[.slice pp n0 pc, .slice cp n1 cc, .slice sp n2 sc, .int .u64 m0, .int .u64 m1, .int .u64 m2, .int .u64 m3, .int .u64 m4, .int .u64 m5, .int .u64 m6, .int .u64 m7] 29)).alloc (.cells #[.slice pp' n0' pc', .slice cp' n1' cc', .slice sp' n2' sc', .int .u64 m0', .int .u64 m1', .int .u64 m2', .int .u64 m3', .int .u64 m4', .int .u64 m5', .int .u64 m6', .int .u64 m7'] 29)) g1).heap[W.heap.size + 1]? = some (.cells #[.slice pp' n0' pc', .slice cp' n1' cc', .slice sp' n2' sc', .int .u64 m0', .int .u64 m1', .int .u64 m2', .int .u64 m3', .int .u64 m4', .int .u64 m5', .int .u64 m6', .int .u64 m7'] 29 (0, 0))) := hid (by rw [heap_grow _ _ _ (by simp)]; have := heap_alloc_new (W.alloc (.cells #[.slice pp n0 pc, .slice cp n1 cc, .slice sp n2 sc, .int .u64 m0, .int .u64 m1, .int .u64 m2, .int .u64 m3, .int .u64 m4, .int .u64 m5, .int .u64 m6, .int .u64 m7] 29)) (.cells #[.slice pp' n0' pc', .slice cp' n1' cc', .slice sp' n2' sc', .int .u64 m0', .int .u64 m1', .int .u64 m2', .int .u64 m3', .int .u64 m4', .int .u64 m5', .int .u64 m6', .int .u64 m7'] 29); simpa using this)
      generalize (grow ((W.alloc (.cells #[.slice pp n0 pc, .slice cp n1 cc, .slice sp n2 sc, .int .u64 m0, .int .u64 m1, .int .u64 m2, .int .u64 m3, .int .u64 m4, .int .u64 m5, .int .u64 m6, .int .u64 m7] 29)).alloc (.cells #[.slice pp' n0' pc', .slice cp' n1' cc', .slice sp' n2' sc', .int .u64 m0', .int .u64 m1', .int .u64 m2', .int .u64 m3', .int .u64 m4', .int .u64 m5', .int .u64 m6', .int .u64 m7'] 29)) g1) = W1 at *
      have G1 : Hid (∀ w1, Below W1.heap.size W1 w1 → Calls Tryd.prog 9 #[.agg #[.slice pp n0 pc, .slice cp n1 cc, .slice sp n2 sc, .int .u64 m0, .int .u64 m1, .int .u64 m2, .int .u64 m3, .int .u64 m4, .int .u64 m5, .int .u64 m6, .int .u64 m7]] w1 fun e w' => e = .returned (.bool false) ∧ Below w1.heap.size w1 w') := hid fun w1 h => G1.out w1 (HB.out.trans (h.mono HB.out.size))
      have G2 : Hid (∀ w1, Below W1.heap.size W1 w1 → Calls Tryd.prog 9 #[.agg #[.slice pp' n0' pc', .slice cp' n1' cc', .slice sp' n2' sc', .int .u64 m0', .int .u64 m1', .int .u64 m2', .int .u64 m3', .int .u64 m4', .int .u64 m5', .int .u64 m6', .int .u64 m7']] w1 fun e w' => e = .returned (.bool fy) ∧ Below w1.heap.size w1 w') := hid fun w1 h => G2.out w1 (HB.out.trans (h.mono HB.out.size))
      have G3 : Hid (∀ w1, Below W1.heap.size W1 w1 → Calls Tryd.prog 10 #[.agg #[.slice pp n0 pc, .slice cp n1 cc, .slice sp n2 sc, .int .u64 m0, .int .u64 m1, .int .u64 m2, .int .u64 m3, .int .u64 m4, .int .u64 m5, .int .u64 m6, .int .u64 m7], .agg #[.slice pp' n0' pc', .slice cp' n1' cc', .slice sp' n2' sc', .int .u64 m0', .int .u64 m1', .int .u64 m2', .int .u64 m3', .int .u64 m4', .int .u64 m5', .int .u64 m6', .int .u64 m7']] w1 fun e w' => e = .returned (.bool r) ∧ Below w1.heap.size w1 w') := hid fun w1 h => G3.out w1 (HB.out.trans (h.mono HB.out.size))
      have G4 : Hid (∀ w1, Below W1.heap.size W1 w1 → Calls Tryd.prog 11 #[.agg #[.slice pp n0 pc, .slice cp n1 cc, .slice sp n2 sc, .int .u64 m0, .int .u64 m1, .int .u64 m2, .int .u64 m3, .int .u64 m4, .int .u64 m5, .int .u64 m6, .int .u64 m7], .agg #[.slice pp' n0' pc', .slice cp' n1' cc', .slice sp' n2' sc', .int .u64 m0', .int .u64 m1', .int .u64 m2', .int .u64 m3', .int .u64 m4', .int .u64 m5', .int .u64 m6', .int .u64 m7']] w1 fun e w' => e = .returned (.bool r) ∧ Below w1.heap.size w1 w') := hid fun w1 h => G4.out w1 (HB.out.trans (h.mono HB.out.size))
      have G5 : Hid (∀ w1, Below W1.heap.size W1 w1 → Calls Tryd.prog 10 #[.agg #[.slice pp n0 pc, .slice cp n1 cc, .slice sp n2 sc, .int .u64 m0, .int .u64 m1, .int .u64 m2, .int .u64 m3, .int .u64 m4, .int .u64 m5, .int .u64 m6, .int .u64 m7], .agg #[.slice pp n0 pc, .slice cp n1 cc, .slice sp n2 sc, .int .u64 m0, .int .u64 m1, .int .u64 m2, .int .u64 m3, .int .u64 m4, .int .u64 m5, .int .u64 m6, .int .u64 m7]] w1 fun e w' => e = .returned (.bool true) ∧ Below w1.heap.size w1 w') := hid fun w1 h => G5.out w1 (HB.out.trans (h.mono HB.out.size))
      refine Am.draw_phi (Φ := phiC1 (.agg #[.slice pp n0 pc, .slice cp n1 cc, .slice sp n2 sc, .int .u64 m0, .int .u64 m1, .int .u64 m2, .int .u64 m3, .int .u64 m4, .int .u64 m5, .int .u64 m6, .int .u64 m7]) (.agg #[.slice pp' n0' pc', .slice cp' n1' cc', .slice sp' n2' sc', .int .u64 m0', .int .u64 m1', .int .u64 m2', .int .u64 m3', .int .u64 m4', .int .u64 m5', .int .u64 m6', .int .u64 m7']) r) (by kernel_rfl) (by kernel_rfl) (by kernel_rfl) phiC1_below ?_ ?_
      · intro kq o ca w1 ho hb hlook K hK
        have hb0 : Below W1.heap.size W1 w1 := hb.trans (Below.refl _ _)
        have hP1 : w1.heap[W.heap.size]? = some (.cells #[.slice pp n0 pc, .slice cp n1 cc, .slice sp n2 sc, .int .u64 m0, .int .u64 m1, .int .u64 m2, .int .u64 m3, .int .u64 m4, .int .u64 m5, .int .u64 m6, .int .u64 m7] 29 (0, 0)) := (hb0.block _ (Array.getElem?_eq_some_iff.1 HP.out).1).trans HP.out
        have hP2 : w1.heap[W.heap.size + 1]? = some (.cells #[.slice pp' n0' pc', .slice cp' n1' cc', .slice sp' n2' sc', .int .u64 m0', .int .u64 m1', .int .u64 m2', .int .u64 m3', .int .u64 m4', .int .u64 m5', .int .u64 m6', .int .u64 m7'] 29 (0, 0)) := (hb0.block _ (Array.getElem?_eq_some_iff.1 HQ.out).1).trans HQ.out
        have hfn : ∀ f, ca.eval (.func f) = .func (.func f) #[] #[] := fun _ => rfl
        have hcs : ∀ v, ca.eval (.const v) = v := fun _ => rfl
        rcases kq with _ | _ | _ | _ | _ | _ | _ | _ | _ | _ | _ | _ | _ | _ | _ | _ | _ | _ | _ | _ | _ | _ | _ | kq
        · cases ho
          have h2 := Am.eval_tmp (Am.look_old (t := 2) hlook (by kernel_rfl) (by kernel_rfl) rfl)
          have hx0 : w1.cell? ⟨W.heap.size, 0, none⟩ = some (.slice pp n0 pc) := by simp [World.cell?, hP1]
          have hx1 : w1.cell? ⟨W.heap.size, 1, none⟩ = some (.slice cp n1 cc) := by simp [World.cell?, hP1]
          have hx2 : w1.cell? ⟨W.heap.size, 2, none⟩ = some (.slice sp n2 sc) := by simp [World.cell?, hP1]
          have hx3 : w1.cell? ⟨W.heap.size, 3, none⟩ = some (.int .u64 m0) := by simp [World.cell?, hP1]
          have hx4 : w1.cell? ⟨W.heap.size, 4, none⟩ = some (.int .u64 m1) := by simp [World.cell?, hP1]
          have hx5 : w1.cell? ⟨W.heap.size, 5, none⟩ = some (.int .u64 m2) := by simp [World.cell?, hP1]
          have hx6 : w1.cell? ⟨W.heap.size, 6, none⟩ = some (.int .u64 m3) := by simp [World.cell?, hP1]
          have hx7 : w1.cell? ⟨W.heap.size, 7, none⟩ = some (.int .u64 m4) := by simp [World.cell?, hP1]
          have hx8 : w1.cell? ⟨W.heap.size, 8, none⟩ = some (.int .u64 m5) := by simp [World.cell?, hP1]
          have hx9 : w1.cell? ⟨W.heap.size, 9, none⟩ = some (.int .u64 m6) := by simp [World.cell?, hP1]
          have hx10 : w1.cell? ⟨W.heap.size, 10, none⟩ = some (.int .u64 m7) := by simp [World.cell?, hP1]
          refine Am.wpOp_run rfl rfl (Am.wp_value (v := .agg #[.slice pp n0 pc, .slice cp n1 cc, .slice sp n2 sc, .int .u64 m0, .int .u64 m1, .int .u64 m2, .int .u64 m3, .int .u64 m4, .int .u64 m5, .int .u64 m6, .int .u64 m7]) ?_ (hK _ _ (Below.refl _ _) rfl))
          generalize ca.eval = ev at *
          simp [go_sem, execOp, hfn, hcs, h2, hx0, hx1, hx2, hx3, hx4, hx5, hx6, hx7, hx8, hx9, hx10]
        · cases ho
          have h7 : (ca.tmps.getD 7 undef) = (.agg #[.slice pp n0 pc, .slice cp n1 cc, .slice sp n2 sc, .int .u64 m0, .int .u64 m1, .int .u64 m2, .int .u64 m3, .int .u64 m4, .int .u64 m5, .int .u64 m6, .int .u64 m7]) := Am.look_of (j := 0) hlook (by kernel_rfl) rfl rfl
          replace h7 := Am.eval_tmp h7
          refine Am.wpOp_run rfl rfl (Am.wp_enter (w' := w1) (f := 9) (args := #[.agg #[.slice pp n0 pc, .slice cp n1 cc, .slice sp n2 sc, .int .u64 m0, .int .u64 m1, .int .u64 m2, .int .u64 m3, .int .u64 m4, .int .u64 m5, .int .u64 m6, .int .u64 m7]]) ?_ ((G1.out w1 hb0).mono ?_))
          · generalize ca.eval = ev at *
            simp [go_sem, execOp, hfn, hcs, h7]
          · rintro e w' ⟨rfl, hb'⟩
            exact ⟨_, rfl, hK _ _ hb' rfl⟩
        · cases ho
          have h8 : (ca.tmps.getD 8 undef) = .bool false := Am.look_of (j := 1) hlook (by kernel_rfl) rfl rfl
          replace h8 := Am.eval_tmp h8
          refine Am.wpOp_run rfl rfl (Am.wp_value (v := .bool true) ?_ (hK _ _ (Below.refl _ _) rfl))
          generalize ca.eval = ev at *
          simp [go_sem, execOp, hfn, hcs, h8]
        · cases ho
          have h9 : (ca.tmps.getD 9 undef) = .bool true := Am.look_of (j := 2) hlook (by kernel_rfl) rfl rfl
          replace h9 := Am.eval_tmp h9
          refine Am.wpOp_run rfl rfl (Am.wp_value (v := .bool true) ?_ (hK _ _ (Below.refl _ _) rfl))
          generalize ca.eval = ev at *
          simp [go_sem, execOp, hfn, hcs, h9]
        · cases ho
          have hg : ca.tmps.getD 10 undef = .bool true := Am.look_of (j := 3) hlook (by kernel_rfl) rfl rfl
          exact Am.wpOp_skip_g rfl rfl rfl hg rfl (hK _ _ (Below.refl _ _) rfl)
        · cases ho
          have hg : ca.tmps.getD 10 undef = .bool true := Am.look_of (j := 3) hlook (by kernel_rfl) rfl rfl
          exact Am.wpOp_skip_g rfl rfl rfl hg rfl (hK _ _ (Below.refl _ _) rfl)
        · cases ho
          have hg : ca.tmps.getD 10 undef = .bool true := Am.look_of (j := 3) hlook (by kernel_rfl) rfl rfl
          exact Am.wpOp_skip_g rfl rfl rfl hg rfl (hK _ _ (Below.refl _ _) rfl)
        · cases ho
          have h10 : (ca.tmps.getD 10 undef) = .bool true := Am.look_of (j := 3) hlook (by kernel_rfl) rfl rfl
          replace h10 := Am.eval_tmp h10
          refine Am.wpOp_run rfl rfl (Am.wp_value (v := .bool true) ?_ (hK _ _ (Below.refl _ _) rfl))
          generalize ca.eval = ev at *
          simp [go_sem, execOp, hfn, hcs, h10]
        · cases ho
          have h14 : (ca.tmps.getD 14 undef) = .bool true := Am.look_of (j := 7) hlook (by kernel_rfl) rfl rfl
          replace h14 := Am.eval_tmp h14
          refine Am.wpOp_run rfl rfl (Am.wp_value (v := .bool true) ?_ (hK _ _ (Below.refl _ _) rfl))
          generalize ca.eval = ev at *
          simp [go_sem, execOp, hfn, hcs, h14]
        · cases ho
          have hg : ca.tmps.getD 15 undef = .bool true := Am.look_of (j := 8) hlook (by kernel_rfl) rfl rfl
          exact Am.wpOp_skip_g rfl rfl rfl hg rfl (hK _ _ (Below.refl _ _) rfl)
        · cases ho
          have hg : ca.tmps.getD 15 undef = .bool true := Am.look_of (j := 8) hlook (by kernel_rfl) rfl rfl
          exact Am.wpOp_skip_g rfl rfl rfl hg rfl (hK _ _ (Below.refl _ _) rfl)
        · cases ho
          have hg : ca.tmps.getD 15 undef = .bool true := Am.look_of (j := 8) hlook (by kernel_rfl) rfl rfl
          exact Am.wpOp_skip_g rfl rfl rfl hg rfl (hK _ _ (Below.refl _ _) rfl)
        · cases ho
          have hg : ca.tmps.getD 15 undef = .bool true := Am.look_of (j := 8) hlook (by kernel_rfl) rfl rfl
          exact Am.wpOp_skip_g rfl rfl rfl hg rfl (hK _ _ (Below.refl _ _) rfl)
        · cases ho
          have hg : ca.tmps.getD 15 undef = .bool true := Am.look_of (j := 8) hlook (by kernel_rfl) rfl rfl
          exact Am.wpOp_skip_g rfl rfl rfl hg rfl (hK _ _ (Below.refl _ _) rfl)
        · cases ho
          have hg : ca.tmps.getD 15 undef = .bool true := Am.look_of (j := 8) hlook (by kernel_rfl) rfl rfl
          exact Am.wpOp_skip_g rfl rfl rfl hg rfl (hK _ _ (Below.refl _ _) rfl)
        · cases ho
          have hg : ca.tmps.getD 15 undef = .bool true := Am.look_of (j := 8) hlook (by kernel_rfl) rfl rfl
          exact Am.wpOp_skip_g rfl rfl rfl hg rfl (hK _ _ (Below.refl _ _) rfl)
        · cases ho
          have hg : ca.tmps.getD 15 undef = .bool true := Am.look_of (j := 8) hlook (by kernel_rfl) rfl rfl
          exact Am.wpOp_skip_g rfl rfl rfl hg rfl (hK _ _ (Below.refl _ _) rfl)
        · cases ho
          have hg : ca.tmps.getD 23 undef = undef := Am.look_of (j := 16) hlook (by kernel_rfl) rfl rfl
          exact Am.wpOp_skip rfl (wanted_undef rfl rfl hg) (hK _ _ (Below.refl _ _) rfl)
        · cases ho
          have hg : ca.tmps.getD 23 undef = undef := Am.look_of (j := 16) hlook (by kernel_rfl) rfl rfl
          exact Am.wpOp_skip rfl (wanted_undef rfl rfl hg) (hK _ _ (Below.refl _ _) rfl)
        · cases ho
          have hg : ca.tmps.getD 23 undef = undef := Am.look_of (j := 16) hlook (by kernel_rfl) rfl rfl
          exact Am.wpOp_skip rfl (wanted_undef rfl rfl hg) (hK _ _ (Below.refl _ _) rfl)
        · cases ho
          have hg : ca.tmps.getD 15 undef = .bool true := Am.look_of (j := 8) hlook (by kernel_rfl) rfl rfl
          exact Am.wpOp_skip_g rfl rfl rfl hg rfl (hK _ _ (Below.refl _ _) rfl)
        · cases ho
          have h15 : (ca.tmps.getD 15 undef) = .bool true := Am.look_of (j := 8) hlook (by kernel_rfl) rfl rfl
          replace h15 := Am.eval_tmp h15
          refine Am.wpOp_run rfl rfl (Am.wp_value (v := .bool true) ?_ (hK _ _ (Below.refl _ _) rfl))
          generalize ca.eval = ev at *
          simp [go_sem, execOp, hfn, hcs, h15]
        · cases ho
          have h28 : (ca.tmps.getD 28 undef) = .bool true := Am.look_of (j := 21) hlook (by kernel_rfl) rfl rfl
          replace h28 := Am.eval_tmp h28
          refine Am.wpOp_run rfl rfl (Am.wp_value (v := .bool true) ?_ (hK _ _ (Below.refl _ _) rfl))
          generalize ca.eval = ev at *
          simp [go_sem, execOp, hfn, hcs, h28]
        · simp at ho
      · intro ca w1 hb hd hs hphi hoth
        have h4 : ca.tmps.getD 4 undef = .bool true := hphi 22 _ 4 rfl rfl
        go_wp2
        refine bodyPost_ret (results_tmp (t := 4) (by rfl) _ _ _) hd ?_
        exact ⟨by rw [h4], HB.out.trans (hb.mono HB.out.size)⟩
  | true =>
    cases fy with
    | false =>
      go_enter Tryd.func3, Tryd.ntmps3
      go_wp2_with (go_at_call 8; refine (awake16 _).mono ?_; rintro e w' ⟨rfl, hb⟩; obtain ⟨g1, rfl⟩ := bout hb; clear hb)
      have HB : Hid (Below W.heap.size W (grow ((W.alloc (.cells #[.slice pp n0 pc, .slice cp n1 cc, .slice sp n2 sc, .int .u64 m0, .int .u64 m1, .int .u64 m2, .int .u64 m3, .int .u64 m4, .int .u64 m5, .int .u64 m6, .int .u64 m7] 29)).alloc (.cells #[.slice pp' n0' pc', .slice cp' n1' cc', .slice sp' n2' sc', .int .u64 m0', .int .u64 m1', .int .u64 m2', .int .u64 m3', .int .u64 m4', .int .u64 m5', .int .u64 m6', .int .u64 m7'] 29)) g1)) := hid (bG (bA (bA (Below.refl _ _) _) _) _)
      have HP : Hid ((grow ((W.alloc (.cells #[.slice pp n0 pc, .slice cp n1 cc, .slice sp n2 sc, .int .u64 m0, .int .u64 m1, .int .u64 m2, .int .u64 m3, .int .u64 m4, .int .u64 m5, .int .u64 m6, .int .u64 m7] 29)).alloc (.cells #[.slice pp' n0' pc', .slice cp' n1' cc', .slice sp' n2' sc', .int .u64 m0', .int .u64 m1', .int .u64 m2', .int .u64 m3', .int .u64 m4', .int .u64 m5', .int .u64 m6', .int .u64 m7'] 29)) g1).heap[W.heap.size]? = some (.cells #[.slice pp n0 pc, .slice cp n1 cc, .slice sp n2 sc, .int .u64 m0, .int .u64 m1, .int .u64 m2, .int .u64 m3, .int .u64 m4, .int .u64 m5, .int .u64 m6, .int .u64 m7] 29 (0, 0))) := hid (by rw [heap_grow _ _ _ (by simp; omega), heap_alloc_old _ _ (by simp)]; exact heap_alloc_new _ _)
      have HQ : Hid ((grow ((W.alloc (.cells #[.slice pp n0 pc, .slice cp n1 cc, .slice sp n2 sc, .int .u64 m0, .int .u64 m1, .int .u64 m2, .int .u64 m3, .int .u64 m4, .int .u64 m5, .int .u64 m6, .int .u64 m7] 29)).alloc (.cells #[.slice pp' n0' pc', .slice cp' n1' cc', .slice sp' n2' sc', .int .u64 m0', .int .u64 m1', .int .u64 m2', .int .u64 m3', .int .u64 m4', .int .u64 m5', .int .u64 m6', .int .u64 m7'] 29)) g1).heap[W.heap.size + 1]? = some (.cells #[.slice pp' n0' pc', .slice cp' n1' cc', .slice sp' n2' sc', .int .u64 m0', .int .u64 m1', .int .u64 m2', .int .u64 m3', .int .u64 m4', .int .u64 m5', .int .u64 m6', .int .u64 m7'] 29 (0, 0))) := hid (by rw [heap_grow _ _ _ (by simp)]; have := heap_alloc_new (W.alloc (.cells #[.slice pp n0 pc, .slice cp n1 cc, .slice sp n2 sc, .int .u64 m0, .int .u64 m1, .int .u64 m2, .int .u64 m3, .int .u64 m4, .int .u64 m5, .int .u64 m6, .int .u64 m7] 29)) (.cells #[.slice pp' n0' pc', .slice cp' n1' cc', .slice sp' n2' sc', .int .u64 m0', .int .u64 m1', .int .u64 m2', .int .u64 m3', .int .u64 m4', .int .u64 m5', .int .u64 m6', .int .u64 m7'] 29); simpa using this)
      generalize (grow ((W.alloc (.cells #[.slice pp n0 pc, .slice cp n1 cc, .slice sp n2 sc, .int .u64 m0, .int .u64 m1, .int .u64 m2, .int .u64 m3, .int .u64 m4, .int .u64 m5, .int .u64 m6, .int .u64 m7] 29)).alloc (.cells #[.slice pp' n0' pc', .slice cp' n1' cc', .slice sp' n2' sc', .int .u64 m0', .int .u64 m1', .int .u64 m2', .int .u64 m3', .int .u64 m4', .int .u64 m5', .int .u64 m6', .int .u64 m7'] 29)) g1) = W1 at *
      have G1 : Hid (∀ w1, Below W1.heap.size W1 w1 → Calls Tryd.prog 9 #[.agg #[.slice pp n0 pc, .slice cp n1 cc, .slice sp n2 sc, .int .u64 m0, .int .u64 m1, .int .u64 m2, .int .u64 m3, .int .u64 m4, .int .u64 m5, .int .u64 m6, .int .u64 m7]] w1 fun e w' => e = .returned (.bool true) ∧ Below w1.heap.size w1 w') := hid fun w1 h => G1.out w1 (HB.out.trans (h.mono HB.out.size))
      have G2 : Hid (∀ w1, Below W1.heap.size W1 w1 → Calls Tryd.prog 9 #[.agg #[.slice pp' n0' pc', .slice cp' n1' cc', .slice sp' n2' sc', .int .u64 m0', .int .u64 m1', .int .u64 m2', .int .u64 m3', .int .u64 m4', .int .u64 m5', .int .u64 m6', .int .u64 m7']] w1 fun e w' => e = .returned (.bool false) ∧ Below w1.heap.size w1 w') := hid fun w1 h => G2.out w1 (HB.out.trans (h.mono HB.out.size))
      have G3 : Hid (∀ w1, Below W1.heap.size W1 w1 → Calls Tryd.prog 10 #[.agg #[.slice pp n0 pc, .slice cp n1 cc, .slice sp n2 sc, .int .u64 m0, .int .u64 m1, .int .u64 m2, .int .u64 m3, .int .u64 m4, .int .u64 m5, .int .u64 m6, .int .u64 m7], .agg #[.slice pp' n0' pc', .slice cp' n1' cc', .slice sp' n2' sc', .int .u64 m0', .int .u64 m1', .int .u64 m2', .int .u64 m3', .int .u64 m4', .int .u64 m5', .int .u64 m6', .int .u64 m7']] w1 fun e w' => e = .returned (.bool r) ∧ Below w1.heap.size w1 w') := hid fun w1 h => G3.out w1 (HB.out.trans (h.mono HB.out.size))
      have G4 : Hid (∀ w1, Below W1.heap.size W1 w1 → Calls Tryd.prog 11 #[.agg #[.slice pp n0 pc, .slice cp n1 cc, .slice sp n2 sc, .int .u64 m0, .int .u64 m1, .int .u64 m2, .int .u64 m3, .int .u64 m4, .int .u64 m5, .int .u64 m6, .int .u64 m7], .agg #[.slice pp' n0' pc', .slice cp' n1' cc', .slice sp' n2' sc', .int .u64 m0', .int .u64 m1', .int .u64 m2', .int .u64 m3', .int .u64 m4', .int .u64 m5', .int .u64 m6', .int .u64 m7']] w1 fun e w' => e = .returned (.bool r) ∧ Below w1.heap.size w1 w') := hid fun w1 h => G4.out w1 (HB.out.trans (h.mono HB.out.size))
      have G5 : Hid (∀ w1, Below W1.heap.size W1 w1 → Calls Tryd.prog 10 #[.agg #[.slice pp n0 pc, .slice cp n1 cc, .slice sp n2 sc, .int .u64 m0, .int .u64 m1, .int .u64 m2, .int .u64 m3, .int .u64 m4, .int .u64 m5, .int .u64 m6, .int .u64 m7], .agg #[.slice pp n0 pc, .slice cp n1 cc, .slice sp n2 sc, .int .u64 m0, .int .u64 m1, .int .u64 m2, .int .u64 m3, .int .u64 m4, .int .u64 m5, .int .u64 m6, .int .u64 m7]] w1 fun e w' => e = .returned (.bool true) ∧ Below w1.heap.size w1 w') := hid fun w1 h => G5.out w1 (HB.out.trans (h.mono HB.out.size))
      refine Am.draw_phi (Φ := phiC2 (.agg #[.slice pp n0 pc, .slice cp n1 cc, .slice sp n2 sc, .int .u64 m0, .int .u64 m1, .int .u64 m2, .int .u64 m3, .int .u64 m4, .int .u64 m5, .int .u64 m6, .int .u64 m7]) (.agg #[.slice pp' n0' pc', .slice cp' n1' cc', .slice sp' n2' sc', .int .u64 m0', .int .u64 m1', .int .u64 m2', .int .u64 m3', .int .u64 m4', .int .u64 m5', .int .u64 m6', .int .u64 m7']) r) (by kernel_rfl) (by kernel_rfl) (by kernel_rfl) phiC2_below ?_ ?_
      · intro kq o ca w1 ho hb hlook K hK
        have hb0 : Below W1.heap.size W1 w1 := hb.trans (Below.refl _ _)
        have hP1 : w1.heap[W.heap.size]? = some (.cells #[.slice pp n0 pc, .slice cp n1 cc, .slice sp n2 sc, .int .u64 m0, .int .u64 m1, .int .u64 m2, .int .u64 m3, .int .u64 m4, .int .u64 m5, .int .u64 m6, .int .u64 m7] 29 (0, 0)) := (hb0.block _ (Array.getElem?_eq_some_iff.1 HP.out).1).trans HP.out
        have hP2 : w1.heap[W.heap.size + 1]? = some (.cells #[.slice pp' n0' pc', .slice cp' n1' cc', .slice sp' n2' sc', .int .u64 m0', .int .u64 m1', .int .u64 m2', .int .u64 m3', .int .u64 m4', .int .u64 m5', .int .u64 m6', .int .u64 m7'] 29 (0, 0)) := (hb0.block _ (Array.getElem?_eq_some_iff.1 HQ.out).1).trans HQ.out
        have hfn : ∀ f, ca.eval (.func f) = .func (.func f) #[] #[] := fun _ => rfl
        have hcs : ∀ v, ca.eval (.const v) = v := fun _ => rfl
        rcases kq with _ | _ | _ | _ | _ | _ | _ | _ | _ | _ | _ | _ | _ | _ | _ | _ | _ | _ | _ | _ | _ | _ | _ | kq
        · cases ho
          have h2 := Am.eval_tmp (Am.look_old (t := 2) hlook (by kernel_rfl) (by kernel_rfl) rfl)
          have hx0 : w1.cell? ⟨W.heap.size, 0, none⟩ = some (.slice pp n0 pc) := by simp [World.cell?, hP1]
          have hx1 : w1.cell? ⟨W.heap.size, 1, none⟩ = some (.slice cp n1 cc) := by simp [World.cell?, hP1]
          have hx2 : w1.cell? ⟨W.heap.size, 2, none⟩ = some (.slice sp n2 sc) := by simp [World.cell?, hP1]
          have hx3 : w1.cell? ⟨W.heap.size, 3, none⟩ = some (.int .u64 m0) := by simp [World.cell?, hP1]
          have hx4 : w1.cell? ⟨W.heap.size, 4, none⟩ = some (.int .u64 m1) := by simp [World.cell?, hP1]
          have hx5 : w1.cell? ⟨W.heap.size, 5, none⟩ = some (.int .u64 m2) := by simp [World.cell?, hP1]
          have hx6 : w1.cell? ⟨W.heap.size, 6, none⟩ = some (.int .u64 m3) := by simp [World.cell?, hP1]
          have hx7 : w1.cell? ⟨W.heap.size, 7, none⟩ = some (.int .u64 m4) := by simp [World.cell?, hP1]
          have hx8 : w1.cell? ⟨W.heap.size, 8, none⟩ = some (.int .u64 m5) := by simp [World.cell?, hP1]
          have hx9 : w1.cell? ⟨W.heap.size, 9, none⟩ = some (.int .u64 m6) := by simp [World.cell?, hP1]
          have hx10 : w1.cell? ⟨W.heap.size, 10, none⟩ = some (.int .u64 m7) := by simp [World.cell?, hP1]
          refine Am.wpOp_run rfl rfl (Am.wp_value (v := .agg #[.slice pp n0 pc, .slice cp n1 cc, .slice sp n2 sc, .int .u64 m0, .int .u64 m1, .int .u64 m2, .int .u64 m3, .int .u64 m4, .int .u64 m5, .int .u64 m6, .int .u64 m7]) ?_ (hK _ _ (Below.refl _ _) rfl))
          generalize ca.eval = ev at *
          simp [go_sem, execOp, hfn, hcs, h2, hx0, hx1, hx2, hx3, hx4, hx5, hx6, hx7, hx8, hx9, hx10]
        · cases ho
          have h7 : (ca.tmps.getD 7 undef) = (.agg #[.slice pp n0 pc, .slice cp n1 cc, .slice sp n2 sc, .int .u64 m0, .int .u64 m1, .int .u64 m2, .int .u64 m3, .int .u64 m4, .int .u64 m5, .int .u64 m6, .int .u64 m7]) := Am.look_of (j := 0) hlook (by kernel_rfl) rfl rfl
          replace h7 := Am.eval_tmp h7
          refine Am.wpOp_run rfl rfl (Am.wp_enter (w' := w1) (f := 9) (args := #[.agg #[.slice pp n0 pc, .slice cp n1 cc, .slice sp n2 sc, .int .u64 m0, .int .u64 m1, .int .u64 m2, .int .u64 m3, .int .u64 m4, .int .u64 m5, .int .u64 m6, .int .u64 m7]]) ?_ ((G1.out w1 hb0).mono ?_))
          · generalize ca.eval = ev at *
            simp [go_sem, execOp, hfn, hcs, h7]
          · rintro e w' ⟨rfl, hb'⟩
            exact ⟨_, rfl, hK _ _ hb' rfl⟩
        · cases ho
          have h8 : (ca.tmps.getD 8 undef) = .bool true := Am.look_of (j := 1) hlook (by kernel_rfl) rfl rfl
          replace h8 := Am.eval_tmp h8
          refine Am.wpOp_run rfl rfl (Am.wp_value (v := .bool false) ?_ (hK _ _ (Below.refl _ _) rfl))
          generalize ca.eval = ev at *
          simp [go_sem, execOp, hfn, hcs, h8]
        · cases ho
          have h9 : (ca.tmps.getD 9 undef) = .bool false := Am.look_of (j := 2) hlook (by kernel_rfl) rfl rfl
          replace h9 := Am.eval_tmp h9
          refine Am.wpOp_run rfl rfl (Am.wp_value (v := .bool false) ?_ (hK _ _ (Below.refl _ _) rfl))
          generalize ca.eval = ev at *
          simp [go_sem, execOp, hfn, hcs, h9]
        · cases ho
          have hg : ca.tmps.getD 10 undef = .bool false := Am.look_of (j := 3) hlook (by kernel_rfl) rfl rfl
          have h3 := Am.eval_tmp (Am.look_old (t := 3) hlook (by kernel_rfl) (by kernel_rfl) rfl)
          have hy0 : w1.cell? ⟨W.heap.size + 1, 0, none⟩ = some (.slice pp' n0' pc') := by simp [World.cell?, hP2]
          have hy1 : w1.cell? ⟨W.heap.size + 1, 1, none⟩ = some (.slice cp' n1' cc') := by simp [World.cell?, hP2]
          have hy2 : w1.cell? ⟨W.heap.size + 1, 2, none⟩ = some (.slice sp' n2' sc') := by simp [World.cell?, hP2]
          have hy3 : w1.cell? ⟨W.heap.size + 1, 3, none⟩ = some (.int .u64 m0') := by simp [World.cell?, hP2]
          have hy4 : w1.cell? ⟨W.heap.size + 1, 4, none⟩ = some (.int .u64 m1') := by simp [World.cell?, hP2]
          have hy5 : w1.cell? ⟨W.heap.size + 1, 5, none⟩ = some (.int .u64 m2') := by simp [World.cell?, hP2]
          have hy6 : w1.cell? ⟨W.heap.size + 1, 6, none⟩ = some (.int .u64 m3') := by simp [World.cell?, hP2]
          have hy7 : w1.cell? ⟨W.heap.size + 1, 7, none⟩ = some (.int .u64 m4') := by simp [World.cell?, hP2]
          have hy8 : w1.cell? ⟨W.heap.size + 1, 8, none⟩ = some (.int .u64 m5') := by simp [World.cell?, hP2]
          have hy9 : w1.cell? ⟨W.heap.size + 1, 9, none⟩ = some (.int .u64 m6') := by simp [World.cell?, hP2]
          have hy10 : w1.cell? ⟨W.heap.size + 1, 10, none⟩ = some (.int .u64 m7') := by simp [World.cell?, hP2]
          refine Am.wpOp_run_g rfl rfl rfl hg rfl (Am.wp_value (v := .agg #[.slice pp' n0' pc', .slice cp' n1' cc', .slice sp' n2' sc', .int .u64 m0', .int .u64 m1', .int .u64 m2', .int .u64 m3', .int .u64 m4', .int .u64 m5', .int .u64 m6', .int .u64 m7']) ?_ (hK _ _ (Below.refl _ _) rfl))
          generalize ca.eval = ev at *
          simp [go_sem, execOp, hfn, hcs, h3, hy0, hy1, hy2, hy3, hy4, hy5, hy6, hy7, hy8, hy9, hy10]
        · cases ho
          have hg : ca.tmps.getD 10 undef = .bool false := Am.look_of (j := 3) hlook (by kernel_rfl) rfl rfl
          have h11 : (ca.tmps.getD 11 undef) = (.agg #[.slice pp' n0' pc', .slice cp' n1' cc', .slice sp' n2' sc', .int .u64 m0', .int .u64 m1', .int .u64 m2', .int .u64 m3', .int .u64 m4', .int .u64 m5', .int .u64 m6', .int .u64 m7']) := Am.look_of (j := 4) hlook (by kernel_rfl) rfl rfl
          replace h11 := Am.eval_tmp h11
          refine Am.wpOp_run_g rfl rfl rfl hg rfl (Am.wp_enter (w' := w1) (f := 9) (args := #[.agg #[.slice pp' n0' pc', .slice cp' n1' cc', .slice sp' n2' sc', .int .u64 m0', .int .u64 m1', .int .u64 m2', .int .u64 m3', .int .u64 m4', .int .u64 m5', .int .u64 m6', .int .u64 m7']]) ?_ ((G2.out w1 hb0).mono ?_))
          · generalize ca.eval = ev at *
            simp [go_sem, execOp, hfn, hcs, h11]
          · rintro e w' ⟨rfl, hb'⟩
            exact ⟨_, rfl, hK _ _ hb' rfl⟩
        · cases ho
          have hg : ca.tmps.getD 10 undef = .bool false := Am.look_of (j := 3) hlook (by kernel_rfl) rfl rfl
          have h12 : (ca.tmps.getD 12 undef) = .bool false := Am.look_of (j := 5) hlook (by kernel_rfl) rfl rfl
          replace h12 := Am.eval_tmp h12
          refine Am.wpOp_run_g rfl rfl rfl hg rfl (Am.wp_value (v := .bool true) ?_ (hK _ _ (Below.refl _ _) rfl))
          generalize ca.eval = ev at *
          simp [go_sem, execOp, hfn, hcs, h12]
        · cases ho
          have h10 : (ca.tmps.getD 10 undef) = .bool false := Am.look_of (j := 3) hlook (by kernel_rfl) rfl rfl
          replace h10 := Am.eval_tmp h10
          have h13 : (ca.tmps.getD 13 undef) = .bool true := Am.look_of (j := 6) hlook (by kernel_rfl) rfl rfl
          replace h13 := Am.eval_tmp h13
          refine Am.wpOp_run rfl rfl (Am.wp_value (v := .bool true) ?_ (hK _ _ (Below.refl _ _) rfl))
          generalize ca.eval = ev at *
          simp [go_sem, execOp, hfn, hcs, h10, h13]
        · cases ho
          have h14 : (ca.tmps.getD 14 undef) = .bool true := Am.look_of (j := 7) hlook (by kernel_rfl) rfl rfl
          replace h14 := Am.eval_tmp h14
          refine Am.wpOp_run rfl rfl (Am.wp_value (v := .bool true) ?_ (hK _ _ (Below.refl _ _) rfl))
          generalize ca.eval = ev at *
          simp [go_sem, execOp, hfn, hcs, h14]
        · cases ho
          have hg : ca.tmps.getD 15 undef = .bool true := Am.look_of (j := 8) hlook (by kernel_rfl) rfl rfl
          exact Am.wpOp_skip_g rfl rfl rfl hg rfl (hK _ _ (Below.refl _ _) rfl)
        · cases ho
          have hg : ca.tmps.getD 15 undef = .bool true := Am.look_of (j := 8) hlook (by kernel_rfl) rfl rfl
          exact Am.wpOp_skip_g rfl rfl rfl hg rfl (hK _ _ (Below.refl _ _) rfl)
        · cases ho
          have hg : ca.tmps.getD 15 undef = .bool true := Am.look_of (j := 8) hlook (by kernel_rfl) rfl rfl
          exact Am.wpOp_skip_g rfl rfl rfl hg rfl (hK _ _ (Below.refl _ _) rfl)
        · cases ho
          have hg : ca.tmps.getD 15 undef = .bool true := Am.look_of (j := 8) hlook (by kernel_rfl) rfl rfl
          exact Am.wpOp_skip_g rfl rfl rfl hg rfl (hK _ _ (Below.refl _ _) rfl)
        · cases ho
          have hg : ca.tmps.getD 15 undef = .bool true := Am.look_of (j := 8) hlook (by kernel_rfl) rfl rfl
          exact Am.wpOp_skip_g rfl rfl rfl hg rfl (hK _ _ (Below.refl _ _) rfl)
        · cases ho
          have hg : ca.tmps.getD 15 undef = .bool true := Am.look_of (j := 8) hlook (by kernel_rfl) rfl rfl
          exact Am.wpOp_skip_g rfl rfl rfl hg rfl (hK _ _ (Below.refl _ _) rfl)
        · cases ho
          have hg : ca.tmps.getD 15 undef = .bool true := Am.look_of (j := 8) hlook (by kernel_rfl) rfl rfl
          exact Am.wpOp_skip_g rfl rfl rfl hg rfl (hK _ _ (Below.refl _ _) rfl)
        · cases ho
          have hg : ca.tmps.getD 15 undef = .bool true := Am.look_of (j := 8) hlook (by kernel_rfl) rfl rfl
          exact Am.wpOp_skip_g rfl rfl rfl hg rfl (hK _ _ (Below.refl _ _) rfl)
        · cases ho
          have hg : ca.tmps.getD 23 undef = undef := Am.look_of (j := 16) hlook (by kernel_rfl) rfl rfl
          exact Am.wpOp_skip rfl (wanted_undef rfl rfl hg) (hK _ _ (Below.refl _ _) rfl)
        · cases ho
          have hg : ca.tmps.getD 23 undef = undef := Am.look_of (j := 16) hlook (by kernel_rfl) rfl rfl
          exact Am.wpOp_skip rfl (wanted_undef rfl rfl hg) (hK _ _ (Below.refl _ _) rfl)
        · cases ho
          have hg : ca.tmps.getD 23 undef = undef := Am.look_of (j := 16) hlook (by kernel_rfl) rfl rfl
          exact Am.wpOp_skip rfl (wanted_undef rfl rfl hg) (hK _ _ (Below.refl _ _) rfl)
        · cases ho
          have hg : ca.tmps.getD 15 undef = .bool true := Am.look_of (j := 8) hlook (by kernel_rfl) rfl rfl
          exact Am.wpOp_skip_g rfl rfl rfl hg rfl (hK _ _ (Below.refl _ _) rfl)
        · cases ho
          have h15 : (ca.tmps.getD 15 undef) = .bool true := Am.look_of (j := 8) hlook (by kernel_rfl) rfl rfl
          replace h15 := Am.eval_tmp h15
          refine Am.wpOp_run rfl rfl (Am.wp_value (v := .bool true) ?_ (hK _ _ (Below.refl _ _) rfl))
          generalize ca.eval = ev at *
          simp [go_sem, execOp, hfn, hcs, h15]
        · cases ho
          have h28 : (ca.tmps.getD 28 undef) = .bool true := Am.look_of (j := 21) hlook (by kernel_rfl) rfl rfl
          replace h28 := Am.eval_tmp h28
          refine Am.wpOp_run rfl rfl (Am.wp_value (v := .bool true) ?_ (hK _ _ (Below.refl _ _) rfl))
          generalize ca.eval = ev at *
          simp [go_sem, execOp, hfn, hcs, h28]
        · simp at ho
      · intro ca w1 hb hd hs hphi hoth
        have h4 : ca.tmps.getD 4 undef = .bool true := hphi 22 _ 4 rfl rfl
        go_wp2
        refine bodyPost_ret (results_tmp (t := 4) (by rfl) _ _ _) hd ?_
        exact ⟨by rw [h4], HB.out.trans (hb.mono HB.out.size)⟩
    | true =>
      go_enter Tryd.func3, Tryd.ntmps3
      go_wp2_with (go_at_call 8; refine (awake16 _).mono ?_; rintro e w' ⟨rfl, hb⟩; obtain ⟨g1, rfl⟩ := bout hb; clear hb)
      have HB : Hid (Below W.heap.size W (grow ((W.alloc (.cells #[.slice pp n0 pc, .slice cp n1 cc, .slice sp n2 sc, .int .u64 m0, .int .u64 m1, .int .u64 m2, .int .u64 m3, .int .u64 m4, .int .u64 m5, .int .u64 m6, .int .u64 m7] 29)).alloc (.cells #[.slice pp' n0' pc', .slice cp' n1' cc', .slice sp' n2' sc', .int .u64 m0', .int .u64 m1', .int .u64 m2', .int .u64 m3', .int .u64 m4', .int .u64 m5', .int .u64 m6', .int .u64 m7'] 29)) g1)) := hid (bG (bA (bA (Below.refl _ _) _) _) _)
      have HP : Hid ((grow ((W.alloc (.cells #[.slice pp n0 pc, .slice cp n1 cc, .slice sp n2 sc, .int .u64 m0, .int .u64 m1, .int .u64 m2, .int .u64 m3, .int .u64 m4, .int .u64 m5, .int .u64 m6, .int .u64 m7] 29)).alloc (.cells #[.slice pp' n0' pc', .slice cp' n1' cc', .slice sp' n2' sc', .int .u64 m0', .int .u64 m1', .int .u64 m2', .int .u64 m3', .int .u64 m4', .int .u64 m5', .int .u64 m6', .int .u64 m7'] 29)) g1).heap[W.heap.size]? = some (.cells #[.slice pp n0 pc, .slice cp n1 cc, .slice sp n2 sc, .int .u64 m0, .int .u64 m1, .int .u64 m2, .int .u64 m3, .int .u64 m4, .int .u64 m5, .int .u64 m6, .int .u64 m7] 29 (0, 0))) := hid (by rw [heap_grow _ _ _ (by simp; omega), heap_alloc_old _ _ (by simp)]; exact heap_alloc_new _ _)
      have HQ : Hid ((grow ((W.alloc (.cells #[.slice pp n0 pc, .slice cp n1 cc, .slice sp n2 sc, .int .u64 m0, .int .u64 m1, .int .u64 m2, .int .u64 m3, .int .u64 m4, .int .u64 m5, .int .u64 m6, .int .u64 m7] 29)).alloc (.cells #[.slice pp' n0' pc', .slice cp' n1' cc', .slice sp' n2' sc', .int .u64 m0', .int .u64 m1', .int .u64 m2', .int .u64 m3', .int .u64 m4', .int .u64 m5', .int .u64 m6', .int .u64 m7'] 29)) g1).heap[W.heap.size + 1]? = some (.cells #[.slice pp' n0' pc', .slice cp' n1' cc', .slice sp' n2' sc', .int .u64 m0', .int .u64 m1', .int .u64 m2', .int .u64 m3', .int .u64 m4', .int .u64 m5', .int .u64 m6', .int .u64 m7'] 29 (0, 0))) := hid (by rw [heap_grow _ _ _ (by simp)]; have := heap_alloc_new (W.alloc (.cells #[.slice pp n0 pc, .slice cp n1 cc, .slice sp n2 sc, .int .u64 m0, .int .u64 m1, .int .u64 m2, .int .u64 m3, .int .u64 m4, .int .u64 m5, .int .u64 m6, .int .u64 m7] 29)) (.cells #[.slice pp' n0' pc', .slice cp' n1' cc', .slice sp' n2' sc', .int .u64 m0', .int .u64 m1', .int .u64 m2', .int .u64 m3', .int .u64 m4', .int .u64 m5', .int .u64 m6', .int .u64 m7'] 29); simpa using this)
      generalize (grow ((W.alloc (.cells #[.slice pp n0 pc, .slice cp n1 cc, .slice sp n2 sc, .int .u64 m0, .int .u64 m1, .int .u64 m2, .int .u64 m3, .int .u64 m4, .int .u64 m5, .int .u64 m6, .int .u64 m7] 29)).alloc (.cells #[.slice pp' n0' pc', .slice cp' n1' cc', .slice sp' n2' sc', .int .u64 m0', .int .u64 m1', .int .u64 m2', .int .u64 m3', .int .u64 m4', .int .u64 m5', .int .u64 m6', .int .u64 m7'] 29)) g1) = W1 at *
      have G1 : Hid (∀ w1, Below W1.heap.size W1 w1 → Calls Tryd.prog 9 #[.agg #[.slice pp n0 pc, .slice cp n1 cc, .slice sp n2 sc, .int .u64 m0, .int .u64 m1, .int .u64 m2, .int .u64 m3, .int .u64 m4, .int .u64 m5, .int .u64 m6, .int .u64 m7]] w1 fun e w' => e = .returned (.bool true) ∧ Below w1.heap.size w1 w') := hid fun w1 h => G1.out w1 (HB.out.trans (h.mono HB.out.size))
      have G2 : Hid (∀ w1, Below W1.heap.size W1 w1 → Calls Tryd.prog 9 #[.agg #[.slice pp' n0' pc', .slice cp' n1' cc', .slice sp' n2' sc', .int .u64 m0', .int .u64 m1', .int .u64 m2', .int .u64 m3', .int .u64 m4', .int .u64 m5', .int .u64 m6', .int .u64 m7']] w1 fun e w' => e = .returned (.bool true) ∧ Below w1.heap.size w1 w') := hid fun w1 h => G2.out w1 (HB.out.trans (h.mono HB.out.size))
      have G3 : Hid (∀ w1, Below W1.heap.size W1 w1 → Calls Tryd.prog 10 #[.agg #[.slice pp n0 pc, .slice cp n1 cc, .slice sp n2 sc, .int .u64 m0, .int .u64 m1, .int .u64 m2, .int .u64 m3, .int .u64 m4, .int .u64 m5, .int .u64 m6, .int .u64 m7], .agg #[.slice pp' n0' pc', .slice cp' n1' cc', .slice sp' n2' sc', .int .u64 m0', .int .u64 m1', .int .u64 m2', .int .u64 m3', .int .u64 m4', .int .u64 m5', .int .u64 m6', .int .u64 m7']] w1 fun e w' => e = .returned (.bool r) ∧ Below w1.heap.size w1 w') := hid fun w1 h => G3.out w1 (HB.out.trans (h.mono HB.out.size))
      have G4 : Hid (∀ w1, Below W1.heap.size W1 w1 → Calls Tryd.prog 11 #[.agg #[.slice pp n0 pc, .slice cp n1 cc, .slice sp n2 sc, .int .u64 m0, .int .u64 m1, .int .u64 m2, .int .u64 m3, .int .u64 m4, .int .u64 m5, .int .u64 m6, .int .u64 m7], .agg #[.slice pp' n0' pc', .slice cp' n1' cc', .slice sp' n2' sc', .int .u64 m0', .int .u64 m1', .int .u64 m2', .int .u64 m3', .int .u64 m4', .int .u64 m5', .int .u64 m6', .int .u64 m7']] w1 fun e w' => e = .returned (.bool r) ∧ Below w1.heap.size w1 w') := hid fun w1 h => G4.out w1 (HB.out.trans (h.mono HB.out.size))
      have G5 : Hid (∀ w1, Below W1.heap.size W1 w1 → Calls Tryd.prog 10 #[.agg #[.slice pp n0 pc, .slice cp n1 cc, .slice sp n2 sc, .int .u64 m0, .int .u64 m1, .int .u64 m2, .int .u64 m3, .int .u64 m4, .int .u64 m5, .int .u64 m6, .int .u64 m7], .agg #[.slice pp n0 pc, .slice cp n1 cc, .slice sp n2 sc, .int .u64 m0, .int .u64 m1, .int .u64 m2, .int .u64 m3, .int .u64 m4, .int .u64 m5, .int .u64 m6, .int .u64 m7]] w1 fun e w' => e = .returned (.bool true) ∧ Below w1.heap.size w1 w') := hid fun w1 h => G5.out w1 (HB.out.trans (h.mono HB.out.size))
      refine Am.draw_phi (Φ := phiC3 (.agg #[.slice pp n0 pc, .slice cp n1 cc, .slice sp n2 sc, .int .u64 m0, .int .u64 m1, .int .u64 m2, .int .u64 m3, .int .u64 m4, .int .u64 m5, .int .u64 m6, .int .u64 m7]) (.agg #[.slice pp' n0' pc', .slice cp' n1' cc', .slice sp' n2' sc', .int .u64 m0', .int .u64 m1', .int .u64 m2', .int .u64 m3', .int .u64 m4', .int .u64 m5', .int .u64 m6', .int .u64 m7']) r) (by kernel_rfl) (by kernel_rfl) (by kernel_rfl) phiC3_below ?_ ?_
      · intro kq o ca w1 ho hb hlook K hK
        have hb0 : Below W1.heap.size W1 w1 := hb.trans (Below.refl _ _)
        have hP1 : w1.heap[W.heap.size]? = some (.cells #[.slice pp n0 pc, .slice cp n1 cc, .slice sp n2 sc, .int .u64 m0, .int .u64 m1, .int .u64 m2, .int .u64 m3, .int .u64 m4, .int .u64 m5, .int .u64 m6, .int .u64 m7] 29 (0, 0)) := (hb0.block _ (Array.getElem?_eq_some_iff.1 HP.out).1).trans HP.out
        have hP2 : w1.heap[W.heap.size + 1]? = some (.cells #[.slice pp' n0' pc', .slice cp' n1' cc', .slice sp' n2' sc', .int .u64 m0', .int .u64 m1', .int .u64 m2', .int .u64 m3', .int .u64 m4', .int .u64 m5', .int .u64 m6', .int .u64 m7'] 29 (0, 0)) := (hb0.block _ (Array.getElem?_eq_some_iff.1 HQ.out).1).trans HQ.out
        have hfn : ∀ f, ca.eval (.func f) = .func (.func f) #[] #[] := fun _ => rfl
        have hcs : ∀ v, ca.eval (.const v) = v := fun _ => rfl
        rcases kq with _ | _ | _ | _ | _ | _ | _ | _ | _ | _ | _ | _ | _ | _ | _ | _ | _ | _ | _ | _ | _ | _ | _ | kq
        · cases ho
          have h2 := Am.eval_tmp (Am.look_old (t := 2) hlook (by kernel_rfl) (by kernel_rfl) rfl)
          have hx0 : w1.cell? ⟨W.heap.size, 0, none⟩ = some (.slice pp n0 pc) := by simp [World.cell?, hP1]
          have hx1 : w1.cell? ⟨W.heap.size, 1, none⟩ = some (.slice cp n1 cc) := by simp [World.cell?, hP1]
          have hx2 : w1.cell? ⟨W.heap.size, 2, none⟩ = some (.slice sp n2 sc) := by simp [World.cell?, hP1]
          have hx3 : w1.cell? ⟨W.heap.size, 3, none⟩ = some (.int .u64 m0) := by simp [World.cell?, hP1]
          have hx4 : w1.cell? ⟨W.heap.size, 4, none⟩ = some (.int .u64 m1) := by simp [World.cell?, hP1]
          have hx5 : w1.cell? ⟨W.heap.size, 5, none⟩ = some (.int .u64 m2) := by simp [World.cell?, hP1]
          have hx6 : w1.cell? ⟨W.heap.size, 6, none⟩ = some (.int .u64 m3) := by simp [World.cell?, hP1]
          have hx7 : w1.cell? ⟨W.heap.size, 7, none⟩ = some (.int .u64 m4) := by simp [World.cell?, hP1]
          have hx8 : w1.cell? ⟨W.heap.size, 8, none⟩ = some (.int .u64 m5) := by simp [World.cell?, hP1]
          have hx9 : w1.cell? ⟨W.heap.size, 9, none⟩ = some (.int .u64 m6) := by simp [World.cell?, hP1]
          have hx10 : w1.cell? ⟨W.heap.size, 10, none⟩ = some (.int .u64 m7) := by simp [World.cell?, hP1]
          refine Am.wpOp_run rfl rfl (Am.wp_value (v := .agg #[.slice pp n0 pc, .slice cp n1 cc, .slice sp n2 sc, .int .u64 m0, .int .u64 m1, .int .u64 m2, .int .u64 m3, .int .u64 m4, .int .u64 m5, .int .u64 m6, .int .u64 m7]) ?_ (hK _ _ (Below.refl _ _) rfl))
          generalize ca.eval = ev at *
          simp [go_sem, execOp, hfn, hcs, h2, hx0, hx1, hx2, hx3, hx4, hx5, hx6, hx7, hx8, hx9, hx10]
        · cases ho
          have h7 : (ca.tmps.getD 7 undef) = (.agg #[.slice pp n0 pc, .slice cp n1 cc, .slice sp n2 sc, .int .u64 m0, .int .u64 m1, .int .u64 m2, .int .u64 m3, .int .u64 m4, .int .u64 m5, .int .u64 m6, .int .u64 m7]) := Am.look_of (j := 0) hlook (by kernel_rfl) rfl rfl
          replace h7 := Am.eval_tmp h7
          refine Am.wpOp_run rfl rfl (Am.wp_enter (w' := w1) (f := 9) (args := #[.agg #[.slice pp n0 pc, .slice cp n1 cc, .slice sp n2 sc, .int .u64 m0, .int .u64 m1, .int .u64 m2, .int .u64 m3, .int .u64 m4, .int .u64 m5, .int .u64 m6, .int .u64 m7]]) ?_ ((G1.out w1 hb0).mono ?_))
          · generalize ca.eval = ev at *
            simp [go_sem, execOp, hfn, hcs, h7]
          · rintro e w' ⟨rfl, hb'⟩
            exact ⟨_, rfl, hK _ _ hb' rfl⟩
        · cases ho
          have h8 : (ca.tmps.getD 8 undef) = .bool true := Am.look_of (j := 1) hlook (by kernel_rfl) rfl rfl
          replace h8 := Am.eval_tmp h8
          refine Am.wpOp_run rfl rfl (Am.wp_value (v := .bool false) ?_ (hK _ _ (Below.refl _ _) rfl))
          generalize ca.eval = ev at *
          simp [go_sem, execOp, hfn, hcs, h8]
        · cases ho
          have h9 : (ca.tmps.getD 9 undef) = .bool false := Am.look_of (j := 2) hlook (by kernel_rfl) rfl rfl
          replace h9 := Am.eval_tmp h9
          refine Am.wpOp_run rfl rfl (Am.wp_value (v := .bool false) ?_ (hK _ _ (Below.refl _ _) rfl))
          generalize ca.eval = ev at *
          simp [go_sem, execOp, hfn, hcs, h9]
        · cases ho
          have hg : ca.tmps.getD 10 undef = .bool false := Am.look_of (j := 3) hlook (by kernel_rfl) rfl rfl
          have h3 := Am.eval_tmp (Am.look_old (t := 3) hlook (by kernel_rfl) (by kernel_rfl) rfl)
          have hy0 : w1.cell? ⟨W.heap.size + 1, 0, none⟩ = some (.slice pp' n0' pc') := by simp [World.cell?, hP2]
          have hy1 : w1.cell? ⟨W.heap.size + 1, 1, none⟩ = some (.slice cp' n1' cc') := by simp [World.cell?, hP2]
          have hy2 : w1.cell? ⟨W.heap.size + 1, 2, none⟩ = some (.slice sp' n2' sc') := by simp [World.cell?, hP2]
          have hy3 : w1.cell? ⟨W.heap.size + 1, 3, none⟩ = some (.int .u64 m0') := by simp [World.cell?, hP2]
          have hy4 : w1.cell? ⟨W.heap.size + 1, 4, none⟩ = some (.int .u64 m1') := by simp [World.cell?, hP2]
          have hy5 : w1.cell? ⟨W.heap.size + 1, 5, none⟩ = some (.int .u64 m2') := by simp [World.cell?, hP2]
          have hy6 : w1.cell? ⟨W.heap.size + 1, 6, none⟩ = some (.int .u64 m3') := by simp [World.cell?, hP2]
          have hy7 : w1.cell? ⟨W.heap.size + 1, 7, none⟩ = some (.int .u64 m4') := by simp [World.cell?, hP2]
          have hy8 : w1.cell? ⟨W.heap.size + 1, 8, none⟩ = some (.int .u64 m5') := by simp [World.cell?, hP2]
          have hy9 : w1.cell? ⟨W.heap.size + 1, 9, none⟩ = some (.int .u64 m6') := by simp [World.cell?, hP2]
          have hy10 : w1.cell? ⟨W.heap.size + 1, 10, none⟩ = some (.int .u64 m7') := by simp [World.cell?, hP2]
          refine Am.wpOp_run_g rfl rfl rfl hg rfl (Am.wp_value (v := .agg #[.slice pp' n0' pc', .slice cp' n1' cc', .slice sp' n2' sc', .int .u64 m0', .int .u64 m1', .int .u64 m2', .int .u64 m3', .int .u64 m4', .int .u64 m5', .int .u64 m6', .int .u64 m7']) ?_ (hK _ _ (Below.refl _ _) rfl))
          generalize ca.eval = ev at *
          simp [go_sem, execOp, hfn, hcs, h3, hy0, hy1, hy2, hy3, hy4, hy5, hy6, hy7, hy8, hy9, hy10]
        · cases ho
          have hg : ca.tmps.getD 10 undef = .bool false := Am.look_of (j := 3) hlook (by kernel_rfl) rfl rfl
          have h11 : (ca.tmps.getD 11 undef) = (.agg #[.slice pp' n0' pc', .slice cp' n1' cc', .slice sp' n2' sc', .int .u64 m0', .int .u64 m1', .int .u64 m2', .int .u64 m3', .int .u64 m4', .int .u64 m5', .int .u64 m6', .int .u64 m7']) := Am.look_of (j := 4) hlook (by kernel_rfl) rfl rfl
          replace h11 := Am.eval_tmp h11
          refine Am.wpOp_run_g rfl rfl rfl hg rfl (Am.wp_enter (w' := w1) (f := 9) (args := #[.agg #[.slice pp' n0' pc', .slice cp' n1' cc', .slice sp' n2' sc', .int .u64 m0', .int .u64 m1', .int .u64 m2', .int .u64 m3', .int .u64 m4', .int .u64 m5', .int .u64 m6', .int .u64 m7']]) ?_ ((G2.out w1 hb0).mono ?_))
          · generalize ca.eval = ev at *
            simp [go_sem, execOp, hfn, hcs, h11]
          · rintro e w' ⟨rfl, hb'⟩
            exact ⟨_, rfl, hK _ _ hb' rfl⟩
        · cases ho
          have hg : ca.tmps.getD 10 undef = .bool false := Am.look_of (j := 3) hlook (by kernel_rfl) rfl rfl
          have h12 : (ca.tmps.getD 12 undef) = .bool true := Am.look_of (j := 5) hlook (by kernel_rfl) rfl rfl
          replace h12 := Am.eval_tmp h12
          refine Am.wpOp_run_g rfl rfl rfl hg rfl (Am.wp_value (v := .bool false) ?_ (hK _ _ (Below.refl _ _) rfl))
          generalize ca.eval = ev at *
          simp [go_sem, execOp, hfn, hcs, h12]
        · cases ho
          have h10 : (ca.tmps.getD 10 undef) = .bool false := Am.look_of (j := 3) hlook (by kernel_rfl) rfl rfl
          replace h10 := Am.eval_tmp h10
          have h13 : (ca.tmps.getD 13 undef) = .bool false := Am.look_of (j := 6) hlook (by kernel_rfl) rfl rfl
          replace h13 := Am.eval_tmp h13
          refine Am.wpOp_run rfl rfl (Am.wp_value (v := .bool false) ?_ (hK _ _ (Below.refl _ _) rfl))
          generalize ca.eval = ev at *
          simp [go_sem, execOp, hfn, hcs, h10, h13]
        · cases ho
          have h14 : (ca.tmps.getD 14 undef) = .bool false := Am.look_of (j := 7) hlook (by kernel_rfl) rfl rfl
          replace h14 := Am.eval_tmp h14
          refine Am.wpOp_run rfl rfl (Am.wp_value (v := .bool false) ?_ (hK _ _ (Below.refl _ _) rfl))
          generalize ca.eval = ev at *
          simp [go_sem, execOp, hfn, hcs, h14]
        · cases ho
          have hg : ca.tmps.getD 15 undef = .bool false := Am.look_of (j := 8) hlook (by kernel_rfl) rfl rfl
          have h2 := Am.eval_tmp (Am.look_old (t := 2) hlook (by kernel_rfl) (by kernel_rfl) rfl)
          have hx0 : w1.cell? ⟨W.heap.size, 0, none⟩ = some (.slice pp n0 pc) := by simp [World.cell?, hP1]
          have hx1 : w1.cell? ⟨W.heap.size, 1, none⟩ = some (.slice cp n1 cc) := by simp [World.cell?, hP1]
          have hx2 : w1.cell? ⟨W.heap.size, 2, none⟩ = some (.slice sp n2 sc) := by simp [World.cell?, hP1]
          have hx3 : w1.cell? ⟨W.heap.size, 3, none⟩ = some (.int .u64 m0) := by simp [World.cell?, hP1]
          have hx4 : w1.cell? ⟨W.heap.size, 4, none⟩ = some (.int .u64 m1) := by simp [World.cell?, hP1]
          have hx5 : w1.cell? ⟨W.heap.size, 5, none⟩ = some (.int .u64 m2) := by simp [World.cell?, hP1]
          have hx6 : w1.cell? ⟨W.heap.size, 6, none⟩ = some (.int .u64 m3) := by simp [World.cell?, hP1]
          have hx7 : w1.cell? ⟨W.heap.size, 7, none⟩ = some (.int .u64 m4) := by simp [World.cell?, hP1]
          have hx8 : w1.cell? ⟨W.heap.size, 8, none⟩ = some (.int .u64 m5) := by simp [World.cell?, hP1]
          have hx9 : w1.cell? ⟨W.heap.size, 9, none⟩ = some (.int .u64 m6) := by simp [World.cell?, hP1]
          have hx10 : w1.cell? ⟨W.heap.size, 10, none⟩ = some (.int .u64 m7) := by simp [World.cell?, hP1]
          refine Am.wpOp_run_g rfl rfl rfl hg rfl (Am.wp_value (v := .agg #[.slice pp n0 pc, .slice cp n1 cc, .slice sp n2 sc, .int .u64 m0, .int .u64 m1, .int .u64 m2, .int .u64 m3, .int .u64 m4, .int .u64 m5, .int .u64 m6, .int .u64 m7]) ?_ (hK _ _ (Below.refl _ _) rfl))
          generalize ca.eval = ev at *
          simp [go_sem, execOp, hfn, hcs, h2, hx0, hx1, hx2, hx3, hx4, hx5, hx6, hx7, hx8, hx9, hx10]
        · cases ho
          have hg : ca.tmps.getD 15 undef = .bool false := Am.look_of (j := 8) hlook (by kernel_rfl) rfl rfl
          have h3 := Am.eval_tmp (Am.look_old (t := 3) hlook (by kernel_rfl) (by kernel_rfl) rfl)
          have hy0 : w1.cell? ⟨W.heap.size + 1, 0, none⟩ = some (.slice pp' n0' pc') := by simp [World.cell?, hP2]
          have hy1 : w1.cell? ⟨W.heap.size + 1, 1, none⟩ = some (.slice cp' n1' cc') := by simp [World.cell?, hP2]
          have hy2 : w1.cell? ⟨W.heap.size + 1, 2, none⟩ = some (.slice sp' n2' sc') := by simp [World.cell?, hP2]
          have hy3 : w1.cell? ⟨W.heap.size + 1, 3, none⟩ = some (.int .u64 m0') := by simp [World.cell?, hP2]
          have hy4 : w1.cell? ⟨W.heap.size + 1, 4, none⟩ = some (.int .u64 m1') := by simp [World.cell?, hP2]
          have hy5 : w1.cell? ⟨W.heap.size + 1, 5, none⟩ = some (.int .u64 m2') := by simp [World.cell?, hP2]
          have hy6 : w1.cell? ⟨W.heap.size + 1, 6, none⟩ = some (.int .u64 m3') := by simp [World.cell?, hP2]
          have hy7 : w1.cell? ⟨W.heap.size + 1, 7, none⟩ = some (.int .u64 m4') := by simp [World.cell?, hP2]
          have hy8 : w1.cell? ⟨W.heap.size + 1, 8, none⟩ = some (.int .u64 m5') := by simp [World.cell?, hP2]
          have hy9 : w1.cell? ⟨W.heap.size + 1, 9, none⟩ = some (.int .u64 m6') := by simp [World.cell?, hP2]
          have hy10 : w1.cell? ⟨W.heap.size + 1, 10, none⟩ = some (.int .u64 m7') := by simp [World.cell?, hP2]
          refine Am.wpOp_run_g rfl rfl rfl hg rfl (Am.wp_value (v := .agg #[.slice pp' n0' pc', .slice cp' n1' cc', .slice sp' n2' sc', .int .u64 m0', .int .u64 m1', .int .u64 m2', .int .u64 m3', .int .u64 m4', .int .u64 m5', .int .u64 m6', .int .u64 m7']) ?_ (hK _ _ (Below.refl _ _) rfl))
          generalize ca.eval = ev at *
          simp [go_sem, execOp, hfn, hcs, h3, hy0, hy1, hy2, hy3, hy4, hy5, hy6, hy7, hy8, hy9, hy10]
        · cases ho
          have hg : ca.tmps.getD 15 undef = .bool false := Am.look_of (j := 8) hlook (by kernel_rfl) rfl rfl
          have h16 : (ca.tmps.getD 16 undef) = (.agg #[.slice pp n0 pc, .slice cp n1 cc, .slice sp n2 sc, .int .u64 m0, .int .u64 m1, .int .u64 m2, .int .u64 m3, .int .u64 m4, .int .u64 m5, .int .u64 m6, .int .u64 m7]) := Am.look_of (j := 9) hlook (by kernel_rfl) rfl rfl
          replace h16 := Am.eval_tmp h16
          have h17 : (ca.tmps.getD 17 undef) = (.agg #[.slice pp' n0' pc', .slice cp' n1' cc', .slice sp' n2' sc', .int .u64 m0', .int .u64 m1', .int .u64 m2', .int .u64 m3', .int .u64 m4', .int .u64 m5', .int .u64 m6', .int .u64 m7']) := Am.look_of (j := 10) hlook (by kernel_rfl) rfl rfl
          replace h17 := Am.eval_tmp h17
          refine Am.wpOp_run_g rfl rfl rfl hg rfl (Am.wp_enter (w' := w1) (f := 10) (args := #[.agg #[.slice pp n0 pc, .slice cp n1 cc, .slice sp n2 sc, .int .u64 m0, .int .u64 m1, .int .u64 m2, .int .u64 m3, .int .u64 m4, .int .u64 m5, .int .u64 m6, .int .u64 m7], .agg #[.slice pp' n0' pc', .slice cp' n1' cc', .slice sp' n2' sc', .int .u64 m0', .int .u64 m1', .int .u64 m2', .int .u64 m3', .int .u64 m4', .int .u64 m5', .int .u64 m6', .int .u64 m7']]) ?_ ((G3.out w1 hb0).mono ?_))
          · generalize ca.eval = ev at *
            simp [go_sem, execOp, hfn, hcs, h16, h17]
          · rintro e w' ⟨rfl, hb'⟩
            exact ⟨_, rfl, hK _ _ hb' rfl⟩
        · cases ho
          have hg : ca.tmps.getD 15 undef = .bool false := Am.look_of (j := 8) hlook (by kernel_rfl) rfl rfl
          have h2 := Am.eval_tmp (Am.look_old (t := 2) hlook (by kernel_rfl) (by kernel_rfl) rfl)
          have hx0 : w1.cell? ⟨W.heap.size, 0, none⟩ = some (.slice pp n0 pc) := by simp [World.cell?, hP1]
          have hx1 : w1.cell? ⟨W.heap.size, 1, none⟩ = some (.slice cp n1 cc) := by simp [World.cell?, hP1]
          have hx2 : w1.cell? ⟨W.heap.size, 2, none⟩ = some (.slice sp n2 sc) := by simp [World.cell?, hP1]
          have hx3 : w1.cell? ⟨W.heap.size, 3, none⟩ = some (.int .u64 m0) := by simp [World.cell?, hP1]
          have hx4 : w1.cell? ⟨W.heap.size, 4, none⟩ = some (.int .u64 m1) := by simp [World.cell?, hP1]
          have hx5 : w1.cell? ⟨W.heap.size, 5, none⟩ = some (.int .u64 m2) := by simp [World.cell?, hP1]
          have hx6 : w1.cell? ⟨W.heap.size, 6, none⟩ = some (.int .u64 m3) := by simp [World.cell?, hP1]
          have hx7 : w1.cell? ⟨W.heap.size, 7, none⟩ = some (.int .u64 m4) := by simp [World.cell?, hP1]
          have hx8 : w1.cell? ⟨W.heap.size, 8, none⟩ = some (.int .u64 m5) := by simp [World.cell?, hP1]
          have hx9 : w1.cell? ⟨W.heap.size, 9, none⟩ = some (.int .u64 m6) := by simp [World.cell?, hP1]
          have hx10 : w1.cell? ⟨W.heap.size, 10, none⟩ = some (.int .u64 m7) := by simp [World.cell?, hP1]
          refine Am.wpOp_run_g rfl rfl rfl hg rfl (Am.wp_value (v := .agg #[.slice pp n0 pc, .slice cp n1 cc, .slice sp n2 sc, .int .u64 m0, .int .u64 m1, .int .u64 m2, .int .u64 m3, .int .u64 m4, .int .u64 m5, .int .u64 m6, .int .u64 m7]) ?_ (hK _ _ (Below.refl _ _) rfl))
          generalize ca.eval = ev at *
          simp [go_sem, execOp, hfn, hcs, h2, hx0, hx1, hx2, hx3, hx4, hx5, hx6, hx7, hx8, hx9, hx10]
        · cases ho
          have hg : ca.tmps.getD 15 undef = .bool false := Am.look_of (j := 8) hlook (by kernel_rfl) rfl rfl
          have h3 := Am.eval_tmp (Am.look_old (t := 3) hlook (by kernel_rfl) (by kernel_rfl) rfl)
          have hy0 : w1.cell? ⟨W.heap.size + 1, 0, none⟩ = some (.slice pp' n0' pc') := by simp [World.cell?, hP2]
          have hy1 : w1.cell? ⟨W.heap.size + 1, 1, none⟩ = some (.slice cp' n1' cc') := by simp [World.cell?, hP2]
          have hy2 : w1.cell? ⟨W.heap.size + 1, 2, none⟩ = some (.slice sp' n2' sc') := by simp [World.cell?, hP2]
          have hy3 : w1.cell? ⟨W.heap.size + 1, 3, none⟩ = some (.int .u64 m0') := by simp [World.cell?, hP2]
          have hy4 : w1.cell? ⟨W.heap.size + 1, 4, none⟩ = some (.int .u64 m1') := by simp [World.cell?, hP2]
          have hy5 : w1.cell? ⟨W.heap.size + 1, 5, none⟩ = some (.int .u64 m2') := by simp [World.cell?, hP2]
          have hy6 : w1.cell? ⟨W.heap.size + 1, 6, none⟩ = some (.int .u64 m3') := by simp [World.cell?, hP2]
          have hy7 : w1.cell? ⟨W.heap.size + 1, 7, none⟩ = some (.int .u64 m4') := by simp [World.cell?, hP2]
          have hy8 : w1.cell? ⟨W.heap.size + 1, 8, none⟩ = some (.int .u64 m5') := by simp [World.cell?, hP2]
          have hy9 : w1.cell? ⟨W.heap.size + 1, 9, none⟩ = some (.int .u64 m6') := by simp [World.cell?, hP2]
          have hy10 : w1.cell? ⟨W.heap.size + 1, 10, none⟩ = some (.int .u64 m7') := by simp [World.cell?, hP2]
          refine Am.wpOp_run_g rfl rfl rfl hg rfl (Am.wp_value (v := .agg #[.slice pp' n0' pc', .slice cp' n1' cc', .slice sp' n2' sc', .int .u64 m0', .int .u64 m1', .int .u64 m2', .int .u64 m3', .int .u64 m4', .int .u64 m5', .int .u64 m6', .int .u64 m7']) ?_ (hK _ _ (Below.refl _ _) rfl))
          generalize ca.eval = ev at *
          simp [go_sem, execOp, hfn, hcs, h3, hy0, hy1, hy2, hy3, hy4, hy5, hy6, hy7, hy8, hy9, hy10]
        · cases ho
          have hg : ca.tmps.getD 15 undef = .bool false := Am.look_of (j := 8) hlook (by kernel_rfl) rfl rfl
          have h19 : (ca.tmps.getD 19 undef) = (.agg #[.slice pp n0 pc, .slice cp n1 cc, .slice sp n2 sc, .int .u64 m0, .int .u64 m1, .int .u64 m2, .int .u64 m3, .int .u64 m4, .int .u64 m5, .int .u64 m6, .int .u64 m7]) := Am.look_of (j := 12) hlook (by kernel_rfl) rfl rfl
          replace h19 := Am.eval_tmp h19
          have h20 : (ca.tmps.getD 20 undef) = (.agg #[.slice pp' n0' pc', .slice cp' n1' cc', .slice sp' n2' sc', .int .u64 m0', .int .u64 m1', .int .u64 m2', .int .u64 m3', .int .u64 m4', .int .u64 m5', .int .u64 m6', .int .u64 m7']) := Am.look_of (j := 13) hlook (by kernel_rfl) rfl rfl
          replace h20 := Am.eval_tmp h20
          refine Am.wpOp_run_g rfl rfl rfl hg rfl (Am.wp_enter (w' := w1) (f := 11) (args := #[.agg #[.slice pp n0 pc, .slice cp n1 cc, .slice sp n2 sc, .int .u64 m0, .int .u64 m1, .int .u64 m2, .int .u64 m3, .int .u64 m4, .int .u64 m5, .int .u64 m6, .int .u64 m7], .agg #[.slice pp' n0' pc', .slice cp' n1' cc', .slice sp' n2' sc', .int .u64 m0', .int .u64 m1', .int .u64 m2', .int .u64 m3', .int .u64 m4', .int .u64 m5', .int .u64 m6', .int .u64 m7']]) ?_ ((G4.out w1 hb0).mono ?_))
          · generalize ca.eval = ev at *
            simp [go_sem, execOp, hfn, hcs, h19, h20]
          · rintro e w' ⟨rfl, hb'⟩
            exact ⟨_, rfl, hK _ _ hb' rfl⟩
        · cases ho
          have hg : ca.tmps.getD 15 undef = .bool false := Am.look_of (j := 8) hlook (by kernel_rfl) rfl rfl
          have h18 : (ca.tmps.getD 18 undef) = .bool r := Am.look_of (j := 11) hlook (by kernel_rfl) rfl rfl
          replace h18 := Am.eval_tmp h18
          have h21 : (ca.tmps.getD 21 undef) = .bool r := Am.look_of (j := 14) hlook (by kernel_rfl) rfl rfl
          replace h21 := Am.eval_tmp h21
          refine Am.wpOp_run_g rfl rfl rfl hg rfl (Am.wp_value (v := .bool true) ?_ (hK _ _ (Below.refl _ _) rfl))
          generalize ca.eval = ev at *
          simp [go_sem, execOp, hfn, hcs, h18, h21]
        · cases ho
          have hg : ca.tmps.getD 15 undef = .bool false := Am.look_of (j := 8) hlook (by kernel_rfl) rfl rfl
          have h22 : (ca.tmps.getD 22 undef) = .bool true := Am.look_of (j := 15) hlook (by kernel_rfl) rfl rfl
          replace h22 := Am.eval_tmp h22
          refine Am.wpOp_run_g rfl rfl rfl hg rfl (Am.wp_value (v := .bool true) ?_ (hK _ _ (Below.refl _ _) rfl))
          generalize ca.eval = ev at *
          simp [go_sem, execOp, hfn, hcs, h22]
        · cases ho
          have hg : ca.tmps.getD 23 undef = .bool true := Am.look_of (j := 16) hlook (by kernel_rfl) rfl rfl
          have h2 := Am.eval_tmp (Am.look_old (t := 2) hlook (by kernel_rfl) (by kernel_rfl) rfl)
          have hx0 : w1.cell? ⟨W.heap.size, 0, none⟩ = some (.slice pp n0 pc) := by simp [World.cell?, hP1]
          have hx1 : w1.cell? ⟨W.heap.size, 1, none⟩ = some (.slice cp n1 cc) := by simp [World.cell?, hP1]
          have hx2 : w1.cell? ⟨W.heap.size, 2, none⟩ = some (.slice sp n2 sc) := by simp [World.cell?, hP1]
          have hx3 : w1.cell? ⟨W.heap.size, 3, none⟩ = some (.int .u64 m0) := by simp [World.cell?, hP1]
          have hx4 : w1.cell? ⟨W.heap.size, 4, none⟩ = some (.int .u64 m1) := by simp [World.cell?, hP1]
          have hx5 : w1.cell? ⟨W.heap.size, 5, none⟩ = some (.int .u64 m2) := by simp [World.cell?, hP1]
          have hx6 : w1.cell? ⟨W.heap.size, 6, none⟩ = some (.int .u64 m3) := by simp [World.cell?, hP1]
          have hx7 : w1.cell? ⟨W.heap.size, 7, none⟩ = some (.int .u64 m4) := by simp [World.cell?, hP1]
          have hx8 : w1.cell? ⟨W.heap.size, 8, none⟩ = some (.int .u64 m5) := by simp [World.cell?, hP1]
          have hx9 : w1.cell? ⟨W.heap.size, 9, none⟩ = some (.int .u64 m6) := by simp [World.cell?, hP1]
          have hx10 : w1.cell? ⟨W.heap.size, 10, none⟩ = some (.int .u64 m7) := by simp [World.cell?, hP1]
          refine Am.wpOp_run_g rfl rfl rfl hg rfl (Am.wp_value (v := .agg #[.slice pp n0 pc, .slice cp n1 cc, .slice sp n2 sc, .int .u64 m0, .int .u64 m1, .int .u64 m2, .int .u64 m3, .int .u64 m4, .int .u64 m5, .int .u64 m6, .int .u64 m7]) ?_ (hK _ _ (Below.refl _ _) rfl))
          generalize ca.eval = ev at *
          simp [go_sem, execOp, hfn, hcs, h2, hx0, hx1, hx2, hx3, hx4, hx5, hx6, hx7, hx8, hx9, hx10]
        · cases ho
          have hg : ca.tmps.getD 23 undef = .bool true := Am.look_of (j := 16) hlook (by kernel_rfl) rfl rfl
          have h2 := Am.eval_tmp (Am.look_old (t := 2) hlook (by kernel_rfl) (by kernel_rfl) rfl)
          have hx0 : w1.cell? ⟨W.heap.size, 0, none⟩ = some (.slice pp n0 pc) := by simp [World.cell?, hP1]
          have hx1 : w1.cell? ⟨W.heap.size, 1, none⟩ = some (.slice cp n1 cc) := by simp [World.cell?, hP1]
          have hx2 : w1.cell? ⟨W.heap.size, 2, none⟩ = some (.slice sp n2 sc) := by simp [World.cell?, hP1]
          have hx3 : w1.cell? ⟨W.heap.size, 3, none⟩ = some (.int .u64 m0) := by simp [World.cell?, hP1]
          have hx4 : w1.cell? ⟨W.heap.size, 4, none⟩ = some (.int .u64 m1) := by simp [World.cell?, hP1]
          have hx5 : w1.cell? ⟨W.heap.size, 5, none⟩ = some (.int .u64 m2) := by simp [World.cell?, hP1]
          have hx6 : w1.cell? ⟨W.heap.size, 6, none⟩ = some (.int .u64 m3) := by simp [World.cell?, hP1]
          have hx7 : w1.cell? ⟨W.heap.size, 7, none⟩ = some (.int .u64 m4) := by simp [World.cell?, hP1]
          have hx8 : w1.cell? ⟨W.heap.size, 8, none⟩ = some (.int .u64 m5) := by simp [World.cell?, hP1]
          have hx9 : w1.cell? ⟨W.heap.size, 9, none⟩ = some (.int .u64 m6) := by simp [World.cell?, hP1]
          have hx10 : w1.cell? ⟨W.heap.size, 10, none⟩ = some (.int .u64 m7) := by simp [World.cell?, hP1]
          refine Am.wpOp_run_g rfl rfl rfl hg rfl (Am.wp_value (v := .agg #[.slice pp n0 pc, .slice cp n1 cc, .slice sp n2 sc, .int .u64 m0, .int .u64 m1, .int .u64 m2, .int .u64 m3, .int .u64 m4, .int .u64 m5, .int .u64 m6, .int .u64 m7]) ?_ (hK _ _ (Below.refl _ _) rfl))
          generalize ca.eval = ev at *
          simp [go_sem, execOp, hfn, hcs, h2, hx0, hx1, hx2, hx3, hx4, hx5, hx6, hx7, hx8, hx9, hx10]
        · cases ho
          have hg : ca.tmps.getD 23 undef = .bool true := Am.look_of (j := 16) hlook (by kernel_rfl) rfl rfl
          have h24 : (ca.tmps.getD 24 undef) = (.agg #[.slice pp n0 pc, .slice cp n1 cc, .slice sp n2 sc, .int .u64 m0, .int .u64 m1, .int .u64 m2, .int .u64 m3, .int .u64 m4, .int .u64 m5, .int .u64 m6, .int .u64 m7]) := Am.look_of (j := 17) hlook (by kernel_rfl) rfl rfl
          replace h24 := Am.eval_tmp h24
          have h25 : (ca.tmps.getD 25 undef) = (.agg #[.slice pp n0 pc, .slice cp n1 cc, .slice sp n2 sc, .int .u64 m0, .int .u64 m1, .int .u64 m2, .int .u64 m3, .int .u64 m4, .int .u64 m5, .int .u64 m6, .int .u64 m7]) := Am.look_of (j := 18) hlook (by kernel_rfl) rfl rfl
          replace h25 := Am.eval_tmp h25
          refine Am.wpOp_run_g rfl rfl rfl hg rfl (Am.wp_enter (w' := w1) (f := 10) (args := #[.agg #[.slice pp n0 pc, .slice cp n1 cc, .slice sp n2 sc, .int .u64 m0, .int .u64 m1, .int .u64 m2, .int .u64 m3, .int .u64 m4, .int .u64 m5, .int .u64 m6, .int .u64 m7], .agg #[.slice pp n0 pc, .slice cp n1 cc, .slice sp n2 sc, .int .u64 m0, .int .u64 m1, .int .u64 m2, .int .u64 m3, .int .u64 m4, .int .u64 m5, .int .u64 m6, .int .u64 m7]]) ?_ ((G5.out w1 hb0).mono ?_))
          · generalize ca.eval = ev at *
            simp [go_sem, execOp, hfn, hcs, h24, h25]
          · rintro e w' ⟨rfl, hb'⟩
            exact ⟨_, rfl, hK _ _ hb' rfl⟩
        · cases ho
          have hg : ca.tmps.getD 15 undef = .bool false := Am.look_of (j := 8) hlook (by kernel_rfl) rfl rfl
          have h23 : (ca.tmps.getD 23 undef) = .bool true := Am.look_of (j := 16) hlook (by kernel_rfl) rfl rfl
          replace h23 := Am.eval_tmp h23
          have h26 : (ca.tmps.getD 26 undef) = .bool true := Am.look_of (j := 19) hlook (by kernel_rfl) rfl rfl
          replace h26 := Am.eval_tmp h26
          refine Am.wpOp_run_g rfl rfl rfl hg rfl (Am.wp_value (v := .bool true) ?_ (hK _ _ (Below.refl _ _) rfl))
          generalize ca.eval = ev at *
          simp [go_sem, execOp, hfn, hcs, h23, h26]
        · cases ho
          have h15 : (ca.tmps.getD 15 undef) = .bool false := Am.look_of (j := 8) hlook (by kernel_rfl) rfl rfl
          replace h15 := Am.eval_tmp h15
          have h27 : (ca.tmps.getD 27 undef) = .bool true := Am.look_of (j := 20) hlook (by kernel_rfl) rfl rfl
          replace h27 := Am.eval_tmp h27
          refine Am.wpOp_run rfl rfl (Am.wp_value (v := .bool true) ?_ (hK _ _ (Below.refl _ _) rfl))
          generalize ca.eval = ev at *
          simp [go_sem, execOp, hfn, hcs, h15, h27]
        · cases ho
          have h28 : (ca.tmps.getD 28 undef) = .bool true := Am.look_of (j := 21) hlook (by kernel_rfl) rfl rfl
          replace h28 := Am.eval_tmp h28
          refine Am.wpOp_run rfl rfl (Am.wp_value (v := .bool true) ?_ (hK _ _ (Below.refl _ _) rfl))
          generalize ca.eval = ev at *
          simp [go_sem, execOp, hfn, hcs, h28]
        · simp at ho
      · intro ca w1 hb hd hs hphi hoth
        have h4 : ca.tmps.getD 4 undef = .bool true := hphi 22 _ 4 rfl rfl
        go_wp2
        refine bodyPost_ret (results_tmp (t := 4) (by rfl) _ _ _) hd ?_
        exact ⟨by rw [h4], HB.out.trans (hb.mono HB.out.size)⟩
end Go.Proofs.YtbgjanmheagilaaDoor
