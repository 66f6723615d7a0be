/- flow.Writes, walked. Conditions: none. -/
import Derived.Test.YtjocifamacpamaaFlowWc
import Derived.Test.YtjocifamacpamaaFlowWd
import Derived.Test.YtjocifamacpamaaAmR
namespace Go.Proofs.Ytjocifamacpamaa
open Go.RowKit
set_option linter.unusedVariables false
set_option linter.unusedSimpArgs false
def phiW (A : Value) (B a len : Nat) (L P : List Int) (z : Int) (R : List Bool) : Nat → World → Value → Prop
  | 0, w, v => v = A
  | 1, w, v => v = A
  | 2, w, v => v = .int .i64 a
  | 3, w, v => Ints B w v L
  | 4, w, v => v = A
  | 5, w, v => Ints 0 w v P
  | 6, w, v => v = .int .i64 a
  | 7, w, v => ∃ g o : Nat, v = .pointer (some ⟨g, o, none⟩) ∧ w.cell? ⟨g, o, none⟩ = some (.int .i64 z)
  | 8, w, v => v = .int .i64 z
  | 9, w, v => w.ownsRow B 4 1 v len (R.map Value.bool)
  | 10, w, v => v = .int .i64 len
  | _, w, v => v = .int .i64 0
theorem phiW_below {A : Value} {B a len : Nat} {L P : List Int} {z : Int} {R : List Bool} : ∀ (k : Nat) (w w' : World) (v : Value), Below w.heap.size w w' → phiW A B a len L P z R k w v → phiW A B a len L P z R k w' v := by
  intro k w w' v hb h
  unfold phiW at *
  split at h <;> first | exact h | exact own_below h hb | exact Ints_below h hb | exact (fun ⟨g, o, e, hc⟩ => ⟨g, o, e, cell_stays hb hc⟩) h
theorem phiW_below2 {A : Value} {B a len : Nat} {L P : List Int} {z : Int} {R : List Bool} {B0 : Nat} : ∀ (k : Nat) (w w' : World) (v : Value), k ≠ 9 → [3, 5, 7].contains k = false → Below B0 w w' → phiW A B a len L P z R k w v → phiW A B a len L P z R k w' v := by
  intro k w w' v hk hs hb h
  unfold phiW at *
  split at h <;> first | exact h | exact absurd hs (by decide) | exact absurd rfl hk
set_option maxRecDepth 10000 in
set_option maxHeartbeats 8000000 in
theorem fwrites_35 (v0 v1 v3 v4 v5 : Value) (p : Option Addr) (len cap : Nat) (ws : Nat → Int) (a : Nat) (ha : a < len) (w : World) (hw : Wds w.heap.size w p len ws) (m : Int) (hm : w.cell? ⟨0, 0, none⟩ = some (.int .i64 m)) (he0 : eS (ws a) = 0) (hop : opS (ws a) = 35)
    (R : List Bool) (hRl : R.length = len) (k0 : Nat) (hk0 : k0 ≤ 10000) (hR : fromF (nxW len ws) (postS (nxW len ws) len a) k0 (nxW len ws a) (List.replicate len false) = some R) :
    Calls Try.prog 30 #[.agg #[v0, v1, .slice p len cap, v3, v4, v5], .int .i64 a] w fun e w' => ∃ v, e = .returned v ∧ Below w.heap.size w w' ∧ Ints 0 w' v (Lib.compact ((outW ws R len).mergeSort fun x y => decide (x ≤ y))) := by
  have hl := hw.few
  have ha1 : (a : Int) < (len : Int) := by omega
  have ha0 : (0 : Int) ≤ (a : Int) := by omega
  obtain ⟨bp, op, rfl, hbp, hcp⟩ := hw.lie (by omega)
  have hcpa := hcp a ha
  obtain ⟨b', c', hdec, _⟩ := dec_full (ws a)
  have hda := fun w => dec_any (ws a) (hw.wf a ha).1 (hw.wf a ha).2 w
  rw [hdec, he0, hop] at hda
  simp only [insV] at hda
  have Hda := hid hda
  have Hw := hid hw
  have HR := hid hR
  have HRl := hid hRl
  have Hm := hid hm
  clear hw hm he0 hop hdec hda hcp hR hRl
  go_enter Try.func30, Try.ntmps30
  go_wp2_with (go_at_call 19; refine (Hda.out _).mono ?_; rintro e w' ⟨rfl, hb⟩; obtain ⟨g1, rfl⟩ := bout hb; clear hb)
  have hB1 : Below w.heap.size w ((grow (w.alloc (.cells #[v0, v1, .slice (some ⟨bp, op, none⟩) len cap, v3, v4, v5] 48)) g1).alloc (.cells #[.int .i64 35, .int .i64 (aS (ws a)), .int .i64 b', .int .i64 c', .int .i64 (fdS (ws a))] 23)) := bA (bG (bA (Below.refl _ _) _) _) _
  have hP : ((grow (w.alloc (.cells #[v0, v1, .slice (some ⟨bp, op, none⟩) len cap, v3, v4, v5] 48)) g1).alloc (.cells #[.int .i64 35, .int .i64 (aS (ws a)), .int .i64 b', .int .i64 c', .int .i64 (fdS (ws a))] 23)).heap[w.heap.size]? = some (.cells #[v0, v1, .slice (some ⟨bp, op, none⟩) len cap, v3, v4, v5] 48 (0, 0)) := by
    rw [heap_alloc_old _ _ (by simp; omega), heap_grow _ _ _ (by simp)]; exact heap_alloc_new _ _
  generalize (grow (w.alloc (.cells #[v0, v1, .slice (some ⟨bp, op, none⟩) len cap, v3, v4, v5] 48)) g1).alloc (.cells #[.int .i64 35, .int .i64 (aS (ws a)), .int .i64 b', .int .i64 c', .int .i64 (fdS (ws a))] 23) = W1 at *
  have hbs1 := hB1.size
  have hW1 := Hw.out.up hB1 hbs1
  have Hn : Hid (∀ w1, Below W1.heap.size W1 w1 → Calls Try.prog 24 #[.agg #[v0, v1, .slice (some ⟨bp, op, none⟩) len cap, v3, v4, v5], .int .i64 a] w1 fun e w' => ∃ v, e = .returned v ∧ Below w1.heap.size w1 w' ∧ Ints w1.heap.size w' v (nxW len ws a)) :=
    hid fun w1 h => (hW1.up h h.size).next v0 v1 v3 v4 v5 cap a ha (Nat.le_refl _)
  have Hp : Hid (∀ w1, Below W1.heap.size W1 w1 → Calls Try.prog 26 #[.agg #[v0, v1, .slice (some ⟨bp, op, none⟩) len cap, v3, v4, v5]] w1 fun e w' => ∃ v, e = .returned v ∧ Below w1.heap.size w1 w' ∧ Ints w1.heap.size w' v ((List.range len).map fun i : Nat => postS (nxW len ws) len i)) :=
    hid fun w1 h => posts_any v0 v1 v3 v4 v5 _ len cap ws w1 (hW1.up h h.size)
  have HPl : Hid (a < ((List.range len).map fun i : Nat => postS (nxW len ws) len i).length) := hid (by simpa using ha)
  have HPz : Hid (((List.range len).map fun i : Nat => postS (nxW len ws) len i)[a]'HPl.out = postS (nxW len ws) len a) := hid (by simp)
  have HP0 : Hid (((List.range len).map fun i : Nat => postS (nxW len ws) len i) ≠ []) := hid fun e => by have := HPl.out; rw [e] at this; simp at this
  have Hfrom : Hid (∀ (w1 : World) (tv : Value), Below W1.heap.size W1 w1 → Ints W1.heap.size w1 tv (nxW len ws a) → Calls Try.prog 48 #[.agg #[v0, v1, .slice (some ⟨bp, op, none⟩) len cap, v3, v4, v5], tv, .int .i64 (postS (nxW len ws) len a)] w1 fun e w' => ∃ v, e = .returned v ∧ Below W1.heap.size w1 w' ∧ w'.ownsRow w1.heap.size 4 1 v len (R.map Value.bool)) :=
    hid fun w1 tv h hT => by
      have hw1 := hW1.below h
      obtain ⟨bq, oq, hpq, hbq, hcq⟩ := hw1.lie (by omega)
      cases hpq
      exact from_any v0 v1 v3 v4 v5 bp op len cap W1.heap.size ws hw1.wf hl w1 hbq h.size hcq tv (nxW len ws a) hT (nextS_in len (ws a) a) _ k0 R (by have := nextS_len len (ws a) a; show (nextS len (ws a) a).length + k0 ≤ 100000; omega) HR.out
  have HB1 := hid hB1
  have HP := hid hP
  have HW1 := hid hW1
  clear hB1 hP hW1
  generalize ((List.range len).map fun i : Nat => postS (nxW len ws) len i) = P at *
  generalize postS (nxW len ws) len a = z at *
  generalize nxW len ws a = L at *
  refine Am.draw_phi2 (Φ := phiW (.agg #[v0, v1, .slice (some ⟨bp, op, none⟩) len cap, v3, v4, v5]) W1.heap.size a len L P z R) (by kernel_rfl) (by kernel_rfl) (by kernel_rfl) 9 (fun j => [3, 5, 7].contains j) (by kernel_rfl) phiW_below (fun i w w' v h1 h2 h3 => phiW_below2 i w w' v h1 h2 h3) ?_ ?_
  · intro k o ca w1 ho hb hlook K hK
    have hb0 : Below W1.heap.size W1 w1 := hb.trans (Below.refl _ _)
    have hP1 : w1.heap[w.heap.size]? = some (.cells #[v0, v1, .slice (some ⟨bp, op, none⟩) len cap, v3, v4, v5] 48 (0, 0)) := (hb0.block _ (Array.getElem?_eq_some_iff.1 HP.out).1).trans HP.out
    have hfn : ∀ f, ca.eval (.func f) = .func (.func f) #[] #[] := fun _ => rfl
    have hcs : ∀ v, ca.eval (.const v) = v := fun _ => rfl
    rcases k with _ | _ | _ | _ | _ | _ | _ | _ | _ | _ | _ | _ | k
    · cases ho
      replace hK := fun v w' (h : Below w1.heap.size w1 w') => hK v w' (by rw [if_neg (by decide)]; exact h)
      have h2 := Am.eval_tmp (Am.look_old (t := 2) hlook (by kernel_rfl) (by kernel_rfl) rfl)
      have hc0 : w1.cell? ⟨w.heap.size, 0, none⟩ = some (v0) := by simp [World.cell?, hP1]
      have hc1 : w1.cell? ⟨w.heap.size, 1, none⟩ = some (v1) := by simp [World.cell?, hP1]
      have hc2 : w1.cell? ⟨w.heap.size, 2, none⟩ = some (.slice (some ⟨bp, op, none⟩) len cap) := by simp [World.cell?, hP1]
      have hc3 : w1.cell? ⟨w.heap.size, 3, none⟩ = some (v3) := by simp [World.cell?, hP1]
      have hc4 : w1.cell? ⟨w.heap.size, 4, none⟩ = some (v4) := by simp [World.cell?, hP1]
      have hc5 : w1.cell? ⟨w.heap.size, 5, none⟩ = some (v5) := by simp [World.cell?, hP1]
      refine Am.wpOp_run rfl rfl (Am.wp_value (v := .agg #[v0, v1, .slice (some ⟨bp, op, none⟩) len cap, v3, v4, v5]) ?_ (hK _ _ (Below.refl _ _) rfl))
      generalize ca.eval = ev at *
      simp [go_sem, execOp, hfn, hcs, h2, hc0, hc1, hc2, hc3, hc4, hc5]
    · cases ho
      replace hK := fun v w' (h : Below w1.heap.size w1 w') => hK v w' (by rw [if_neg (by decide)]; exact h)
      have h2 := Am.eval_tmp (Am.look_old (t := 2) hlook (by kernel_rfl) (by kernel_rfl) rfl)
      have hc0 : w1.cell? ⟨w.heap.size, 0, none⟩ = some (v0) := by simp [World.cell?, hP1]
      have hc1 : w1.cell? ⟨w.heap.size, 1, none⟩ = some (v1) := by simp [World.cell?, hP1]
      have hc2 : w1.cell? ⟨w.heap.size, 2, none⟩ = some (.slice (some ⟨bp, op, none⟩) len cap) := by simp [World.cell?, hP1]
      have hc3 : w1.cell? ⟨w.heap.size, 3, none⟩ = some (v3) := by simp [World.cell?, hP1]
      have hc4 : w1.cell? ⟨w.heap.size, 4, none⟩ = some (v4) := by simp [World.cell?, hP1]
      have hc5 : w1.cell? ⟨w.heap.size, 5, none⟩ = some (v5) := by simp [World.cell?, hP1]
      refine Am.wpOp_run rfl rfl (Am.wp_value (v := .agg #[v0, v1, .slice (some ⟨bp, op, none⟩) len cap, v3, v4, v5]) ?_ (hK _ _ (Below.refl _ _) rfl))
      generalize ca.eval = ev at *
      simp [go_sem, execOp, hfn, hcs, h2, hc0, hc1, hc2, hc3, hc4, hc5]
    · cases ho
      replace hK := fun v w' (h : Below w1.heap.size w1 w') => hK v w' (by rw [if_neg (by decide)]; exact h)
      have h1 := Am.eval_tmp (Am.look_old (t := 1) hlook (by kernel_rfl) (by kernel_rfl) rfl)
      refine Am.wpOp_run rfl rfl (Am.wp_value (v := .int .i64 a) ?_ (hK _ _ (Below.refl _ _) rfl))
      generalize ca.eval = ev at *
      simp [go_sem, execOp, hfn, hcs, h1]
    · cases ho
      replace hK := fun v w' (h : Below w1.heap.size w1 w') => hK v w' (by rw [if_neg (by decide)]; exact h)
      have h43 : (ca.tmps.getD 43 undef) = (.agg #[v0, v1, .slice (some ⟨bp, op, none⟩) len cap, v3, v4, v5]) := Am.look_of (j := 1) hlook (by kernel_rfl) rfl rfl
      replace h43 := Am.eval_tmp h43
      have h44 : (ca.tmps.getD 44 undef) = .int .i64 a := Am.look_of (j := 2) hlook (by kernel_rfl) rfl rfl
      replace h44 := Am.eval_tmp h44
      refine Am.wpOp_run rfl rfl (Am.wp_enter (w' := w1) (f := 24) (args := #[.agg #[v0, v1, .slice (some ⟨bp, op, none⟩) len cap, v3, v4, v5], .int .i64 a]) ?_ ((Hn.out w1 hb0).mono ?_))
      · generalize ca.eval = ev at *
        simp [go_sem, execOp, hfn, hcs, h43, h44]
      · rintro e w' ⟨v, rfl, hb', hi⟩
        exact ⟨_, rfl, hK _ _ hb' (Ints_base' hi hb0.size)⟩
    · cases ho
      replace hK := fun v w' (h : Below w1.heap.size w1 w') => hK v w' (by rw [if_neg (by decide)]; exact h)
      have h2 := Am.eval_tmp (Am.look_old (t := 2) hlook (by kernel_rfl) (by kernel_rfl) rfl)
      have hc0 : w1.cell? ⟨w.heap.size, 0, none⟩ = some (v0) := by simp [World.cell?, hP1]
      have hc1 : w1.cell? ⟨w.heap.size, 1, none⟩ = some (v1) := by simp [World.cell?, hP1]
      have hc2 : w1.cell? ⟨w.heap.size, 2, none⟩ = some (.slice (some ⟨bp, op, none⟩) len cap) := by simp [World.cell?, hP1]
      have hc3 : w1.cell? ⟨w.heap.size, 3, none⟩ = some (v3) := by simp [World.cell?, hP1]
      have hc4 : w1.cell? ⟨w.heap.size, 4, none⟩ = some (v4) := by simp [World.cell?, hP1]
      have hc5 : w1.cell? ⟨w.heap.size, 5, none⟩ = some (v5) := by simp [World.cell?, hP1]
      refine Am.wpOp_run rfl rfl (Am.wp_value (v := .agg #[v0, v1, .slice (some ⟨bp, op, none⟩) len cap, v3, v4, v5]) ?_ (hK _ _ (Below.refl _ _) rfl))
      generalize ca.eval = ev at *
      simp [go_sem, execOp, hfn, hcs, h2, hc0, hc1, hc2, hc3, hc4, hc5]
    · cases ho
      replace hK := fun v w' (h : Below w1.heap.size w1 w') => hK v w' (by rw [if_neg (by decide)]; exact h)
      have h46 : (ca.tmps.getD 46 undef) = (.agg #[v0, v1, .slice (some ⟨bp, op, none⟩) len cap, v3, v4, v5]) := Am.look_of (j := 4) hlook (by kernel_rfl) rfl rfl
      replace h46 := Am.eval_tmp h46
      refine Am.wpOp_run rfl rfl (Am.wp_enter (w' := w1) (f := 26) (args := #[.agg #[v0, v1, .slice (some ⟨bp, op, none⟩) len cap, v3, v4, v5]]) ?_ ((Hp.out w1 hb0).mono ?_))
      · generalize ca.eval = ev at *
        simp [go_sem, execOp, hfn, hcs, h46]
      · rintro e w' ⟨v, rfl, hb', hi⟩
        exact ⟨_, rfl, hK _ _ hb' (Ints_base' hi (Nat.zero_le _))⟩
    · cases ho
      replace hK := fun v w' (h : Below w1.heap.size w1 w') => hK v w' (by rw [if_neg (by decide)]; exact h)
      have h1 := Am.eval_tmp (Am.look_old (t := 1) hlook (by kernel_rfl) (by kernel_rfl) rfl)
      refine Am.wpOp_run rfl rfl (Am.wp_value (v := .int .i64 a) ?_ (hK _ _ (Below.refl _ _) rfl))
      generalize ca.eval = ev at *
      simp [go_sem, execOp, hfn, hcs, h1]
    · cases ho
      replace hK := fun v w' (h : Below w1.heap.size w1 w') => hK v w' (by rw [if_neg (by decide)]; exact h)
      have h47 : Ints 0 w1 (ca.tmps.getD 47 undef) P := Am.look_of (j := 5) hlook (by kernel_rfl) rfl rfl
      have e47 : ca.eval (.tmp 47) = ca.tmps.getD 47 undef := rfl
      generalize ca.tmps.getD 47 undef = x47 at *
      have h48 : (ca.tmps.getD 48 undef) = .int .i64 a := Am.look_of (j := 6) hlook (by kernel_rfl) rfl rfl
      replace h48 := Am.eval_tmp h48
      obtain ⟨q, c, rfl, hq⟩ := h47.out
      obtain ⟨b2, o2, rfl, _, _, hcell⟩ := hq HP0.out
      have hqa := HPz.out ▸ hcell a HPl.out
      have hge1 : (0 : Int) ≤ (a : Int) := by omega
      have hlt1 : (a : Int) < (P.length : Int) := by have := HPl.out; omega
      refine Am.wpOp_run rfl rfl (Am.wp_value (v := .pointer (some ⟨b2, o2 + a, none⟩)) ?_ (hK _ _ (Below.refl _ _) ⟨_, _, rfl, hqa⟩))
      generalize ca.eval = ev at *
      simp [go_sem, execOp, hfn, hcs, e47, h48, hlt1, hge1]
    · cases ho
      replace hK := fun v w' (h : Below w1.heap.size w1 w') => hK v w' (by rw [if_neg (by decide)]; exact h)
      have h49 : ∃ g o : Nat, (ca.tmps.getD 49 undef) = .pointer (some ⟨g, o, none⟩) ∧ w1.cell? ⟨g, o, none⟩ = some (.int .i64 z) := Am.look_of (j := 7) hlook (by kernel_rfl) rfl rfl
      obtain ⟨b2, o2, h49, hq⟩ := h49
      replace h49 := Am.eval_tmp h49
      refine Am.wpOp_run rfl rfl (Am.wp_value (v := .int .i64 z) ?_ (hK _ _ (Below.refl _ _) rfl))
      generalize ca.eval = ev at *
      simp [go_sem, execOp, hfn, hcs, h49, hq]
    · cases ho
      replace hK := fun v w' (h : Below W1.heap.size w1 w') => hK v w' (by rw [if_pos rfl]; exact h)
      have h42 : (ca.tmps.getD 42 undef) = (.agg #[v0, v1, .slice (some ⟨bp, op, none⟩) len cap, v3, v4, v5]) := Am.look_of (j := 0) hlook (by kernel_rfl) rfl rfl
      replace h42 := Am.eval_tmp h42
      have h45 : Ints W1.heap.size w1 (ca.tmps.getD 45 undef) L := Am.look_of (j := 3) hlook (by kernel_rfl) rfl rfl
      have e45 : ca.eval (.tmp 45) = ca.tmps.getD 45 undef := rfl
      generalize ca.tmps.getD 45 undef = x45 at *
      have h50 : (ca.tmps.getD 50 undef) = .int .i64 z := Am.look_of (j := 8) hlook (by kernel_rfl) rfl rfl
      replace h50 := Am.eval_tmp h50
      refine Am.wpOp_run rfl rfl (Am.wp_enter (w' := w1) (f := 48) (args := #[.agg #[v0, v1, .slice (some ⟨bp, op, none⟩) len cap, v3, v4, v5], x45, .int .i64 z]) ?_ ((Hfrom.out w1 _ hb0 h45).mono ?_))
      · generalize ca.eval = ev at *
        simp [go_sem, execOp, hfn, hcs, h42, e45, h50]
      · rintro e w' ⟨v, rfl, hb', hi⟩
        exact ⟨_, rfl, hK _ _ hb' (own_base hi hb0.size)⟩
    · cases ho
      replace hK := fun v w' (h : Below w1.heap.size w1 w') => hK v w' (by rw [if_neg (by decide)]; exact h)
      have h51 : w1.ownsRow W1.heap.size 4 1 (ca.tmps.getD 51 undef) len (R.map Value.bool) := Am.look_of (j := 9) hlook (by kernel_rfl) rfl rfl
      have e51 : ca.eval (.tmp 51) = ca.tmps.getD 51 undef := rfl
      generalize ca.tmps.getD 51 undef = x51 at *
      obtain ⟨q, c, rfl⟩ := own_slice h51
      refine Am.wpOp_run rfl rfl (Am.wp_value (v := .int .i64 len) ?_ (hK _ _ (Below.refl _ _) rfl))
      generalize ca.eval = ev at *
      simp [go_sem, execOp, hfn, hcs, e51]
    · cases ho
      replace hK := fun v w' (h : Below w1.heap.size w1 w') => hK v w' (by rw [if_neg (by decide)]; exact h)
      refine Am.wpOp_run rfl rfl (Am.wp_value (v := .int .i64 0) ?_ (hK _ _ (Below.refl _ _) rfl))
      generalize ca.eval = ev at *
      simp [go_sem, execOp, hfn, hcs]
    · simp at ho
  · intro ca w1 hb hd hs hphi hoth
    have h51 : w1.ownsRow W1.heap.size 4 1 (ca.tmps.getD 51 undef) len (R.map Value.bool) := hphi 9 _ 51 rfl rfl rfl
    have h52 : ca.tmps.getD 52 undef = .int .i64 len := hphi 10 _ 52 rfl rfl rfl
    have h53 : ca.tmps.getD 53 undef = .int .i64 0 := hphi 11 _ 53 rfl rfl rfl
    have hca := frame_out hd hs hoth
    simp only [List.foldl_cons, List.foldl_nil, h52, h53] at hca
    generalize ca.tmps.getD 42 undef = x42 at hca
    generalize ca.tmps.getD 43 undef = x43 at hca
    generalize ca.tmps.getD 44 undef = x44 at hca
    generalize ca.tmps.getD 45 undef = x45 at hca
    generalize ca.tmps.getD 46 undef = x46 at hca
    generalize ca.tmps.getD 47 undef = x47 at hca
    generalize ca.tmps.getD 48 undef = x48 at hca
    generalize ca.tmps.getD 49 undef = x49 at hca
    generalize ca.tmps.getD 50 undef = x50 at hca
    generalize ca.tmps.getD 51 undef = x51 at hca h51
    subst hca
    simp only [List.setIfInBounds_toArray, List.set_cons_succ, List.set_cons_zero]
    have hb0 : Below W1.heap.size W1 w1 := hb.trans (Below.refl _ _)
    clear hb hd hs hphi hoth h52 h53
    generalize w1 = W2 at *
    have hP2 := (hb0.block _ (Array.getElem?_eq_some_iff.1 HP.out).1).trans HP.out
    have hB2 : Below w.heap.size w W2 := HB1.out.trans (hb0.mono hbs1)
    have hbs2 := hB2.size
    have hs12 := hb0.size
    have hW2 := HW1.out.below hb0
    obtain ⟨bg, bc, rfl⟩ := own_slice h51
    have HB2 := hid hB2
    have HP2 := hid hP2
    have HW2 := hid hW2
    have H51 := hid h51
    clear hB2 hP2 hW2 h51 HP HB1 HW1 Hn Hp Hfrom hb0
    go_wp2
    go_loopw [7, 53] (fun ov i wr => ∃ k : Nat, k ≤ len ∧ i = .int .i64 k ∧ Below W2.heap.size W2 wr ∧ Ints W2.heap.size wr ov (outW ws R k)) (fun _ i _ => len - (intOf i).toNat)
    case atStart => exact ⟨0, by omega, rfl, Below.refl _ _, rfl, .inl ⟨rfl, rfl⟩⟩
    case round =>
      obtain ⟨k, hk, rfl, hB, hI⟩ := hrel
      have hbs := hB.size
      by_cases hlt : k < len
      · have hk1 : (k : Int) < (len : Int) := by omega
        have hk0 : (0 : Int) ≤ (k : Int) := by omega
        obtain ⟨g, rfl⟩ : ∃ g, bg = some ⟨g, 0, none⟩ := by
          rcases H51.out.2 with ⟨_, h⟩ | ⟨g, _, _, h, _⟩
          · omega
          · cases h; exact ⟨g, rfl⟩
        have hcb : wr.cell? ⟨g, k, none⟩ = some (.bool (R.getD k false)) := by
          have := World.ownsRow.cellAt H51.out k (by omega)
          refine cell_stays hB ?_
          rw [this]; simp [List.getD, HRl.out, hlt]
        obtain ⟨bq, oq, hpq, hbq, hcq⟩ := (HW2.out.below (hB.mono (by omega))).lie (by omega)
        cases hpq
        have hcw := hcq k hlt
        have hbpl : bp < wr.heap.size := by omega
        have hc2 : wr.cell? ⟨w.heap.size, 2, none⟩ = some (.slice (some ⟨bp, op, none⟩) len cap) := by
          simp [World.cell?, (hB.block _ (Array.getElem?_eq_some_iff.1 HP2.out).1).trans HP2.out]
        have hwl : w.heap.size < wr.heap.size := by have := (Array.getElem?_eq_some_iff.1 HP2.out).1; omega
        obtain ⟨b2, c2, hdec, hcase⟩ := dec_full (ws k)
        have hda := fun w => dec_any (ws k) (Hw.out.wf k hlt).1 (Hw.out.wf k hlt).2 w
        rw [hdec] at hda
        simp only [insV] at hda
        have Hdk := hid hda
        have Hcase := hid hcase
        have HB := hid hB
        have HI := hid hI
        have hout := outW_succ ws R k
        have Hout := hid hout
        have hol := outW_len ws R k
        clear hB hI hcq hdec hda hcase hout
        cases hRk : R.getD k false with
        | false =>
          rw [hRk] at hcb
          have Hno : Hid (outW ws R (k + 1) = outW ws R k) := hid (by rw [Hout.out, hRk]; simp)
          clear hRk Hout
          go_wp2_with (go_at_call 19; refine (Hdk.out _).mono ?_; rintro e w' ⟨rfl, hb⟩; obtain ⟨g2, rfl⟩ := bout hb; clear hb)
          go_roundw
          case rel =>
            refine ⟨k + 1, by omega, by go_num, bA (bG HB.out _) _, ?_⟩
            rw [Hno.out]
            exact Ints_below (Ints_below HI.out (below_grow _ _)) (bA (Below.refl _ _) _)
          case measure => simp [intOf]; omega
        | true =>
          rw [hRk] at hcb
          rcases Hcase.out with ⟨he, hn0, hn1, ha0, ha1, hfm⟩ | he
          · rw [he] at Hdk
            obtain ⟨n, hn⟩ : ∃ n : Nat, opS (ws k) = n := ⟨(opS (ws k)).toNat, by omega⟩
            have hnm := fun W => name_any (n : Int) W
            have hcon : Lib.contains wrB (⟨#[32]⟩ ++ nmI (n : Int) ++ ⟨#[32]⟩ : ByteArray).data.toList = wrN n := by
              have h1 := List.all_eq_true.1 cont_all n (List.mem_range.2 (by omega))
              rw [hn] at hfm
              have h2 : (fmN n).data.toList.isEmpty = false := by
                have h4 : fmI (n : Int) = fmN n := by simp [fmI]
                rw [h4] at hfm
                cases hd : (fmN n).data.toList with
                | cons x l => rfl
                | nil =>
                  have h5 : fmN n = ⟨#[]⟩ := by
                    cases hf2 : fmN n with
                    | mk d => rw [hf2] at hd; simp at hd; rw [hd]
                  rw [h5] at hfm; exact absurd hfm (by decide +kernel)
              rw [h2] at h1
              simp only [Bool.false_or, beq_iff_eq] at h1
              have h3 : nmI (n : Int) = nmN n := by simp [nmI]
              rw [h3, ← h1]
              simp
            have hcont : ∀ (s : ByteArray) W, s.data.toList = wrB → s.size < 4294967281 → Below wr.heap.size wr W → Calls Try.prog 50 #[.string s, .string (⟨#[32]⟩ ++ nmI (n : Int) ++ ⟨#[32]⟩)] W fun e w' => e = .returned (.bool (wrN n)) ∧ w' = W := fun s W h1 h2 h3 => by
              have hmW : W.cell? ⟨0, 0, none⟩ = some (.int .i64 m) := cell_stays (HB2.out.trans (((HB.out).trans (h3.mono hbs)).mono hbs2)) Hm.out
              have := Try.strings_Contains s (⟨#[32]⟩ ++ nmI (n : Int) ++ ⟨#[32]⟩) m W h2 hmW
              rwa [h1, hcon] at this
            rw [hn] at Hdk
            have hwC : wC (ws k) = wrN n := by unfold wC; rw [he, hn]; simp
            have hNs : (nmI (n : Int)).size ≤ 20 := by
              have h1 := List.all_eq_true.1 nm_all n (List.mem_range.2 (by omega))
              have h3 : nmI (n : Int) = nmN n := by simp [nmI]
              rw [h3]; exact Nat.le_of_ble_eq_true h1
            have Hnm := hid hnm
            have Hcont := hid hcont
            have HwC := hid hwC
            clear hnm hcont hcon hwC hn hfm he ha0 ha1 hn0 hn1
            generalize nmI (n : Int) = N at *
            generalize aS (ws k) = av at *
            generalize wrN n = bw at *
            cases bw with
            | false =>
              have Hno : Hid (outW ws R (k + 1) = outW ws R k) := hid (by rw [Hout.out, hRk, HwC.out]; simp)
              clear hRk Hout
              go_wp2_with (first
                | (go_at_call 19; refine (Hdk.out _).mono ?_; rintro e w' ⟨rfl, hb⟩; obtain ⟨g2, rfl⟩ := bout hb; clear hb)
                | (go_at_call 17; refine (Hnm.out _).mono ?_; rintro e w' ⟨rfl, hb⟩; obtain ⟨g3, rfl⟩ := bout hb; clear hb)
                | (go_at_call 50; refine (Hcont.out _ _ (by kernel_rfl) (by decide +kernel) (by repeat (first | exact Below.refl _ _ | refine bG ?_ _ | refine bI ?_ _ _ | refine bA ?_ _))).mono ?_; rintro e w' ⟨rfl, rfl⟩))
              go_roundw
              case rel =>
                refine ⟨k + 1, by omega, by go_num, bG (bA (bG HB.out _) _) _, ?_⟩
                rw [Hno.out]
                exact Ints_below (Ints_below (Ints_below HI.out (below_grow _ _)) (bA (Below.refl _ _) _)) (below_grow _ _)
              case measure => simp [intOf]; omega
            | true =>
              have Hyes : Hid (outW ws R (k + 1) = outW ws R k ++ [av]) := hid (by rw [Hout.out, hRk, HwC.out]; simp)
              clear hRk Hout
              go_wp2_with (first
                | (go_at_call 19; refine (Hdk.out _).mono ?_; rintro e w' ⟨rfl, hb⟩; obtain ⟨g2, rfl⟩ := bout hb; clear hb)
                | (go_at_call 17; refine (Hnm.out _).mono ?_; rintro e w' ⟨rfl, hb⟩; obtain ⟨g3, rfl⟩ := bout hb; clear hb)
                | (go_at_call 50; refine (Hcont.out _ _ (by kernel_rfl) (by decide +kernel) (by repeat (first | exact Below.refl _ _ | refine bG ?_ _ | refine bI ?_ _ _ | refine bA ?_ _))).mono ?_; rintro e w' ⟨rfl, rfl⟩)
                | (at_builtin; go_loud (refine wpList_append_int rfl _ _ rfl W2.heap.size u7 (outW ws R k) av _ 1 rfl ?aown rfl ?acell ?alen ?abase ?arest)))
              case aown => exact Ints_below HI.out (bA (bG (bA (bG (Below.refl _ _) _) _) _) _)
              case acell =>
                rw [World.cell?_alloc_at _ _ _ _ (by simp)]
                rfl
              case alen => first | omega | (simp; omega)
              case abase => simp; omega
              case arest =>
                intro v' w5 h1 h2 h3
                go_wp2
                go_roundw
                case rel =>
                  refine ⟨k + 1, by omega, by go_num, ?_, by rw [Hyes.out]; exact h1⟩
                  exact Below.grown (HB.out.trans ((bA (bG (bA (bG (Below.refl _ _) _) _) _) _).mono hbs)) h2 (by simp; omega) fun g hg => HI.out.2.elim (fun h => by rw [h.1] at hg; cases hg) fun ⟨g', _, _, e, hle, _⟩ => by rw [e] at hg; cases hg; exact hle
                case measure => simp [intOf]; omega
          · rw [he] at Hdk
            have Hno : Hid (outW ws R (k + 1) = outW ws R k) := hid (by rw [Hout.out, hRk]; unfold wC; rw [he]; simp)
            clear hRk Hout he
            go_wp2_with (go_at_call 19; refine (Hdk.out _).mono ?_; rintro e w' ⟨rfl, hb⟩; obtain ⟨g2, rfl⟩ := bout hb; clear hb)
            go_roundw
            case rel =>
              refine ⟨k + 1, by omega, by go_num, bA (bG HB.out _) _, ?_⟩
              rw [Hno.out]
              exact Ints_below (Ints_below HI.out (below_grow _ _)) (bA (Below.refl _ _) _)
            case measure => simp [intOf]; omega
      · obtain rfl : k = len := by omega
        have hol := outW_len ws R k
        have HB := hid hB
        have hso := fun W hW => sort_ints W2.heap.size u7 (outW ws R k) (by omega) W hW
        have Hso := hid (hso wr hI)
        clear hB hI hso
        go_wp2_with (first
          | (go_at_call 39; refine Hso.out.mono ?_; rintro e w5 ⟨rfl, hb5, hI5⟩; have Hb5 := hid hb5; have Hco := hid (compact_ints W2.heap.size u7 _ (by simp; omega) w5 hI5); clear hb5 hI5)
          | (go_at_call 40; refine Hco.out.mono ?_; rintro e w6 ⟨v', rfl, hb6, hI6⟩; have Hb6 := hid hb6; have HI6 := hid hI6; clear hb6 hI6))
        go_ret
        exact ⟨_, rfl, HB2.out.trans ((HB.out.trans (Hb5.out.trans Hb6.out)).mono hbs2), Ints_base' HI6.out (Nat.zero_le _)⟩
set_option maxRecDepth 10000 in
set_option maxHeartbeats 8000000 in
theorem fwrites_36 (v0 v1 v3 v4 v5 : Value) (p : Option Addr) (len cap : Nat) (ws : Nat → Int) (a : Nat) (ha : a < len) (w : World) (hw : Wds w.heap.size w p len ws) (m : Int) (hm : w.cell? ⟨0, 0, none⟩ = some (.int .i64 m)) (he0 : eS (ws a) = 0) (hop : opS (ws a) = 36)
    (R : List Bool) (hRl : R.length = len) (k0 : Nat) (hk0 : k0 ≤ 10000) (hR : fromF (nxW len ws) (postS (nxW len ws) len a) k0 (nxW len ws a) (List.replicate len false) = some R) :
    Calls Try.prog 30 #[.agg #[v0, v1, .slice p len cap, v3, v4, v5], .int .i64 a] w fun e w' => ∃ v, e = .returned v ∧ Below w.heap.size w w' ∧ Ints 0 w' v (Lib.compact ((outW ws R len).mergeSort fun x y => decide (x ≤ y))) := by
  have hl := hw.few
  have ha1 : (a : Int) < (len : Int) := by omega
  have ha0 : (0 : Int) ≤ (a : Int) := by omega
  obtain ⟨bp, op, rfl, hbp, hcp⟩ := hw.lie (by omega)
  have hcpa := hcp a ha
  obtain ⟨b', c', hdec, _⟩ := dec_full (ws a)
  have hda := fun w => dec_any (ws a) (hw.wf a ha).1 (hw.wf a ha).2 w
  rw [hdec, he0, hop] at hda
  simp only [insV] at hda
  have Hda := hid hda
  have Hw := hid hw
  have HR := hid hR
  have HRl := hid hRl
  have Hm := hid hm
  clear hw hm he0 hop hdec hda hcp hR hRl
  go_enter Try.func30, Try.ntmps30
  go_wp2_with (go_at_call 19; refine (Hda.out _).mono ?_; rintro e w' ⟨rfl, hb⟩; obtain ⟨g1, rfl⟩ := bout hb; clear hb)
  have hB1 : Below w.heap.size w ((grow (w.alloc (.cells #[v0, v1, .slice (some ⟨bp, op, none⟩) len cap, v3, v4, v5] 48)) g1).alloc (.cells #[.int .i64 36, .int .i64 (aS (ws a)), .int .i64 b', .int .i64 c', .int .i64 (fdS (ws a))] 23)) := bA (bG (bA (Below.refl _ _) _) _) _
  have hP : ((grow (w.alloc (.cells #[v0, v1, .slice (some ⟨bp, op, none⟩) len cap, v3, v4, v5] 48)) g1).alloc (.cells #[.int .i64 36, .int .i64 (aS (ws a)), .int .i64 b', .int .i64 c', .int .i64 (fdS (ws a))] 23)).heap[w.heap.size]? = some (.cells #[v0, v1, .slice (some ⟨bp, op, none⟩) len cap, v3, v4, v5] 48 (0, 0)) := by
    rw [heap_alloc_old _ _ (by simp; omega), heap_grow _ _ _ (by simp)]; exact heap_alloc_new _ _
  generalize (grow (w.alloc (.cells #[v0, v1, .slice (some ⟨bp, op, none⟩) len cap, v3, v4, v5] 48)) g1).alloc (.cells #[.int .i64 36, .int .i64 (aS (ws a)), .int .i64 b', .int .i64 c', .int .i64 (fdS (ws a))] 23) = W1 at *
  have hbs1 := hB1.size
  have hW1 := Hw.out.up hB1 hbs1
  have Hn : Hid (∀ w1, Below W1.heap.size W1 w1 → Calls Try.prog 24 #[.agg #[v0, v1, .slice (some ⟨bp, op, none⟩) len cap, v3, v4, v5], .int .i64 a] w1 fun e w' => ∃ v, e = .returned v ∧ Below w1.heap.size w1 w' ∧ Ints w1.heap.size w' v (nxW len ws a)) :=
    hid fun w1 h => (hW1.up h h.size).next v0 v1 v3 v4 v5 cap a ha (Nat.le_refl _)
  have Hp : Hid (∀ w1, Below W1.heap.size W1 w1 → Calls Try.prog 26 #[.agg #[v0, v1, .slice (some ⟨bp, op, none⟩) len cap, v3, v4, v5]] w1 fun e w' => ∃ v, e = .returned v ∧ Below w1.heap.size w1 w' ∧ Ints w1.heap.size w' v ((List.range len).map fun i : Nat => postS (nxW len ws) len i)) :=
    hid fun w1 h => posts_any v0 v1 v3 v4 v5 _ len cap ws w1 (hW1.up h h.size)
  have HPl : Hid (a < ((List.range len).map fun i : Nat => postS (nxW len ws) len i).length) := hid (by simpa using ha)
  have HPz : Hid (((List.range len).map fun i : Nat => postS (nxW len ws) len i)[a]'HPl.out = postS (nxW len ws) len a) := hid (by simp)
  have HP0 : Hid (((List.range len).map fun i : Nat => postS (nxW len ws) len i) ≠ []) := hid fun e => by have := HPl.out; rw [e] at this; simp at this
  have Hfrom : Hid (∀ (w1 : World) (tv : Value), Below W1.heap.size W1 w1 → Ints W1.heap.size w1 tv (nxW len ws a) → Calls Try.prog 48 #[.agg #[v0, v1, .slice (some ⟨bp, op, none⟩) len cap, v3, v4, v5], tv, .int .i64 (postS (nxW len ws) len a)] w1 fun e w' => ∃ v, e = .returned v ∧ Below W1.heap.size w1 w' ∧ w'.ownsRow w1.heap.size 4 1 v len (R.map Value.bool)) :=
    hid fun w1 tv h hT => by
      have hw1 := hW1.below h
      obtain ⟨bq, oq, hpq, hbq, hcq⟩ := hw1.lie (by omega)
      cases hpq
      exact from_any v0 v1 v3 v4 v5 bp op len cap W1.heap.size ws hw1.wf hl w1 hbq h.size hcq tv (nxW len ws a) hT (nextS_in len (ws a) a) _ k0 R (by have := nextS_len len (ws a) a; show (nextS len (ws a) a).length + k0 ≤ 100000; omega) HR.out
  have HB1 := hid hB1
  have HP := hid hP
  have HW1 := hid hW1
  clear hB1 hP hW1
  generalize ((List.range len).map fun i : Nat => postS (nxW len ws) len i) = P at *
  generalize postS (nxW len ws) len a = z at *
  generalize nxW len ws a = L at *
  refine Am.draw_phi2 (Φ := phiW (.agg #[v0, v1, .slice (some ⟨bp, op, none⟩) len cap, v3, v4, v5]) W1.heap.size a len L P z R) (by kernel_rfl) (by kernel_rfl) (by kernel_rfl) 9 (fun j => [3, 5, 7].contains j) (by kernel_rfl) phiW_below (fun i w w' v h1 h2 h3 => phiW_below2 i w w' v h1 h2 h3) ?_ ?_
  · intro k o ca w1 ho hb hlook K hK
    have hb0 : Below W1.heap.size W1 w1 := hb.trans (Below.refl _ _)
    have hP1 : w1.heap[w.heap.size]? = some (.cells #[v0, v1, .slice (some ⟨bp, op, none⟩) len cap, v3, v4, v5] 48 (0, 0)) := (hb0.block _ (Array.getElem?_eq_some_iff.1 HP.out).1).trans HP.out
    have hfn : ∀ f, ca.eval (.func f) = .func (.func f) #[] #[] := fun _ => rfl
    have hcs : ∀ v, ca.eval (.const v) = v := fun _ => rfl
    rcases k with _ | _ | _ | _ | _ | _ | _ | _ | _ | _ | _ | _ | k
    · cases ho
      replace hK := fun v w' (h : Below w1.heap.size w1 w') => hK v w' (by rw [if_neg (by decide)]; exact h)
      have h2 := Am.eval_tmp (Am.look_old (t := 2) hlook (by kernel_rfl) (by kernel_rfl) rfl)
      have hc0 : w1.cell? ⟨w.heap.size, 0, none⟩ = some (v0) := by simp [World.cell?, hP1]
      have hc1 : w1.cell? ⟨w.heap.size, 1, none⟩ = some (v1) := by simp [World.cell?, hP1]
      have hc2 : w1.cell? ⟨w.heap.size, 2, none⟩ = some (.slice (some ⟨bp, op, none⟩) len cap) := by simp [World.cell?, hP1]
      have hc3 : w1.cell? ⟨w.heap.size, 3, none⟩ = some (v3) := by simp [World.cell?, hP1]
      have hc4 : w1.cell? ⟨w.heap.size, 4, none⟩ = some (v4) := by simp [World.cell?, hP1]
      have hc5 : w1.cell? ⟨w.heap.size, 5, none⟩ = some (v5) := by simp [World.cell?, hP1]
      refine Am.wpOp_run rfl rfl (Am.wp_value (v := .agg #[v0, v1, .slice (some ⟨bp, op, none⟩) len cap, v3, v4, v5]) ?_ (hK _ _ (Below.refl _ _) rfl))
      generalize ca.eval = ev at *
      simp [go_sem, execOp, hfn, hcs, h2, hc0, hc1, hc2, hc3, hc4, hc5]
    · cases ho
      replace hK := fun v w' (h : Below w1.heap.size w1 w') => hK v w' (by rw [if_neg (by decide)]; exact h)
      have h2 := Am.eval_tmp (Am.look_old (t := 2) hlook (by kernel_rfl) (by kernel_rfl) rfl)
      have hc0 : w1.cell? ⟨w.heap.size, 0, none⟩ = some (v0) := by simp [World.cell?, hP1]
      have hc1 : w1.cell? ⟨w.heap.size, 1, none⟩ = some (v1) := by simp [World.cell?, hP1]
      have hc2 : w1.cell? ⟨w.heap.size, 2, none⟩ = some (.slice (some ⟨bp, op, none⟩) len cap) := by simp [World.cell?, hP1]
      have hc3 : w1.cell? ⟨w.heap.size, 3, none⟩ = some (v3) := by simp [World.cell?, hP1]
      have hc4 : w1.cell? ⟨w.heap.size, 4, none⟩ = some (v4) := by simp [World.cell?, hP1]
      have hc5 : w1.cell? ⟨w.heap.size, 5, none⟩ = some (v5) := by simp [World.cell?, hP1]
      refine Am.wpOp_run rfl rfl (Am.wp_value (v := .agg #[v0, v1, .slice (some ⟨bp, op, none⟩) len cap, v3, v4, v5]) ?_ (hK _ _ (Below.refl _ _) rfl))
      generalize ca.eval = ev at *
      simp [go_sem, execOp, hfn, hcs, h2, hc0, hc1, hc2, hc3, hc4, hc5]
    · cases ho
      replace hK := fun v w' (h : Below w1.heap.size w1 w') => hK v w' (by rw [if_neg (by decide)]; exact h)
      have h1 := Am.eval_tmp (Am.look_old (t := 1) hlook (by kernel_rfl) (by kernel_rfl) rfl)
      refine Am.wpOp_run rfl rfl (Am.wp_value (v := .int .i64 a) ?_ (hK _ _ (Below.refl _ _) rfl))
      generalize ca.eval = ev at *
      simp [go_sem, execOp, hfn, hcs, h1]
    · cases ho
      replace hK := fun v w' (h : Below w1.heap.size w1 w') => hK v w' (by rw [if_neg (by decide)]; exact h)
      have h43 : (ca.tmps.getD 43 undef) = (.agg #[v0, v1, .slice (some ⟨bp, op, none⟩) len cap, v3, v4, v5]) := Am.look_of (j := 1) hlook (by kernel_rfl) rfl rfl
      replace h43 := Am.eval_tmp h43
      have h44 : (ca.tmps.getD 44 undef) = .int .i64 a := Am.look_of (j := 2) hlook (by kernel_rfl) rfl rfl
      replace h44 := Am.eval_tmp h44
      refine Am.wpOp_run rfl rfl (Am.wp_enter (w' := w1) (f := 24) (args := #[.agg #[v0, v1, .slice (some ⟨bp, op, none⟩) len cap, v3, v4, v5], .int .i64 a]) ?_ ((Hn.out w1 hb0).mono ?_))
      · generalize ca.eval = ev at *
        simp [go_sem, execOp, hfn, hcs, h43, h44]
      · rintro e w' ⟨v, rfl, hb', hi⟩
        exact ⟨_, rfl, hK _ _ hb' (Ints_base' hi hb0.size)⟩
    · cases ho
      replace hK := fun v w' (h : Below w1.heap.size w1 w') => hK v w' (by rw [if_neg (by decide)]; exact h)
      have h2 := Am.eval_tmp (Am.look_old (t := 2) hlook (by kernel_rfl) (by kernel_rfl) rfl)
      have hc0 : w1.cell? ⟨w.heap.size, 0, none⟩ = some (v0) := by simp [World.cell?, hP1]
      have hc1 : w1.cell? ⟨w.heap.size, 1, none⟩ = some (v1) := by simp [World.cell?, hP1]
      have hc2 : w1.cell? ⟨w.heap.size, 2, none⟩ = some (.slice (some ⟨bp, op, none⟩) len cap) := by simp [World.cell?, hP1]
      have hc3 : w1.cell? ⟨w.heap.size, 3, none⟩ = some (v3) := by simp [World.cell?, hP1]
      have hc4 : w1.cell? ⟨w.heap.size, 4, none⟩ = some (v4) := by simp [World.cell?, hP1]
      have hc5 : w1.cell? ⟨w.heap.size, 5, none⟩ = some (v5) := by simp [World.cell?, hP1]
      refine Am.wpOp_run rfl rfl (Am.wp_value (v := .agg #[v0, v1, .slice (some ⟨bp, op, none⟩) len cap, v3, v4, v5]) ?_ (hK _ _ (Below.refl _ _) rfl))
      generalize ca.eval = ev at *
      simp [go_sem, execOp, hfn, hcs, h2, hc0, hc1, hc2, hc3, hc4, hc5]
    · cases ho
      replace hK := fun v w' (h : Below w1.heap.size w1 w') => hK v w' (by rw [if_neg (by decide)]; exact h)
      have h46 : (ca.tmps.getD 46 undef) = (.agg #[v0, v1, .slice (some ⟨bp, op, none⟩) len cap, v3, v4, v5]) := Am.look_of (j := 4) hlook (by kernel_rfl) rfl rfl
      replace h46 := Am.eval_tmp h46
      refine Am.wpOp_run rfl rfl (Am.wp_enter (w' := w1) (f := 26) (args := #[.agg #[v0, v1, .slice (some ⟨bp, op, none⟩) len cap, v3, v4, v5]]) ?_ ((Hp.out w1 hb0).mono ?_))
      · generalize ca.eval = ev at *
        simp [go_sem, execOp, hfn, hcs, h46]
      · rintro e w' ⟨v, rfl, hb', hi⟩
        exact ⟨_, rfl, hK _ _ hb' (Ints_base' hi (Nat.zero_le _))⟩
    · cases ho
      replace hK := fun v w' (h : Below w1.heap.size w1 w') => hK v w' (by rw [if_neg (by decide)]; exact h)
      have h1 := Am.eval_tmp (Am.look_old (t := 1) hlook (by kernel_rfl) (by kernel_rfl) rfl)
      refine Am.wpOp_run rfl rfl (Am.wp_value (v := .int .i64 a) ?_ (hK _ _ (Below.refl _ _) rfl))
      generalize ca.eval = ev at *
      simp [go_sem, execOp, hfn, hcs, h1]
    · cases ho
      replace hK := fun v w' (h : Below w1.heap.size w1 w') => hK v w' (by rw [if_neg (by decide)]; exact h)
      have h47 : Ints 0 w1 (ca.tmps.getD 47 undef) P := Am.look_of (j := 5) hlook (by kernel_rfl) rfl rfl
      have e47 : ca.eval (.tmp 47) = ca.tmps.getD 47 undef := rfl
      generalize ca.tmps.getD 47 undef = x47 at *
      have h48 : (ca.tmps.getD 48 undef) = .int .i64 a := Am.look_of (j := 6) hlook (by kernel_rfl) rfl rfl
      replace h48 := Am.eval_tmp h48
      obtain ⟨q, c, rfl, hq⟩ := h47.out
      obtain ⟨b2, o2, rfl, _, _, hcell⟩ := hq HP0.out
      have hqa := HPz.out ▸ hcell a HPl.out
      have hge1 : (0 : Int) ≤ (a : Int) := by omega
      have hlt1 : (a : Int) < (P.length : Int) := by have := HPl.out; omega
      refine Am.wpOp_run rfl rfl (Am.wp_value (v := .pointer (some ⟨b2, o2 + a, none⟩)) ?_ (hK _ _ (Below.refl _ _) ⟨_, _, rfl, hqa⟩))
      generalize ca.eval = ev at *
      simp [go_sem, execOp, hfn, hcs, e47, h48, hlt1, hge1]
    · cases ho
      replace hK := fun v w' (h : Below w1.heap.size w1 w') => hK v w' (by rw [if_neg (by decide)]; exact h)
      have h49 : ∃ g o : Nat, (ca.tmps.getD 49 undef) = .pointer (some ⟨g, o, none⟩) ∧ w1.cell? ⟨g, o, none⟩ = some (.int .i64 z) := Am.look_of (j := 7) hlook (by kernel_rfl) rfl rfl
      obtain ⟨b2, o2, h49, hq⟩ := h49
      replace h49 := Am.eval_tmp h49
      refine Am.wpOp_run rfl rfl (Am.wp_value (v := .int .i64 z) ?_ (hK _ _ (Below.refl _ _) rfl))
      generalize ca.eval = ev at *
      simp [go_sem, execOp, hfn, hcs, h49, hq]
    · cases ho
      replace hK := fun v w' (h : Below W1.heap.size w1 w') => hK v w' (by rw [if_pos rfl]; exact h)
      have h42 : (ca.tmps.getD 42 undef) = (.agg #[v0, v1, .slice (some ⟨bp, op, none⟩) len cap, v3, v4, v5]) := Am.look_of (j := 0) hlook (by kernel_rfl) rfl rfl
      replace h42 := Am.eval_tmp h42
      have h45 : Ints W1.heap.size w1 (ca.tmps.getD 45 undef) L := Am.look_of (j := 3) hlook (by kernel_rfl) rfl rfl
      have e45 : ca.eval (.tmp 45) = ca.tmps.getD 45 undef := rfl
      generalize ca.tmps.getD 45 undef = x45 at *
      have h50 : (ca.tmps.getD 50 undef) = .int .i64 z := Am.look_of (j := 8) hlook (by kernel_rfl) rfl rfl
      replace h50 := Am.eval_tmp h50
      refine Am.wpOp_run rfl rfl (Am.wp_enter (w' := w1) (f := 48) (args := #[.agg #[v0, v1, .slice (some ⟨bp, op, none⟩) len cap, v3, v4, v5], x45, .int .i64 z]) ?_ ((Hfrom.out w1 _ hb0 h45).mono ?_))
      · generalize ca.eval = ev at *
        simp [go_sem, execOp, hfn, hcs, h42, e45, h50]
      · rintro e w' ⟨v, rfl, hb', hi⟩
        exact ⟨_, rfl, hK _ _ hb' (own_base hi hb0.size)⟩
    · cases ho
      replace hK := fun v w' (h : Below w1.heap.size w1 w') => hK v w' (by rw [if_neg (by decide)]; exact h)
      have h51 : w1.ownsRow W1.heap.size 4 1 (ca.tmps.getD 51 undef) len (R.map Value.bool) := Am.look_of (j := 9) hlook (by kernel_rfl) rfl rfl
      have e51 : ca.eval (.tmp 51) = ca.tmps.getD 51 undef := rfl
      generalize ca.tmps.getD 51 undef = x51 at *
      obtain ⟨q, c, rfl⟩ := own_slice h51
      refine Am.wpOp_run rfl rfl (Am.wp_value (v := .int .i64 len) ?_ (hK _ _ (Below.refl _ _) rfl))
      generalize ca.eval = ev at *
      simp [go_sem, execOp, hfn, hcs, e51]
    · cases ho
      replace hK := fun v w' (h : Below w1.heap.size w1 w') => hK v w' (by rw [if_neg (by decide)]; exact h)
      refine Am.wpOp_run rfl rfl (Am.wp_value (v := .int .i64 0) ?_ (hK _ _ (Below.refl _ _) rfl))
      generalize ca.eval = ev at *
      simp [go_sem, execOp, hfn, hcs]
    · simp at ho
  · intro ca w1 hb hd hs hphi hoth
    have h51 : w1.ownsRow W1.heap.size 4 1 (ca.tmps.getD 51 undef) len (R.map Value.bool) := hphi 9 _ 51 rfl rfl rfl
    have h52 : ca.tmps.getD 52 undef = .int .i64 len := hphi 10 _ 52 rfl rfl rfl
    have h53 : ca.tmps.getD 53 undef = .int .i64 0 := hphi 11 _ 53 rfl rfl rfl
    have hca := frame_out hd hs hoth
    simp only [List.foldl_cons, List.foldl_nil, h52, h53] at hca
    generalize ca.tmps.getD 42 undef = x42 at hca
    generalize ca.tmps.getD 43 undef = x43 at hca
    generalize ca.tmps.getD 44 undef = x44 at hca
    generalize ca.tmps.getD 45 undef = x45 at hca
    generalize ca.tmps.getD 46 undef = x46 at hca
    generalize ca.tmps.getD 47 undef = x47 at hca
    generalize ca.tmps.getD 48 undef = x48 at hca
    generalize ca.tmps.getD 49 undef = x49 at hca
    generalize ca.tmps.getD 50 undef = x50 at hca
    generalize ca.tmps.getD 51 undef = x51 at hca h51
    subst hca
    simp only [List.setIfInBounds_toArray, List.set_cons_succ, List.set_cons_zero]
    have hb0 : Below W1.heap.size W1 w1 := hb.trans (Below.refl _ _)
    clear hb hd hs hphi hoth h52 h53
    generalize w1 = W2 at *
    have hP2 := (hb0.block _ (Array.getElem?_eq_some_iff.1 HP.out).1).trans HP.out
    have hB2 : Below w.heap.size w W2 := HB1.out.trans (hb0.mono hbs1)
    have hbs2 := hB2.size
    have hs12 := hb0.size
    have hW2 := HW1.out.below hb0
    obtain ⟨bg, bc, rfl⟩ := own_slice h51
    have HB2 := hid hB2
    have HP2 := hid hP2
    have HW2 := hid hW2
    have H51 := hid h51
    clear hB2 hP2 hW2 h51 HP HB1 HW1 Hn Hp Hfrom hb0
    go_wp2
    go_loopw [7, 53] (fun ov i wr => ∃ k : Nat, k ≤ len ∧ i = .int .i64 k ∧ Below W2.heap.size W2 wr ∧ Ints W2.heap.size wr ov (outW ws R k)) (fun _ i _ => len - (intOf i).toNat)
    case atStart => exact ⟨0, by omega, rfl, Below.refl _ _, rfl, .inl ⟨rfl, rfl⟩⟩
    case round =>
      obtain ⟨k, hk, rfl, hB, hI⟩ := hrel
      have hbs := hB.size
      by_cases hlt : k < len
      · have hk1 : (k : Int) < (len : Int) := by omega
        have hk0 : (0 : Int) ≤ (k : Int) := by omega
        obtain ⟨g, rfl⟩ : ∃ g, bg = some ⟨g, 0, none⟩ := by
          rcases H51.out.2 with ⟨_, h⟩ | ⟨g, _, _, h, _⟩
          · omega
          · cases h; exact ⟨g, rfl⟩
        have hcb : wr.cell? ⟨g, k, none⟩ = some (.bool (R.getD k false)) := by
          have := World.ownsRow.cellAt H51.out k (by omega)
          refine cell_stays hB ?_
          rw [this]; simp [List.getD, HRl.out, hlt]
        obtain ⟨bq, oq, hpq, hbq, hcq⟩ := (HW2.out.below (hB.mono (by omega))).lie (by omega)
        cases hpq
        have hcw := hcq k hlt
        have hbpl : bp < wr.heap.size := by omega
        have hc2 : wr.cell? ⟨w.heap.size, 2, none⟩ = some (.slice (some ⟨bp, op, none⟩) len cap) := by
          simp [World.cell?, (hB.block _ (Array.getElem?_eq_some_iff.1 HP2.out).1).trans HP2.out]
        have hwl : w.heap.size < wr.heap.size := by have := (Array.getElem?_eq_some_iff.1 HP2.out).1; omega
        obtain ⟨b2, c2, hdec, hcase⟩ := dec_full (ws k)
        have hda := fun w => dec_any (ws k) (Hw.out.wf k hlt).1 (Hw.out.wf k hlt).2 w
        rw [hdec] at hda
        simp only [insV] at hda
        have Hdk := hid hda
        have Hcase := hid hcase
        have HB := hid hB
        have HI := hid hI
        have hout := outW_succ ws R k
        have Hout := hid hout
        have hol := outW_len ws R k
        clear hB hI hcq hdec hda hcase hout
        cases hRk : R.getD k false with
        | false =>
          rw [hRk] at hcb
          have Hno : Hid (outW ws R (k + 1) = outW ws R k) := hid (by rw [Hout.out, hRk]; simp)
          clear hRk Hout
          go_wp2_with (go_at_call 19; refine (Hdk.out _).mono ?_; rintro e w' ⟨rfl, hb⟩; obtain ⟨g2, rfl⟩ := bout hb; clear hb)
          go_roundw
          case rel =>
            refine ⟨k + 1, by omega, by go_num, bA (bG HB.out _) _, ?_⟩
            rw [Hno.out]
            exact Ints_below (Ints_below HI.out (below_grow _ _)) (bA (Below.refl _ _) _)
          case measure => simp [intOf]; omega
        | true =>
          rw [hRk] at hcb
          rcases Hcase.out with ⟨he, hn0, hn1, ha0, ha1, hfm⟩ | he
          · rw [he] at Hdk
            obtain ⟨n, hn⟩ : ∃ n : Nat, opS (ws k) = n := ⟨(opS (ws k)).toNat, by omega⟩
            have hnm := fun W => name_any (n : Int) W
            have hcon : Lib.contains wrB (⟨#[32]⟩ ++ nmI (n : Int) ++ ⟨#[32]⟩ : ByteArray).data.toList = wrN n := by
              have h1 := List.all_eq_true.1 cont_all n (List.mem_range.2 (by omega))
              rw [hn] at hfm
              have h2 : (fmN n).data.toList.isEmpty = false := by
                have h4 : fmI (n : Int) = fmN n := by simp [fmI]
                rw [h4] at hfm
                cases hd : (fmN n).data.toList with
                | cons x l => rfl
                | nil =>
                  have h5 : fmN n = ⟨#[]⟩ := by
                    cases hf2 : fmN n with
                    | mk d => rw [hf2] at hd; simp at hd; rw [hd]
                  rw [h5] at hfm; exact absurd hfm (by decide +kernel)
              rw [h2] at h1
              simp only [Bool.false_or, beq_iff_eq] at h1
              have h3 : nmI (n : Int) = nmN n := by simp [nmI]
              rw [h3, ← h1]
              simp
            have hcont : ∀ (s : ByteArray) W, s.data.toList = wrB → s.size < 4294967281 → Below wr.heap.size wr W → Calls Try.prog 50 #[.string s, .string (⟨#[32]⟩ ++ nmI (n : Int) ++ ⟨#[32]⟩)] W fun e w' => e = .returned (.bool (wrN n)) ∧ w' = W := fun s W h1 h2 h3 => by
              have hmW : W.cell? ⟨0, 0, none⟩ = some (.int .i64 m) := cell_stays (HB2.out.trans (((HB.out).trans (h3.mono hbs)).mono hbs2)) Hm.out
              have := Try.strings_Contains s (⟨#[32]⟩ ++ nmI (n : Int) ++ ⟨#[32]⟩) m W h2 hmW
              rwa [h1, hcon] at this
            rw [hn] at Hdk
            have hwC : wC (ws k) = wrN n := by unfold wC; rw [he, hn]; simp
            have hNs : (nmI (n : Int)).size ≤ 20 := by
              have h1 := List.all_eq_true.1 nm_all n (List.mem_range.2 (by omega))
              have h3 : nmI (n : Int) = nmN n := by simp [nmI]
              rw [h3]; exact Nat.le_of_ble_eq_true h1
            have Hnm := hid hnm
            have Hcont := hid hcont
            have HwC := hid hwC
            clear hnm hcont hcon hwC hn hfm he ha0 ha1 hn0 hn1
            generalize nmI (n : Int) = N at *
            generalize aS (ws k) = av at *
            generalize wrN n = bw at *
            cases bw with
            | false =>
              have Hno : Hid (outW ws R (k + 1) = outW ws R k) := hid (by rw [Hout.out, hRk, HwC.out]; simp)
              clear hRk Hout
              go_wp2_with (first
                | (go_at_call 19; refine (Hdk.out _).mono ?_; rintro e w' ⟨rfl, hb⟩; obtain ⟨g2, rfl⟩ := bout hb; clear hb)
                | (go_at_call 17; refine (Hnm.out _).mono ?_; rintro e w' ⟨rfl, hb⟩; obtain ⟨g3, rfl⟩ := bout hb; clear hb)
                | (go_at_call 50; refine (Hcont.out _ _ (by kernel_rfl) (by decide +kernel) (by repeat (first | exact Below.refl _ _ | refine bG ?_ _ | refine bI ?_ _ _ | refine bA ?_ _))).mono ?_; rintro e w' ⟨rfl, rfl⟩))
              go_roundw
              case rel =>
                refine ⟨k + 1, by omega, by go_num, bG (bA (bG HB.out _) _) _, ?_⟩
                rw [Hno.out]
                exact Ints_below (Ints_below (Ints_below HI.out (below_grow _ _)) (bA (Below.refl _ _) _)) (below_grow _ _)
              case measure => simp [intOf]; omega
            | true =>
              have Hyes : Hid (outW ws R (k + 1) = outW ws R k ++ [av]) := hid (by rw [Hout.out, hRk, HwC.out]; simp)
              clear hRk Hout
              go_wp2_with (first
                | (go_at_call 19; refine (Hdk.out _).mono ?_; rintro e w' ⟨rfl, hb⟩; obtain ⟨g2, rfl⟩ := bout hb; clear hb)
                | (go_at_call 17; refine (Hnm.out _).mono ?_; rintro e w' ⟨rfl, hb⟩; obtain ⟨g3, rfl⟩ := bout hb; clear hb)
                | (go_at_call 50; refine (Hcont.out _ _ (by kernel_rfl) (by decide +kernel) (by repeat (first | exact Below.refl _ _ | refine bG ?_ _ | refine bI ?_ _ _ | refine bA ?_ _))).mono ?_; rintro e w' ⟨rfl, rfl⟩)
                | (at_builtin; go_loud (refine wpList_append_int rfl _ _ rfl W2.heap.size u7 (outW ws R k) av _ 1 rfl ?aown rfl ?acell ?alen ?abase ?arest)))
              case aown => exact Ints_below HI.out (bA (bG (bA (bG (Below.refl _ _) _) _) _) _)
              case acell =>
                rw [World.cell?_alloc_at _ _ _ _ (by simp)]
                rfl
              case alen => first | omega | (simp; omega)
              case abase => simp; omega
              case arest =>
                intro v' w5 h1 h2 h3
                go_wp2
                go_roundw
                case rel =>
                  refine ⟨k + 1, by omega, by go_num, ?_, by rw [Hyes.out]; exact h1⟩
                  exact Below.grown (HB.out.trans ((bA (bG (bA (bG (Below.refl _ _) _) _) _) _).mono hbs)) h2 (by simp; omega) fun g hg => HI.out.2.elim (fun h => by rw [h.1] at hg; cases hg) fun ⟨g', _, _, e, hle, _⟩ => by rw [e] at hg; cases hg; exact hle
                case measure => simp [intOf]; omega
          · rw [he] at Hdk
            have Hno : Hid (outW ws R (k + 1) = outW ws R k) := hid (by rw [Hout.out, hRk]; unfold wC; rw [he]; simp)
            clear hRk Hout he
            go_wp2_with (go_at_call 19; refine (Hdk.out _).mono ?_; rintro e w' ⟨rfl, hb⟩; obtain ⟨g2, rfl⟩ := bout hb; clear hb)
            go_roundw
            case rel =>
              refine ⟨k + 1, by omega, by go_num, bA (bG HB.out _) _, ?_⟩
              rw [Hno.out]
              exact Ints_below (Ints_below HI.out (below_grow _ _)) (bA (Below.refl _ _) _)
            case measure => simp [intOf]; omega
      · obtain rfl : k = len := by omega
        have hol := outW_len ws R k
        have HB := hid hB
        have hso := fun W hW => sort_ints W2.heap.size u7 (outW ws R k) (by omega) W hW
        have Hso := hid (hso wr hI)
        clear hB hI hso
        go_wp2_with (first
          | (go_at_call 39; refine Hso.out.mono ?_; rintro e w5 ⟨rfl, hb5, hI5⟩; have Hb5 := hid hb5; have Hco := hid (compact_ints W2.heap.size u7 _ (by simp; omega) w5 hI5); clear hb5 hI5)
          | (go_at_call 40; refine Hco.out.mono ?_; rintro e w6 ⟨v', rfl, hb6, hI6⟩; have Hb6 := hid hb6; have HI6 := hid hI6; clear hb6 hI6))
        go_ret
        exact ⟨_, rfl, HB2.out.trans ((HB.out.trans (Hb5.out.trans Hb6.out)).mono hbs2), Ints_base' HI6.out (Nat.zero_le _)⟩
end Go.Proofs.Ytjocifamacpamaa
