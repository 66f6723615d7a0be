/- FlowPosts: the nearest place that all ways have: the law's own walk. Conditions: none. -/
import Derived.Outline
import Derived.Test.YtjocifamacpamaaFlowS
import Derived.Test.YtjocifamacpamaaFlowAw
import Derived.Test.YtjocifamacpamaaAmP
namespace Go.Proofs.Ytjocifamacpamaa
open Go.RowKit
set_option linter.unusedVariables false
set_option linter.unusedSimpArgs false
def phiP (A : Value) (fb : Bool) (L : List Int) : Nat → World → Value → Prop
  | 0, w, v => v = A
  | 1, w, v => v = .bool fb
  | 2, w, v => v = .bool (!fb)
  | 3, w, v => v = .bool (!fb)
  | 4, w, v => fb = true → v = A
  | 5, w, v => fb = true → Ints 0 w v L
  | 6, w, v => fb = true → v = A
  | 7, w, v => fb = true → Ints 0 w v L
  | 8, w, v => fb = true → v = .bool true
  | 9, w, v => v = .bool true
  | _, w, v => v = .bool true
theorem phiP_below {A : Value} {fb : Bool} {L : List Int} : ∀ (k : Nat) (w w' : World) (v : Value), Below w.heap.size w w' → phiP A fb L k w v → phiP A fb L k w' v := by
  intro k w w' v hb h
  unfold phiP at *
  split at h <;> first | exact h | exact fun h1 => Ints_below (h h1) hb
set_option maxHeartbeats 2000000 in
theorem fposts_law (v0 v1 v3 v4 v5 : Value) (p : Option Addr) (len cap : Nat) (fb : Bool) (L : List Int) (hL : L.length ≤ 1000) (w : World)
    (hf : ∀ w1, Calls Try.prog 22 #[.agg #[v0, v1, .slice p len cap, v3, v4, v5]] w1 fun e w' => e = .returned (.bool fb) ∧ Below w1.heap.size w1 w')
    (hn : fb = true → ∀ w1, Below w.heap.size w w1 → Calls Try.prog 26 #[.agg #[v0, v1, .slice p len cap, v3, v4, v5]] w1 fun e w' => ∃ v, e = .returned v ∧ Below w1.heap.size w1 w' ∧ Ints 0 w' v L)
    (hr : fb = true → ∀ w1, Below w.heap.size w w1 → Calls Try.prog 27 #[.agg #[v0, v1, .slice p len cap, v3, v4, v5]] w1 fun e w' => ∃ v, e = .returned v ∧ Below w1.heap.size w1 w' ∧ Ints 0 w' v L) :
    Calls Try.prog 8 #[.agg #[v0, v1, .slice p len cap, v3, v4, v5]] w fun e w' => e = .returned (.bool true) ∧ Below w.heap.size w w' := by
  have Hf := hid hf
  have Hn := hid hn
  have Hr := hid hr
  clear hf hn hr
  go_enter Try.func8, Try.ntmps8
  go_wp2_with (go_at_call 21; refine (awake18 _).mono ?_; rintro e w' ⟨rfl, hb⟩; obtain ⟨g1, rfl⟩ := bout hb; clear hb)
  refine Am.draw_phi (Φ := phiP (.agg #[v0, v1, .slice p len cap, v3, v4, v5]) fb L) (by kernel_rfl) (by kernel_rfl) (by kernel_rfl) phiP_below ?_ ?_
  · intro k o ca w1 ho hb hlook K hK
    have hb0 : Below w.heap.size w w1 := by
      refine Below.trans ?_ (hb.mono (by simp; omega))
      repeat (first | exact Below.refl _ _ | refine bG ?_ _ | refine bI ?_ _ _ | refine bA ?_ _)
    have hfn : ∀ f, ca.eval (.func f) = .func (.func f) #[] #[] := fun _ => rfl
    have hcs : ∀ v, ca.eval (.const v) = v := fun _ => rfl
    rcases k with _ | _ | _ | _ | _ | _ | _ | _ | _ | _ | _ | k
    · cases ho
      have h1 := Am.eval_tmp (Am.look_old (t := 1) hlook (by kernel_rfl) (by kernel_rfl) rfl)
      obtain ⟨g, rfl⟩ := bout hb
      refine Am.wpOp_run rfl rfl (Am.wp_value (v := .agg #[v0, v1, .slice p len cap, v3, v4, v5]) ?_ (hK _ _ (Below.refl _ _) rfl))
      generalize ca.eval = ev at *
      simp [go_sem, execOp, hfn, hcs, h1]
    · cases ho
      have h5 : (ca.tmps.getD 5 undef) = (.agg #[v0, v1, .slice p len cap, v3, v4, v5]) := Am.look_of (j := 0) hlook (by kernel_rfl) rfl rfl
      replace h5 := Am.eval_tmp h5
      refine Am.wpOp_run rfl rfl (Am.wp_enter (w' := w1) (f := 22) (args := #[.agg #[v0, v1, .slice p len cap, v3, v4, v5]]) ?_ ((Hf.out w1).mono ?_))
      · generalize ca.eval = ev at *
        simp [go_sem, execOp, hfn, hcs, h5]
      · rintro e w' ⟨rfl, hb'⟩
        exact ⟨_, rfl, hK _ _ hb' rfl⟩
    · cases ho
      have h6 : (ca.tmps.getD 6 undef) = .bool fb := Am.look_of (j := 1) hlook (by kernel_rfl) rfl rfl
      replace h6 := Am.eval_tmp h6
      refine Am.wpOp_run rfl rfl (Am.wp_value (v := .bool (!fb)) ?_ (hK _ _ (Below.refl _ _) rfl))
      generalize ca.eval = ev at *
      simp [go_sem, execOp, hfn, hcs, h6]
    · cases ho
      have h7 : (ca.tmps.getD 7 undef) = .bool (!fb) := Am.look_of (j := 2) hlook (by kernel_rfl) rfl rfl
      replace h7 := Am.eval_tmp h7
      refine Am.wpOp_run rfl rfl (Am.wp_value (v := .bool (!fb)) ?_ (hK _ _ (Below.refl _ _) rfl))
      generalize ca.eval = ev at *
      simp [go_sem, execOp, hfn, hcs, h7]
    · cases ho
      have hg : ca.tmps.getD 8 undef = .bool (!fb) := Am.look_of (j := 3) hlook (by kernel_rfl) rfl rfl
      cases fb
      · exact Am.wpOp_skip_g rfl rfl rfl hg rfl (hK _ _ (Below.refl _ _) (fun h => nomatch h))
      have h1 := Am.eval_tmp (Am.look_old (t := 1) hlook (by kernel_rfl) (by kernel_rfl) rfl)
      obtain ⟨g, rfl⟩ := bout hb
      refine Am.wpOp_run_g rfl rfl rfl hg rfl (Am.wp_value (v := .agg #[v0, v1, .slice p len cap, v3, v4, v5]) ?_ (hK _ _ (Below.refl _ _) (fun _ => rfl)))
      generalize ca.eval = ev at *
      simp [go_sem, execOp, hfn, hcs, h1]
    · cases ho
      have hg : ca.tmps.getD 8 undef = .bool (!fb) := Am.look_of (j := 3) hlook (by kernel_rfl) rfl rfl
      cases fb
      · exact Am.wpOp_skip_g rfl rfl rfl hg rfl (hK _ _ (Below.refl _ _) (fun h => nomatch h))
      have h9 : true = true → (ca.tmps.getD 9 undef) = (.agg #[v0, v1, .slice p len cap, v3, v4, v5]) := Am.look_of (j := 4) hlook (by kernel_rfl) rfl rfl
      replace h9 := h9 rfl
      replace h9 := Am.eval_tmp h9
      refine Am.wpOp_run_g rfl rfl rfl hg rfl (Am.wp_enter (w' := w1) (f := 26) (args := #[.agg #[v0, v1, .slice p len cap, v3, v4, v5]]) ?_ ((Hn.out rfl w1 hb0).mono ?_))
      · generalize ca.eval = ev at *
        simp [go_sem, execOp, hfn, hcs, h9]
      · rintro e w' ⟨v, rfl, hb', hi⟩
        exact ⟨_, rfl, hK _ _ hb' (fun _ => hi)⟩
    · cases ho
      have hg : ca.tmps.getD 8 undef = .bool (!fb) := Am.look_of (j := 3) hlook (by kernel_rfl) rfl rfl
      cases fb
      · exact Am.wpOp_skip_g rfl rfl rfl hg rfl (hK _ _ (Below.refl _ _) (fun h => nomatch h))
      have h1 := Am.eval_tmp (Am.look_old (t := 1) hlook (by kernel_rfl) (by kernel_rfl) rfl)
      obtain ⟨g, rfl⟩ := bout hb
      refine Am.wpOp_run_g rfl rfl rfl hg rfl (Am.wp_value (v := .agg #[v0, v1, .slice p len cap, v3, v4, v5]) ?_ (hK _ _ (Below.refl _ _) (fun _ => rfl)))
      generalize ca.eval = ev at *
      simp [go_sem, execOp, hfn, hcs, h1]
    · cases ho
      have hg : ca.tmps.getD 8 undef = .bool (!fb) := Am.look_of (j := 3) hlook (by kernel_rfl) rfl rfl
      cases fb
      · exact Am.wpOp_skip_g rfl rfl rfl hg rfl (hK _ _ (Below.refl _ _) (fun h => nomatch h))
      have h11 : true = true → (ca.tmps.getD 11 undef) = (.agg #[v0, v1, .slice p len cap, v3, v4, v5]) := Am.look_of (j := 6) hlook (by kernel_rfl) rfl rfl
      replace h11 := h11 rfl
      replace h11 := Am.eval_tmp h11
      refine Am.wpOp_run_g rfl rfl rfl hg rfl (Am.wp_enter (w' := w1) (f := 27) (args := #[.agg #[v0, v1, .slice p len cap, v3, v4, v5]]) ?_ ((Hr.out rfl w1 hb0).mono ?_))
      · generalize ca.eval = ev at *
        simp [go_sem, execOp, hfn, hcs, h11]
      · rintro e w' ⟨v, rfl, hb', hi⟩
        exact ⟨_, rfl, hK _ _ hb' (fun _ => hi)⟩
    · cases ho
      have hg : ca.tmps.getD 8 undef = .bool (!fb) := Am.look_of (j := 3) hlook (by kernel_rfl) rfl rfl
      cases fb
      · exact Am.wpOp_skip_g rfl rfl rfl hg rfl (hK _ _ (Below.refl _ _) (fun h => nomatch h))
      have h10 : true = true → Ints 0 w1 (ca.tmps.getD 10 undef) L := Am.look_of (j := 5) hlook (by kernel_rfl) rfl rfl
      replace h10 := h10 rfl
      have e10 : ca.eval (.tmp 10) = ca.tmps.getD 10 undef := rfl
      generalize ca.tmps.getD 10 undef = x10 at *
      have h12 : true = true → Ints 0 w1 (ca.tmps.getD 12 undef) L := Am.look_of (j := 7) hlook (by kernel_rfl) rfl rfl
      replace h12 := h12 rfl
      have e12 : ca.eval (.tmp 12) = ca.tmps.getD 12 undef := rfl
      generalize ca.tmps.getD 12 undef = x12 at *
      refine Am.wpOp_run_g rfl rfl rfl hg rfl (Am.wp_enter (w' := w1) (f := 23) (args := #[x10, x12]) ?_ ((same_any 0 0 _ _ L L (by omega) w1 h10 h12).mono ?_))
      · generalize ca.eval = ev at *
        simp [go_sem, execOp, hfn, hcs, e10, e12]
      · rintro e w' ⟨rfl, hb'⟩
        exact ⟨_, rfl, hK _ _ hb' (fun _ => by simp)⟩
    · cases ho
      have h8 : (ca.tmps.getD 8 undef) = .bool (!fb) := Am.look_of (j := 3) hlook (by kernel_rfl) rfl rfl
      replace h8 := Am.eval_tmp h8
      have hp : fb = true → (ca.tmps.getD 13 undef) = .bool true := Am.look_of (j := 8) hlook (by kernel_rfl) rfl rfl
      have hp2 := fun h => Am.eval_tmp (hp h)
      refine Am.wpOp_run rfl rfl (Am.wp_value (v := .bool true) ?_ (hK _ _ (Below.refl _ _) rfl))
      generalize ca.eval = ev at *
      cases fb
      · simp [go_sem, execOp, hfn, hcs, h8]
      · simp [go_sem, execOp, hfn, hcs, h8, hp2 rfl]
    · cases ho
      have h14 : (ca.tmps.getD 14 undef) = .bool true := Am.look_of (j := 9) hlook (by kernel_rfl) rfl rfl
      replace h14 := Am.eval_tmp h14
      refine Am.wpOp_run rfl rfl (Am.wp_value (v := .bool true) ?_ (hK _ _ (Below.refl _ _) rfl))
      generalize ca.eval = ev at *
      simp [go_sem, execOp, hfn, hcs, h14]
    · simp at ho
  · intro ca w1 hb hd hs hphi hoth
    have h4 : ca.tmps.getD 2 undef = .bool true := hphi 10 _ 2 rfl rfl
    obtain ⟨tm, df⟩ := ca
    simp only at hd
    subst hd
    go_wp2
    go_ret
    refine ⟨congrArg _ h4, ?_⟩
    refine Below.trans ?_ (hb.mono (by simp; omega))
    repeat (first | exact Below.refl _ _ | refine bG ?_ _ | refine bI ?_ _ _ | refine bA ?_ _)
end Go.Proofs.Ytjocifamacpamaa
