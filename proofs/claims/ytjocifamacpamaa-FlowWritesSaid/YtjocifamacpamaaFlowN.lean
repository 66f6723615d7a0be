/- FlowNext: where any word of any function leads. Conditions: none. -/
import Derived.Outline
import Derived.Test.YtjocifamacpamaaFlowS
import Derived.Test.YtjocifamacpamaaFlowAw
import Derived.Test.YtjocifamacpamaaAmP
namespace Go.Proofs.Ytjocifamacpamaa
open Go.RowKit
set_option linter.unusedVariables false
set_option linter.unusedSimpArgs false
def phiN (A : Value) (i : Int) (fb : Bool) (L : List Int) : Nat → World → Value → Prop
  | 0, _, v => v = A
  | 1, _, v => v = .bool fb
  | 2, _, v => v = .bool (!fb)
  | 3, _, v => v = .bool (!fb)
  | 4, _, v => fb = true → v = A
  | 5, _, v => fb = true → v = .int .i64 i
  | 6, w, v => fb = true → Ints 0 w v L
  | 7, _, v => fb = true → v = A
  | 8, _, v => fb = true → v = .int .i64 i
  | 9, w, v => fb = true → Ints 0 w v L
  | 10, _, v => fb = true → v = .bool true
  | _, _, v => v = .bool true
theorem phiN_below {A : Value} {i : Int} {fb : Bool} {L : List Int} : ∀ (k : Nat) (w w' : World) (v : Value), Below w.heap.size w w' → phiN A i fb L k w v → phiN A i fb L k w' v := by
  intro k w w' v hb h
  unfold phiN at *
  split at h <;> first | exact h | exact fun h1 => Ints_below (h h1) hb
set_option maxHeartbeats 2000000 in
theorem fnext_any (v0 v1 v3 v4 v5 : Value) (p : Option Addr) (len cap : Nat) (i : Int) (fb : Bool) (L : List Int) (hL : L.length ≤ 1000) (w : World)
    (hf : ∀ w1, Calls Try.prog 22 #[.agg #[v0, v1, .slice p len cap, v3, v4, v5]] w1 fun e w' => e = .returned (.bool fb) ∧ Below w1.heap.size w1 w')
    (hn : fb = true → ∀ w1, Below w.heap.size w w1 → Calls Try.prog 24 #[.agg #[v0, v1, .slice p len cap, v3, v4, v5], .int .i64 i] w1 fun e w' => ∃ v, e = .returned v ∧ Below w1.heap.size w1 w' ∧ Ints 0 w' v L)
    (hr : fb = true → ∀ w1, Below w.heap.size w w1 → Calls Try.prog 25 #[.agg #[v0, v1, .slice p len cap, v3, v4, v5], .int .i64 i] w1 fun e w' => ∃ v, e = .returned v ∧ Below w1.heap.size w1 w' ∧ Ints 0 w' v L) :
    Calls Try.prog 7 #[.agg #[v0, v1, .slice p len cap, v3, v4, v5], .int .i64 i] w fun e w' => e = .returned (.bool true) ∧ Below w.heap.size w w' := by
  have Hf := hid hf
  have Hn := hid hn
  have Hr := hid hr
  clear hf hn hr
  go_enter Try.func7, Try.ntmps7
  go_wp2_with (go_at_call 21; refine (awake18 _).mono ?_; rintro e w' ⟨rfl, hb⟩; obtain ⟨g1, rfl⟩ := bout hb; clear hb)
  refine Am.draw_phi (Φ := phiN (.agg #[v0, v1, .slice p len cap, v3, v4, v5]) i fb L) (by kernel_rfl) (by kernel_rfl) (by kernel_rfl) phiN_below ?_ ?_
  · intro k o ca w1 ho hb hlook K hK
    have hb0 : Below w.heap.size w w1 := by
      refine Below.trans ?_ (hb.mono (by simp; omega))
      repeat (first | exact Below.refl _ _ | refine bG ?_ _ | refine bI ?_ _ _ | refine bA ?_ _)
    have hfn : ∀ f, ca.eval (.func f) = .func (.func f) #[] #[] := fun _ => rfl
    have hcs : ∀ v, ca.eval (.const v) = v := fun _ => rfl
    rcases k with _ | _ | _ | _ | _ | _ | _ | _ | _ | _ | _ | _ | _ | k
    · cases ho
      have h2 := Am.eval_tmp (Am.look_old (t := 2) hlook (by kernel_rfl) (by kernel_rfl) rfl)
      obtain ⟨g, rfl⟩ := bout hb
      refine Am.wpOp_run rfl rfl (Am.wp_value (v := .agg #[v0, v1, .slice p len cap, v3, v4, v5]) ?_ (hK _ _ (Below.refl _ _) rfl))
      · generalize ca.eval = ev at *
        simp [go_sem, execOp, hfn, hcs, h2]
    · cases ho
      have h1 : ca.tmps.getD 7 undef = _ := Am.look_of (j := 0) hlook (by kernel_rfl) rfl rfl
      have h1' := Am.eval_tmp h1
      refine Am.wpOp_run rfl rfl (Am.wp_enter (w' := w1) (f := 22) (args := #[.agg #[v0, v1, .slice p len cap, v3, v4, v5]]) ?_ ((Hf.out w1).mono ?_))
      · generalize ca.eval = ev at *
        simp [go_sem, execOp, hfn, hcs, h1']
      · rintro e w' ⟨rfl, hb'⟩
        exact ⟨_, rfl, hK _ _ hb' rfl⟩
    · cases ho
      have h1 : ca.tmps.getD 8 undef = _ := Am.look_of (j := 1) hlook (by kernel_rfl) rfl rfl
      have h1' := Am.eval_tmp h1
      refine Am.wpOp_run rfl rfl (Am.wp_value (v := .bool (!fb)) ?_ (hK _ _ (Below.refl _ _) rfl))
      · generalize ca.eval = ev at *
        simp [go_sem, execOp, hfn, hcs, h1']
    · cases ho
      have h1 : ca.tmps.getD 9 undef = _ := Am.look_of (j := 2) hlook (by kernel_rfl) rfl rfl
      have h1' := Am.eval_tmp h1
      refine Am.wpOp_run rfl rfl (Am.wp_value (v := .bool (!fb)) ?_ (hK _ _ (Below.refl _ _) rfl))
      · generalize ca.eval = ev at *
        simp [go_sem, execOp, hfn, hcs, h1']
    · cases ho
      have h2 := Am.eval_tmp (Am.look_old (t := 2) hlook (by kernel_rfl) (by kernel_rfl) rfl)
      have hg : ca.tmps.getD 10 undef = .bool (!fb) := Am.look_of (j := 3) hlook (by kernel_rfl) rfl rfl
      cases fb
      · exact Am.wpOp_skip_g rfl rfl rfl hg rfl (hK _ _ (Below.refl _ _) (fun h => nomatch h))
      obtain ⟨g, rfl⟩ := bout hb
      refine Am.wpOp_run_g rfl rfl rfl hg rfl (Am.wp_value (v := .agg #[v0, v1, .slice p len cap, v3, v4, v5]) ?_ (hK _ _ (Below.refl _ _) (fun _ => rfl)))
      · generalize ca.eval = ev at *
        simp [go_sem, execOp, hfn, hcs, h2]
    · cases ho
      have h1 := Am.eval_tmp (Am.look_old (t := 1) hlook (by kernel_rfl) (by kernel_rfl) rfl)
      have hg : ca.tmps.getD 10 undef = .bool (!fb) := Am.look_of (j := 3) hlook (by kernel_rfl) rfl rfl
      cases fb
      · exact Am.wpOp_skip_g rfl rfl rfl hg rfl (hK _ _ (Below.refl _ _) (fun h => nomatch h))
      refine Am.wpOp_run_g rfl rfl rfl hg rfl (Am.wp_value (v := .int .i64 i) ?_ (hK _ _ (Below.refl _ _) (fun _ => rfl)))
      · generalize ca.eval = ev at *
        simp [go_sem, execOp, hfn, hcs, h1]
    · cases ho
      have hg : ca.tmps.getD 10 undef = .bool (!fb) := Am.look_of (j := 3) hlook (by kernel_rfl) rfl rfl
      cases fb
      · exact Am.wpOp_skip_g rfl rfl rfl hg rfl (hK _ _ (Below.refl _ _) (fun h => nomatch h))
      have h1 : true = true → ca.tmps.getD 11 undef = _ := Am.look_of (j := 4) hlook (by kernel_rfl) rfl rfl
      have h1' := Am.eval_tmp (h1 rfl)
      have h3 : true = true → ca.tmps.getD 12 undef = _ := Am.look_of (j := 5) hlook (by kernel_rfl) rfl rfl
      have h3' := Am.eval_tmp (h3 rfl)
      refine Am.wpOp_run_g rfl rfl rfl hg rfl (Am.wp_enter (w' := w1) (f := 24) (args := #[.agg #[v0, v1, .slice p len cap, v3, v4, v5], .int .i64 i]) ?_ ((Hn.out rfl w1 hb0).mono ?_))
      · generalize ca.eval = ev at *
        simp [go_sem, execOp, hfn, hcs, h1', h3']
      · rintro e w' ⟨v, rfl, hb', hi⟩
        exact ⟨_, rfl, hK _ _ hb' (fun _ => hi)⟩
    · cases ho
      have h2 := Am.eval_tmp (Am.look_old (t := 2) hlook (by kernel_rfl) (by kernel_rfl) rfl)
      have hg : ca.tmps.getD 10 undef = .bool (!fb) := Am.look_of (j := 3) hlook (by kernel_rfl) rfl rfl
      cases fb
      · exact Am.wpOp_skip_g rfl rfl rfl hg rfl (hK _ _ (Below.refl _ _) (fun h => nomatch h))
      obtain ⟨g, rfl⟩ := bout hb
      refine Am.wpOp_run_g rfl rfl rfl hg rfl (Am.wp_value (v := .agg #[v0, v1, .slice p len cap, v3, v4, v5]) ?_ (hK _ _ (Below.refl _ _) (fun _ => rfl)))
      · generalize ca.eval = ev at *
        simp [go_sem, execOp, hfn, hcs, h2]
    · cases ho
      have h1 := Am.eval_tmp (Am.look_old (t := 1) hlook (by kernel_rfl) (by kernel_rfl) rfl)
      have hg : ca.tmps.getD 10 undef = .bool (!fb) := Am.look_of (j := 3) hlook (by kernel_rfl) rfl rfl
      cases fb
      · exact Am.wpOp_skip_g rfl rfl rfl hg rfl (hK _ _ (Below.refl _ _) (fun h => nomatch h))
      refine Am.wpOp_run_g rfl rfl rfl hg rfl (Am.wp_value (v := .int .i64 i) ?_ (hK _ _ (Below.refl _ _) (fun _ => rfl)))
      · generalize ca.eval = ev at *
        simp [go_sem, execOp, hfn, hcs, h1]
    · cases ho
      have hg : ca.tmps.getD 10 undef = .bool (!fb) := Am.look_of (j := 3) hlook (by kernel_rfl) rfl rfl
      cases fb
      · exact Am.wpOp_skip_g rfl rfl rfl hg rfl (hK _ _ (Below.refl _ _) (fun h => nomatch h))
      have h1 : true = true → ca.tmps.getD 14 undef = _ := Am.look_of (j := 7) hlook (by kernel_rfl) rfl rfl
      have h1' := Am.eval_tmp (h1 rfl)
      have h3 : true = true → ca.tmps.getD 15 undef = _ := Am.look_of (j := 8) hlook (by kernel_rfl) rfl rfl
      have h3' := Am.eval_tmp (h3 rfl)
      refine Am.wpOp_run_g rfl rfl rfl hg rfl (Am.wp_enter (w' := w1) (f := 25) (args := #[.agg #[v0, v1, .slice p len cap, v3, v4, v5], .int .i64 i]) ?_ ((Hr.out rfl w1 hb0).mono ?_))
      · generalize ca.eval = ev at *
        simp [go_sem, execOp, hfn, hcs, h1', h3']
      · rintro e w' ⟨v, rfl, hb', hi⟩
        exact ⟨_, rfl, hK _ _ hb' (fun _ => hi)⟩
    · cases ho
      have hg : ca.tmps.getD 10 undef = .bool (!fb) := Am.look_of (j := 3) hlook (by kernel_rfl) rfl rfl
      cases fb
      · exact Am.wpOp_skip_g rfl rfl rfl hg rfl (hK _ _ (Below.refl _ _) (fun h => nomatch h))
      have h1 : true = true → Ints 0 w1 (ca.tmps.getD 13 undef) L := Am.look_of (j := 6) hlook (by kernel_rfl) rfl rfl
      have h3 : true = true → Ints 0 w1 (ca.tmps.getD 16 undef) L := Am.look_of (j := 9) hlook (by kernel_rfl) rfl rfl
      have hc := same_any 0 0 _ _ L L (by omega) w1 (h1 rfl) (h3 rfl)
      have e1 : ca.eval (.tmp 13) = ca.tmps.getD 13 undef := rfl
      have e3 : ca.eval (.tmp 16) = ca.tmps.getD 16 undef := rfl
      generalize ca.tmps.getD 13 undef = x1 at *
      generalize ca.tmps.getD 16 undef = x3 at *
      refine Am.wpOp_run_g rfl rfl rfl hg rfl (Am.wp_enter (w' := w1) (f := 23) (args := #[x1, x3]) ?_ (hc.mono ?_))
      · generalize ca.eval = ev at *
        simp [go_sem, execOp, hfn, hcs, e1, e3]
      · rintro e w' ⟨rfl, hb'⟩
        exact ⟨_, rfl, hK _ _ hb' (fun _ => by simp)⟩
    · cases ho
      have h1 : ca.tmps.getD 10 undef = .bool (!fb) := Am.look_of (j := 3) hlook (by kernel_rfl) rfl rfl
      have h3 : fb = true → ca.tmps.getD 17 undef = .bool true := Am.look_of (j := 10) hlook (by kernel_rfl) rfl rfl
      have h1' := Am.eval_tmp h1
      have h3' := fun h => Am.eval_tmp (h3 h)
      refine Am.wpOp_run rfl rfl (Am.wp_value (v := .bool true) ?_ (hK _ _ (Below.refl _ _) rfl))
      · generalize ca.eval = ev at *
        cases fb
        · simp [go_sem, execOp, hfn, hcs, h1']
        · simp [go_sem, execOp, hfn, hcs, h1', h3' rfl]
    · cases ho
      have h1 : ca.tmps.getD 18 undef = .bool true := Am.look_of (j := 11) hlook (by kernel_rfl) rfl rfl
      have h1' := Am.eval_tmp h1
      refine Am.wpOp_run rfl rfl (Am.wp_value (v := .bool true) ?_ (hK _ _ (Below.refl _ _) rfl))
      · generalize ca.eval = ev at *
        simp [go_sem, execOp, hfn, hcs, h1']
    · simp at ho
  · intro ca w1 hb hd hs hphi hoth
    have h4 : ca.tmps.getD 4 undef = .bool true := hphi 12 _ 4 rfl rfl
    obtain ⟨tm, df⟩ := ca
    simp only at hd
    subst hd
    go_wp2
    go_ret
    refine ⟨congrArg _ h4, ?_⟩
    refine Below.trans ?_ (hb.mono (by simp; omega))
    repeat (first | exact Below.refl _ _ | refine bG ?_ _ | refine bI ?_ _ _ | refine bA ?_ _)
end Go.Proofs.Ytjocifamacpamaa
