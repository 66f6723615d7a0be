/- The reference's Reach, walked. Conditions: none. -/
import Derived.Test.YtjocifamacpamaaFlowI
import Derived.Test.YtjocifamacpamaaAmP
namespace Go.Proofs.Ytjocifamacpamaa
open Go.RowKit
set_option linter.unusedVariables false
set_option linter.unusedSimpArgs false
def phiR (W : World) (A : Value) (b o len cap : Nat) (R S : List Bool) : Nat → World → Value → Prop
  | 0, _, v => v = A
  | 1, w, v => Ints W.heap.size w v [0]
  | 2, w, v => w.ownsRow W.heap.size 4 1 v (len + 1) (S.map Value.bool)
  | 3, _, v => v = .pointer (some ⟨W.heap.size, 2, none⟩)
  | 4, _, v => v = .slice (some ⟨b, o, none⟩) len cap
  | 5, _, v => v = .int .i64 len
  | _, w, v => w.ownsRow W.heap.size 4 1 v len (R.map Value.bool)
theorem phiR_below {W : World} {A : Value} {b o len cap : Nat} {R S : List Bool} : ∀ (k : Nat) (w w' : World) (v : Value), Below w.heap.size w w' → phiR W A b o len cap R S k w v → phiR W A b o len cap R S k w' v := by
  intro k w w' v hb h
  unfold phiR at *
  split at h <;> first | exact h | exact Ints_below h hb | exact own_below h hb
set_option maxRecDepth 10000 in
set_option maxHeartbeats 2000000 in
theorem refReach_some (v0 v1 v3 v4 v5 : Value) (b o len cap : Nat) (ws : Nat → Int) (hws : ∀ i, i < len → 0 ≤ ws i ∧ ws i < 4294967296) (hl : len ≤ 40) (h0 : 0 < len) (w : World) (hb : b < w.heap.size)
    (hc : ∀ i, i < len → w.cell? ⟨b, o + i, none⟩ = some (.int .u32 (ws i))) (k0 : Nat) (hk0 : k0 ≤ 1000) (R : List Bool) (b' : Bool) (hRl : R.length = len)
    (hR : refF (fun i => nextS len (ws i) i) len (-2) k0 [0] (List.replicate (len + 1) false) = some (R ++ [b'])) :
    Calls Try.prog 29 #[.agg #[v0, v1, .slice (some ⟨b, o, none⟩) len cap, v3, v4, v5]] w fun e w' => ∃ v, e = .returned v ∧ Below w.heap.size w w' ∧ w'.ownsRow w.heap.size 4 1 v len (R.map Value.bool) := by
  have Hws := hid hws
  have Hc := hid hc
  have HR := hid hR
  have HRl := hid hRl
  clear hws hc hR hRl
  have hne : ((len : Int) == 0) = false := by rw [beq_eq_false_iff_ne]; omega
  go_enter Try.func29, Try.ntmps29
  go_wp2
  refine Am.draw_phi (Φ := phiR w (.agg #[v0, v1, .slice (some ⟨b, o, none⟩) len cap, v3, v4, v5]) b o len cap R (R ++ [b'])) (by kernel_rfl) (by kernel_rfl) (by kernel_rfl) phiR_below ?_ ?_
  · intro k oo ca w1 ho hb1 hlook K hK
    have hb0 : Below w.heap.size w w1 := by
      refine Below.trans ?_ (hb1.mono (by simp))
      repeat (first | exact Below.refl _ _ | refine bG ?_ _ | refine bI ?_ _ _ | refine bA ?_ _)
    have hs1 := hb0.size
    have hfn : ∀ f, ca.eval (.func f) = .func (.func f) #[] #[] := fun _ => rfl
    have hcs : ∀ v, ca.eval (.const v) = v := fun _ => rfl
    rcases k with _ | _ | _ | _ | _ | _ | _ | _ | k
    · cases ho
      have h2 := Am.eval_tmp (Am.look_old (t := 1) hlook (by kernel_rfl) (by kernel_rfl) rfl)
      obtain ⟨g, rfl⟩ := bout hb1
      refine Am.wpOp_run rfl rfl (Am.wp_value (v := .agg #[v0, v1, .slice (some ⟨b, o, none⟩) len cap, v3, v4, v5]) ?_ (hK _ _ (Below.refl _ _) rfl))
      generalize ca.eval = ev at *
      simp [go_sem, execOp, hfn, hcs, h2]
    · cases ho
      refine Am.wpOp_run rfl rfl (Am.wp_value (v := .slice (some ⟨w1.heap.size, 0, none⟩) 1 1) (w' := w1.alloc (.cells #[.int .i64 0] 3)) ?_ (hK _ _ ((Below.refl _ _).alloc (Nat.le_refl _) _) (Ints_one _ _ _ _ rfl hs1)))
      generalize ca.eval = ev at *
      simp [go_sem, execOp, hfn, hcs]
    · cases ho
      have h1 : ca.tmps.getD 7 undef = _ := Am.look_of (j := 0) hlook (by kernel_rfl) rfl rfl
      have h1' := Am.eval_tmp h1
      have h3 : Ints w.heap.size w1 (ca.tmps.getD 8 undef) [0] := Am.look_of (j := 1) hlook (by kernel_rfl) rfl rfl
      have h3' : ca.eval (.tmp 8) = ca.tmps.getD 8 undef := rfl
      generalize ca.tmps.getD 8 undef = fv at *
      refine Am.wpOp_run rfl rfl (Am.wp_enter (w' := w1) (f := 49) (args := #[.agg #[v0, v1, .slice (some ⟨b, o, none⟩) len cap, v3, v4, v5], fv, .int .i64 (-2)]) ?_ ((reach_any v0 v1 v3 v4 v5 b o len cap _ ws Hws.out hl w1 (by omega) (fun i hi => cell_later hb0 (Hc.out i hi)) fv [0] (by simp) h3 (by simp; omega) (-2) k0 (R ++ [b']) (by simp; omega) HR.out).mono ?_))
      · generalize ca.eval = ev at *
        simp [go_sem, execOp, hfn, hcs, h1', h3']
      · rintro e w' ⟨v, rfl, hb', hi⟩
        refine ⟨_, rfl, hK _ _ hb' ?_⟩
        obtain ⟨q1, q2⟩ := hi
        refine ⟨q1, ?_⟩
        rcases q2 with q2 | ⟨g, cp, cur, hv, hg, hr⟩
        · exact .inl q2
        · exact .inr ⟨g, cp, cur, hv, by omega, hr⟩
    · cases ho
      have h2 := Am.eval_tmp (Am.look_old (t := 1) hlook (by kernel_rfl) (by kernel_rfl) rfl)
      refine Am.wpOp_run rfl rfl (Am.wp_value (v := .pointer (some ⟨w.heap.size, 2, none⟩)) ?_ (hK _ _ (Below.refl _ _) rfl))
      generalize ca.eval = ev at *
      simp [go_sem, execOp, hfn, hcs, h2]
    · cases ho
      have h1 : ca.tmps.getD 10 undef = _ := Am.look_of (j := 3) hlook (by kernel_rfl) rfl rfl
      have h1' := Am.eval_tmp h1
      obtain ⟨g, rfl⟩ := bout hb1
      refine Am.wpOp_run rfl rfl (Am.wp_value (v := .slice (some ⟨b, o, none⟩) len cap) ?_ (hK _ _ (Below.refl _ _) rfl))
      generalize ca.eval = ev at *
      simp [go_sem, execOp, hfn, hcs, h1']
    · cases ho
      have h1 : ca.tmps.getD 11 undef = _ := Am.look_of (j := 4) hlook (by kernel_rfl) rfl rfl
      have h1' := Am.eval_tmp h1
      refine Am.wpOp_run rfl rfl (Am.wp_value (v := .int .i64 len) ?_ (hK _ _ (Below.refl _ _) rfl))
      generalize ca.eval = ev at *
      simp [go_sem, execOp, hfn, hcs, h1']
    · cases ho
      have h3 : w1.ownsRow w.heap.size 4 1 (ca.tmps.getD 9 undef) (len + 1) ((R ++ [b']).map Value.bool) := Am.look_of (j := 2) hlook (by kernel_rfl) rfl rfl
      have h5 : ca.tmps.getD 12 undef = .int .i64 len := Am.look_of (j := 5) hlook (by kernel_rfl) rfl rfl
      have h5' := Am.eval_tmp h5
      have h3' : ca.eval (.tmp 9) = ca.tmps.getD 9 undef := rfl
      generalize ca.tmps.getD 9 undef = fv at *
      have hcp : ∃ g cp, fv = .slice (some ⟨g, 0, none⟩) (len + 1) cp ∧ len + 1 ≤ cp := by
        rcases h3.2 with ⟨_, e⟩ | ⟨g, cp, cur, hv, _, _, hcp, _⟩
        · omega
        · exact ⟨g, cp, hv, hcp⟩
      obtain ⟨g, cp, rfl, hcp⟩ := hcp
      rw [List.map_append] at h3
      have h6 := ownsRow_pop (xs := R.map Value.bool) (last := [.bool b']) (by simpa using HRl.out) h3
      refine Am.wpOp_run rfl rfl (Am.wp_value (v := .slice (some ⟨g, 0, none⟩) len cp) ?_ (hK _ _ (Below.refl _ _) h6))
      have hle : (0 : Int) ≤ (len : Int) := by omega
      have hle2 : (len : Int) ≤ (cp : Int) := by omega
      generalize ca.eval = ev at *
      simp [go_sem, execOp, hfn, hcs, h3', h5', hle, hle2]
    · cases ho
      have h3 : w1.ownsRow w.heap.size 4 1 (ca.tmps.getD 13 undef) len (R.map Value.bool) := Am.look_of (j := 6) hlook (by kernel_rfl) rfl rfl
      have h3' : ca.eval (.tmp 13) = ca.tmps.getD 13 undef := rfl
      generalize ca.tmps.getD 13 undef = fv at *
      refine Am.wpOp_run rfl rfl (Am.wp_value (v := fv) ?_ (hK _ _ (Below.refl _ _) h3))
      generalize ca.eval = ev at *
      simp [go_sem, execOp, hfn, hcs, h3']
    · simp at ho
  · intro ca w1 hb1 hd hs hphi hoth
    have h4 : w1.ownsRow w.heap.size 4 1 (ca.tmps.getD 2 undef) len (R.map Value.bool) := hphi 7 _ 2 rfl rfl
    obtain ⟨tm, df⟩ := ca
    simp only at hd
    subst hd
    go_wp2
    go_ret
    refine ⟨_, rfl, Below.trans ?_ (hb1.mono (by simp)), h4⟩
    repeat (first | exact Below.refl _ _ | refine bG ?_ _ | refine bI ?_ _ _ | refine bA ?_ _)
end Go.Proofs.Ytjocifamacpamaa
