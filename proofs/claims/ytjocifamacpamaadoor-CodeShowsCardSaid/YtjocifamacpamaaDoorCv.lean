/- CodeShows: the law, walked. Conditions: the table of powers that strconv reads is as the program lays it. -/
import Derived.Test.YtjocifamacpamaaDoorCu
import Derived.Test.YtjocifamacpamaaDoorAw
import Derived.Test.YtjocifamacpamaaDoorAmP
import Derived.Outline
namespace Go.Proofs.YtjocifamacpamaaDoor
open Go Go.RowKit
set_option linter.unusedVariables false
set_option linter.unusedSimpArgs false
def phiS (A q sl : Value) (len : Nat) (gb : Bool) (S : ByteArray) : Nat → World → Value → Prop
  | 0, w, v => v = q
  | 1, w, v => v = sl
  | 2, w, v => v = .int .i64 len
  | 3, w, v => v = .bool gb
  | 4, w, v => v = .bool gb
  | 5, w, v => gb = false → v = A
  | 6, w, v => gb = false → v = .string S
  | 7, w, v => gb = false → v = A
  | 8, w, v => gb = false → v = .string S
  | 9, w, v => gb = false → v = .bool true
  | 10, w, v => v = .bool true
  | _, w, v => v = .bool true
theorem phiS_below {A q sl : Value} {len : Nat} {gb : Bool} {S : ByteArray} : ∀ (k : Nat) (w w' : World) (v : Value), Below w.heap.size w w' → phiS A q sl len gb S k w v → phiS A q sl len gb S k w' v := by
  intro k w w' v hb h
  unfold phiS at *
  split at h <;> first | exact h | exact h
set_option maxRecDepth 10000 in
set_option maxHeartbeats 2000000 in
theorem codeShows_law (v0 v1 v3 v4 v5 : Value) (p : Option Addr) (len cap : Nat) (gb : Bool) (S : ByteArray) (hgb : decide ((2000 : Int) < (len : Int)) = gb) (w : World)
    (hn : gb = false → ∀ w1, Below w.heap.size w w1 → Calls Tryd.prog 9 #[.agg #[v0, v1, .slice p len cap, v3, v4, v5]] w1 fun e w' => e = .returned (.string S) ∧ Below w1.heap.size w1 w')
    (hr : gb = false → ∀ w1, Below w.heap.size w w1 → Calls Tryd.prog 10 #[.agg #[v0, v1, .slice p len cap, v3, v4, v5]] w1 fun e w' => e = .returned (.string S) ∧ Below w1.heap.size w1 w') :
    Calls Tryd.prog 4 #[.agg #[v0, v1, .slice p len cap, v3, v4, v5]] w fun e w' => e = .returned (.bool true) ∧ Below w.heap.size w w' := by
  have Hn := hid hn
  have Hr := hid hr
  clear hn hr
  go_enter Tryd.func4, Tryd.ntmps4
  go_wp2_with (go_at_call 8; refine (awake16 _).mono ?_; rintro e w' ⟨rfl, hb⟩; obtain ⟨g1, rfl⟩ := bout hb; clear hb)
  refine Am.draw_phi (Φ := phiS (.agg #[v0, v1, .slice p len cap, v3, v4, v5]) (.pointer (some ⟨w.heap.size, 2, none⟩)) (.slice p len cap) len gb S) (by kernel_rfl) (by kernel_rfl) (by kernel_rfl) phiS_below ?_ ?_
  · intro k o ca w1 ho hb hlook K hK
    have hb0 : Below w.heap.size w w1 := by
      refine Below.trans ?_ (hb.mono (by simp; omega))
      repeat (first | exact Below.refl _ _ | refine bG ?_ _ | refine bI ?_ _ _ | refine bA ?_ _)
    have hfn : ∀ f, ca.eval (.func f) = .func (.func f) #[] #[] := fun _ => rfl
    have hcs : ∀ v, ca.eval (.const v) = v := fun _ => rfl
    rcases k with _ | _ | _ | _ | _ | _ | _ | _ | _ | _ | _ | _ | k
    · cases ho
      have h1 := Am.eval_tmp (Am.look_old (t := 1) hlook (by kernel_rfl) (by kernel_rfl) rfl)
      obtain ⟨g, rfl⟩ := bout hb
      refine Am.wpOp_run rfl rfl (Am.wp_value (v := .pointer (some ⟨w.heap.size, 2, none⟩)) ?_ (hK _ _ (Below.refl _ _) rfl))
      generalize ca.eval = ev at *
      simp [go_sem, execOp, hfn, hcs, h1]
    · cases ho
      have h5 : (ca.tmps.getD 5 undef) = (.pointer (some ⟨w.heap.size, 2, none⟩)) := Am.look_of (j := 0) hlook (by kernel_rfl) rfl rfl
      replace h5 := Am.eval_tmp h5
      obtain ⟨g, rfl⟩ := bout hb
      refine Am.wpOp_run rfl rfl (Am.wp_value (v := .slice p len cap) ?_ (hK _ _ (Below.refl _ _) rfl))
      generalize ca.eval = ev at *
      simp [go_sem, execOp, hfn, hcs, h5]
    · cases ho
      have h6 : (ca.tmps.getD 6 undef) = (.slice p len cap) := Am.look_of (j := 1) hlook (by kernel_rfl) rfl rfl
      replace h6 := Am.eval_tmp h6
      refine Am.wpOp_run rfl rfl (Am.wp_value (v := .int .i64 len) ?_ (hK _ _ (Below.refl _ _) rfl))
      generalize ca.eval = ev at *
      simp [go_sem, execOp, hfn, hcs, h6]
    · cases ho
      have h7 : (ca.tmps.getD 7 undef) = .int .i64 len := Am.look_of (j := 2) hlook (by kernel_rfl) rfl rfl
      replace h7 := Am.eval_tmp h7
      refine Am.wpOp_run rfl rfl (Am.wp_value (v := .bool gb) ?_ (hK _ _ (Below.refl _ _) rfl))
      generalize ca.eval = ev at *
      simp [go_sem, execOp, hfn, hcs, h7, hgb]
    · cases ho
      have h8 : (ca.tmps.getD 8 undef) = .bool gb := Am.look_of (j := 3) hlook (by kernel_rfl) rfl rfl
      replace h8 := Am.eval_tmp h8
      refine Am.wpOp_run rfl rfl (Am.wp_value (v := .bool gb) ?_ (hK _ _ (Below.refl _ _) rfl))
      generalize ca.eval = ev at *
      simp [go_sem, execOp, hfn, hcs, h8]
    · cases ho
      have hg : ca.tmps.getD 9 undef = .bool gb := Am.look_of (j := 4) hlook (by kernel_rfl) rfl rfl
      cases gb
      rotate_left
      · exact Am.wpOp_skip_g rfl rfl rfl hg rfl (hK _ _ (Below.refl _ _) (fun h => nomatch h))
      have h1 := Am.eval_tmp (Am.look_old (t := 1) hlook (by kernel_rfl) (by kernel_rfl) rfl)
      obtain ⟨g, rfl⟩ := bout hb
      refine Am.wpOp_run_g rfl rfl rfl hg rfl (Am.wp_value (v := .agg #[v0, v1, .slice p len cap, v3, v4, v5]) ?_ (hK _ _ (Below.refl _ _) (fun _ => rfl)))
      generalize ca.eval = ev at *
      simp [go_sem, execOp, hfn, hcs, h1]
    · cases ho
      have hg : ca.tmps.getD 9 undef = .bool gb := Am.look_of (j := 4) hlook (by kernel_rfl) rfl rfl
      cases gb
      rotate_left
      · exact Am.wpOp_skip_g rfl rfl rfl hg rfl (hK _ _ (Below.refl _ _) (fun h => nomatch h))
      have h10 : false = false → (ca.tmps.getD 10 undef) = (.agg #[v0, v1, .slice p len cap, v3, v4, v5]) := Am.look_of (j := 5) hlook (by kernel_rfl) rfl rfl
      replace h10 := h10 rfl
      replace h10 := Am.eval_tmp h10
      refine Am.wpOp_run_g rfl rfl rfl hg rfl (Am.wp_enter (w' := w1) (f := 9) (args := #[.agg #[v0, v1, .slice p len cap, v3, v4, v5]]) ?_ ((Hn.out rfl w1 hb0).mono ?_))
      · generalize ca.eval = ev at *
        simp [go_sem, execOp, hfn, hcs, h10]
      · rintro e w' ⟨rfl, hb'⟩
        exact ⟨_, rfl, hK _ _ hb' (fun _ => rfl)⟩
    · cases ho
      have hg : ca.tmps.getD 9 undef = .bool gb := Am.look_of (j := 4) hlook (by kernel_rfl) rfl rfl
      cases gb
      rotate_left
      · exact Am.wpOp_skip_g rfl rfl rfl hg rfl (hK _ _ (Below.refl _ _) (fun h => nomatch h))
      have h1 := Am.eval_tmp (Am.look_old (t := 1) hlook (by kernel_rfl) (by kernel_rfl) rfl)
      obtain ⟨g, rfl⟩ := bout hb
      refine Am.wpOp_run_g rfl rfl rfl hg rfl (Am.wp_value (v := .agg #[v0, v1, .slice p len cap, v3, v4, v5]) ?_ (hK _ _ (Below.refl _ _) (fun _ => rfl)))
      generalize ca.eval = ev at *
      simp [go_sem, execOp, hfn, hcs, h1]
    · cases ho
      have hg : ca.tmps.getD 9 undef = .bool gb := Am.look_of (j := 4) hlook (by kernel_rfl) rfl rfl
      cases gb
      rotate_left
      · exact Am.wpOp_skip_g rfl rfl rfl hg rfl (hK _ _ (Below.refl _ _) (fun h => nomatch h))
      have h12 : false = false → (ca.tmps.getD 12 undef) = (.agg #[v0, v1, .slice p len cap, v3, v4, v5]) := Am.look_of (j := 7) hlook (by kernel_rfl) rfl rfl
      replace h12 := h12 rfl
      replace h12 := Am.eval_tmp h12
      refine Am.wpOp_run_g rfl rfl rfl hg rfl (Am.wp_enter (w' := w1) (f := 10) (args := #[.agg #[v0, v1, .slice p len cap, v3, v4, v5]]) ?_ ((Hr.out rfl w1 hb0).mono ?_))
      · generalize ca.eval = ev at *
        simp [go_sem, execOp, hfn, hcs, h12]
      · rintro e w' ⟨rfl, hb'⟩
        exact ⟨_, rfl, hK _ _ hb' (fun _ => rfl)⟩
    · cases ho
      have hg : ca.tmps.getD 9 undef = .bool gb := Am.look_of (j := 4) hlook (by kernel_rfl) rfl rfl
      cases gb
      rotate_left
      · exact Am.wpOp_skip_g rfl rfl rfl hg rfl (hK _ _ (Below.refl _ _) (fun h => nomatch h))
      have h11 : false = false → (ca.tmps.getD 11 undef) = .string S := Am.look_of (j := 6) hlook (by kernel_rfl) rfl rfl
      replace h11 := h11 rfl
      replace h11 := Am.eval_tmp h11
      have h13 : false = false → (ca.tmps.getD 13 undef) = .string S := Am.look_of (j := 8) hlook (by kernel_rfl) rfl rfl
      replace h13 := h13 rfl
      replace h13 := Am.eval_tmp h13
      refine Am.wpOp_run_g rfl rfl rfl hg rfl (Am.wp_value (v := .bool true) ?_ (hK _ _ (Below.refl _ _) (fun _ => rfl)))
      generalize ca.eval = ev at *
      simp [go_sem, execOp, hfn, hcs, h11, h13]
    · cases ho
      have h9 : (ca.tmps.getD 9 undef) = .bool gb := Am.look_of (j := 4) hlook (by kernel_rfl) rfl rfl
      replace h9 := Am.eval_tmp h9
      have hp : gb = false → (ca.tmps.getD 14 undef) = .bool true := Am.look_of (j := 9) hlook (by kernel_rfl) rfl rfl
      have hp2 := fun h => Am.eval_tmp (hp h)
      refine Am.wpOp_run rfl rfl (Am.wp_value (v := .bool true) ?_ (hK _ _ (Below.refl _ _) rfl))
      generalize ca.eval = ev at *
      cases gb
      · simp [go_sem, execOp, hfn, hcs, h9, hp2 rfl]
      · simp [go_sem, execOp, hfn, hcs, h9]
    · cases ho
      have h15 : (ca.tmps.getD 15 undef) = .bool true := Am.look_of (j := 10) hlook (by kernel_rfl) rfl rfl
      replace h15 := Am.eval_tmp h15
      refine Am.wpOp_run rfl rfl (Am.wp_value (v := .bool true) ?_ (hK _ _ (Below.refl _ _) rfl))
      generalize ca.eval = ev at *
      simp [go_sem, execOp, hfn, hcs, h15]
    · simp at ho
  · intro ca w1 hb hd hs hphi hoth
    have h4 : ca.tmps.getD 2 undef = .bool true := hphi 11 _ 2 rfl rfl
    obtain ⟨tm, df⟩ := ca
    simp only at hd
    subst hd
    go_wp2
    go_ret
    refine ⟨congrArg _ h4, ?_⟩
    refine Below.trans ?_ (hb.mono (by simp; omega))
    repeat (first | exact Below.refl _ _ | refine bG ?_ _ | refine bI ?_ _ _ | refine bA ?_ _)
theorem codeShows_any (v0 v1 v3 v4 v5 : Value) (p : Option Addr) (xs : List Int) (cap : Nat) (w : World) (hw : WordsAt w p xs) (ht : Tab w) :
    Calls Tryd.prog 4 #[.agg #[v0, v1, .slice p xs.length cap, v3, v4, v5]] w fun e w' => e = .returned (.bool true) ∧ Below w.heap.size w w' := by
  have hup : ∀ w1, Below w.heap.size w w1 → WordsAt w1 p xs := fun w1 h => by
    refine ⟨hw.1, ?_⟩
    rcases hw.2 with h0 | ⟨b, o, rfl, hb, hc⟩
    · exact .inl h0
    · exact .inr ⟨b, o, rfl, by have := h.size; omega, fun i hi => cell_later h (hc i hi)⟩
  refine codeShows_law v0 v1 v3 v4 v5 p xs.length cap _ (linesB xs xs.length) rfl w (fun hl w1 h1 => ?_) (fun hl w1 h1 => ?_)
  · exact codeShow_any v0 v1 v3 v4 v5 p xs cap (by have := of_decide_eq_false hl; omega) w1 (hup w1 h1) (ht.below h1)
  · exact refCodeShow_any v0 v1 v3 v4 v5 p xs cap (by have := of_decide_eq_false hl; omega) w1 (hup w1 h1) (ht.below h1)
end Go.Proofs.YtjocifamacpamaaDoor
