/- The reference's sub at flat types, walked. Conditions: the kinds of the one are kinds of the other. -/
import Derived.Test.YtjchnliaglecoaaGreatDoorKsX
import Derived.Test.YtjchnliaglecoaaGreatDoorKkX
import Derived.Test.YtjchnliaglecoaaGreatDoorAmSX
import Derived.Deep.RegionHeld3
set_option linter.unusedVariables false
set_option linter.unusedSimpArgs false
namespace Go.Proofs.YtjchnliaglecoaaGreatDoor
open Go Go.RowKit Go.Nodes
set_option linter.unusedVariables false
set_option linter.unusedSimpArgs false
theorem table18 (w : World) : Calls Tryz.prog 18 #[.agg #[.int .i64 5, .slice none 0 0, .slice none 0 0]] w fun e w' => e = .returned (.int .i64 16) ∧ Below w.heap.size w w' :=
  kinds18_flat 1 w [.int .i64 5, .slice none 0 0, .slice none 0 0] (.mk 5 [] []) ⟨⟨by decide, by decide⟩, by simp, by simp, none, 0, none, 0, rfl, .inl rfl, .inl rfl⟩ ⟨by simp, by simp⟩ (by decide) (by decide)
def phiU (A B : Value) (T0 : Nat) (kk m9 n9 : Int) : Nat → World → Value → Prop
  | 0, w, v => v = .pointer (some ⟨T0, 0, none⟩)
  | 1, w, v => v = .int .i64 kk
  | 2, w, v => v = .bool true
  | 3, w, v => v = .bool true
  | 4, w, v => v = A
  | 5, w, v => v = .int .i64 m9
  | 6, w, v => v = B
  | 7, w, v => v = .int .i64 n9
  | 8, w, v => v = .int .i64 0
  | 9, w, v => v = .bool true
  | 10, w, v => v = .bool true
  | _, w, v => v = .bool true
theorem phiU_below {A B : Value} {T0 : Nat} {kk m9 n9 : Int} : ∀ (k : Nat) (w w' : World) (v : Value), Below w.heap.size w w' → phiU A B T0 kk m9 n9 k w v → phiU A B T0 kk m9 n9 k w' v := by
  intro k w w' v hb h
  unfold phiU at *
  split at h <;> first | exact h | exact h
set_option maxRecDepth 100000 in
set_option maxHeartbeats 4000000 in
theorem sub41_flat (W : World) (k k2 m n : Int) (np ap np2 ap2 : Option Addr) (nn nc an ac nn2 nc2 an2 ac2 : Nat) (h1 : 1 ≤ k) (h7 : k ≤ 7) (g1 : 1 ≤ k2) (g7 : k2 ≤ 7) (hz : bits .andNot .i64 m n = 0)
    (HKa : Hid (∀ W', Below W.heap.size W W' → Calls Tryz.prog 18 #[.agg #[.int .i64 k, .slice np nn nc, .slice ap an ac]] W' fun e w' => e = .returned (.int .i64 m) ∧ Below W'.heap.size W' w'))
    (HKb : Hid (∀ W', Below W.heap.size W W' → Calls Tryz.prog 18 #[.agg #[.int .i64 k2, .slice np2 nn2 nc2, .slice ap2 an2 ac2]] W' fun e w' => e = .returned (.int .i64 n) ∧ Below W'.heap.size W' w')) :
    Calls Tryz.prog 41 #[.agg #[.int .i64 k, .slice np nn nc, .slice ap an ac], .agg #[.int .i64 k2, .slice np2 nn2 nc2, .slice ap2 an2 ac2]] W fun e w' => e = .returned (.bool true) ∧ Below W.heap.size W w' := by
  have HF1 : Hid (∀ w', Calls Tryz.prog 86 #[.agg #[.int .i64 k, .slice np nn nc, .slice ap an ac]] w' fun e w2 => e = .returned (.bool true) ∧ Below w'.heap.size w' w2) := hid fun w' => by
    have := flat86 k np ap nn nc an ac w'
    rwa [decide_eq_true (show 0 ≤ k by omega), decide_eq_true h7] at this
  have HF2 : Hid (∀ w', Calls Tryz.prog 86 #[.agg #[.int .i64 k2, .slice np2 nn2 nc2, .slice ap2 an2 ac2]] w' fun e w2 => e = .returned (.bool true) ∧ Below w'.heap.size w' w2) := hid fun w' => by
    have := flat86 k2 np2 ap2 nn2 nc2 an2 ac2 w'
    rwa [decide_eq_true (show 0 ≤ k2 by omega), decide_eq_true g7] at this
  have hk20 : (k2 == 0) = false := by simp; omega
  have hkn : (k != 0) = true := by simp; omega
  clear h1 h7 g1 g7
  go_enter Tryz.func41, Tryz.ntmps41
  go_wp2_with (first
    | (go_at_call 18; refine (table18 _).mono ?_; rintro e w' ⟨rfl, hb⟩; obtain ⟨G, rfl⟩ := bout hb; clear hb)
    | (go_at_call 86; ((with_reducible refine (HF1.out _).mono ?_)); rintro e w' ⟨rfl, hb⟩; obtain ⟨G1, rfl⟩ := bout hb; clear hb)
    | (go_at_call 86; ((with_reducible refine (HF2.out _).mono ?_)); rintro e w' ⟨rfl, hb⟩; obtain ⟨G2, rfl⟩ := bout hb; clear hb))
  obtain ⟨V, hV⟩ : ∃ V, grow ((W.alloc (.cells #[.int .i64 k, .slice np nn nc, .slice ap an ac] 39)).alloc (.cells #[.int .i64 k2, .slice np2 nn2 nc2, .slice ap2 an2 ac2] 39)) ((G.app G1).app G2) = V := ⟨_, rfl⟩
  have hbx : Below W.heap.size W V := by rw [← hV]; exact bG (bA (bA (Below.refl _ _) _) _) _
  have a0 : V.heap[W.heap.size]? = some (.cells #[.int .i64 k, .slice np nn nc, .slice ap an ac] 39 (0, 0)) := by
    rw [← hV, (below_grow _ _).block _ (by simp; omega), Below.heap_alloc _ _ _ (by simp)]; exact heap_alloc_new _ _
  have a1 : V.heap[W.heap.size + 1]? = some (.cells #[.int .i64 k2, .slice np2 nn2 nc2, .slice ap2 an2 ac2] 39 (0, 0)) := by
    rw [← hV, (below_grow _ _).block _ (by simp)]
    have := heap_alloc_new (W.alloc (.cells #[.int .i64 k, .slice np nn nc, .slice ap an ac] 39)) (.cells #[.int .i64 k2, .slice np2 nn2 nc2, .slice ap2 an2 ac2] 39)
    simpa using this
  have v0 : V.cell? ⟨W.heap.size, 0, none⟩ = some (.int .i64 k) := by simp [World.cell?, a0]
  have v1 : V.cell? ⟨W.heap.size, 1, none⟩ = some (.slice np nn nc) := by simp [World.cell?, a0]
  have v2 : V.cell? ⟨W.heap.size, 2, none⟩ = some (.slice ap an ac) := by simp [World.cell?, a0]
  have v3 : V.cell? ⟨W.heap.size + 1, 0, none⟩ = some (.int .i64 k2) := by simp [World.cell?, a1]
  have v4 : V.cell? ⟨W.heap.size + 1, 1, none⟩ = some (.slice np2 nn2 nc2) := by simp [World.cell?, a1]
  have v5 : V.cell? ⟨W.heap.size + 1, 2, none⟩ = some (.slice ap2 an2 ac2) := by simp [World.cell?, a1]
  have lA := (Array.getElem?_eq_some_iff.1 a0).1
  have lB := (Array.getElem?_eq_some_iff.1 a1).1
  have HBV := hid hbx
  rw [hV]
  clear hV hbx a0 a1
  refine Am.draw_phi (Φ := phiU (.agg #[.int .i64 k, .slice np nn nc, .slice ap an ac]) (.agg #[.int .i64 k2, .slice np2 nn2 nc2, .slice ap2 an2 ac2]) W.heap.size k m n) (by kernel_rfl) (by kernel_rfl) (by kernel_rfl) phiU_below ?_ ?_
  · intro kq o ca w1 ho hb hlook K hK
    have hA0 := (hb.cell (p := ⟨W.heap.size, _, none⟩) lA).trans v0
    have hA1 := (hb.cell (p := ⟨W.heap.size, _, none⟩) lA).trans v1
    have hA2 := (hb.cell (p := ⟨W.heap.size, _, none⟩) lA).trans v2
    have hB0 := (hb.cell (p := ⟨W.heap.size + 1, _, none⟩) lB).trans v3
    have hB1 := (hb.cell (p := ⟨W.heap.size + 1, _, none⟩) lB).trans v4
    have hB2 := (hb.cell (p := ⟨W.heap.size + 1, _, none⟩) lB).trans v5
    have hbW : Below W.heap.size W w1 := HBV.out.trans (hb.mono HBV.out.size)
    have hfn : ∀ f, ca.eval (.func f) = .func (.func f) #[] #[] := fun _ => rfl
    have hcs : ∀ v, ca.eval (.const v) = v := fun _ => rfl
    rcases kq with _ | _ | _ | _ | _ | _ | _ | _ | _ | _ | _ | _ | kq
    · cases ho
      have h2 := Am.eval_tmp (Am.look_old (t := 2) hlook (by kernel_rfl) (by kernel_rfl) rfl)
      refine Am.wpOp_run rfl rfl (Am.wp_value (v := .pointer (some ⟨W.heap.size, 0, none⟩)) ?_ (hK _ _ (Below.refl _ _) rfl))
      generalize ca.eval = ev at *
      simp [go_sem, execOp, hfn, hcs, h2]
    · cases ho
      have h25 : (ca.tmps.getD 25 undef) = .pointer (some ⟨W.heap.size, 0, none⟩) := Am.look_of (j := 0) hlook (by kernel_rfl) rfl rfl
      replace h25 := Am.eval_tmp h25
      refine Am.wpOp_run rfl rfl (Am.wp_value (v := .int .i64 k) ?_ (hK _ _ (Below.refl _ _) rfl))
      generalize ca.eval = ev at *
      simp [go_sem, execOp, hfn, hcs, h25, hA0]
    · cases ho
      have h26 : (ca.tmps.getD 26 undef) = .int .i64 k := Am.look_of (j := 1) hlook (by kernel_rfl) rfl rfl
      replace h26 := Am.eval_tmp h26
      refine Am.wpOp_run rfl rfl (Am.wp_value (v := .bool true) ?_ (hK _ _ (Below.refl _ _) rfl))
      generalize ca.eval = ev at *
      simp [go_sem, execOp, hfn, hcs, h26, hkn]
    · cases ho
      have h27 : (ca.tmps.getD 27 undef) = .bool true := Am.look_of (j := 2) hlook (by kernel_rfl) rfl rfl
      replace h27 := Am.eval_tmp h27
      refine Am.wpOp_run rfl rfl (Am.wp_value (v := .bool true) ?_ (hK _ _ (Below.refl _ _) rfl))
      generalize ca.eval = ev at *
      simp [go_sem, execOp, hfn, hcs, h27]
    · cases ho
      have hg : ca.tmps.getD 28 undef = .bool true := Am.look_of (j := 3) hlook (by kernel_rfl) rfl rfl
      have h2 := Am.eval_tmp (Am.look_old (t := 2) hlook (by kernel_rfl) (by kernel_rfl) rfl)
      refine Am.wpOp_run_g rfl rfl rfl hg rfl (Am.wp_value (v := .agg #[.int .i64 k, .slice np nn nc, .slice ap an ac]) ?_ (hK _ _ (Below.refl _ _) rfl))
      generalize ca.eval = ev at *
      simp [go_sem, execOp, hfn, hcs, h2, hA0, hA1, hA2]
    · cases ho
      have hg : ca.tmps.getD 28 undef = .bool true := Am.look_of (j := 3) hlook (by kernel_rfl) rfl rfl
      have h29 : (ca.tmps.getD 29 undef) = (.agg #[.int .i64 k, .slice np nn nc, .slice ap an ac]) := Am.look_of (j := 4) hlook (by kernel_rfl) rfl rfl
      replace h29 := Am.eval_tmp h29
      refine Am.wpOp_run_g rfl rfl rfl hg rfl (Am.wp_enter (w' := w1) (f := 18) (args := #[.agg #[.int .i64 k, .slice np nn nc, .slice ap an ac]]) ?_ ((HKa.out w1 hbW).mono ?_))
      · generalize ca.eval = ev at *
        simp [go_sem, execOp, hfn, hcs, h29]
      · rintro e w' ⟨rfl, hb'⟩
        exact ⟨_, rfl, hK _ _ hb' rfl⟩
    · cases ho
      have hg : ca.tmps.getD 28 undef = .bool true := Am.look_of (j := 3) hlook (by kernel_rfl) rfl rfl
      have h3 := Am.eval_tmp (Am.look_old (t := 3) hlook (by kernel_rfl) (by kernel_rfl) rfl)
      refine Am.wpOp_run_g rfl rfl rfl hg rfl (Am.wp_value (v := .agg #[.int .i64 k2, .slice np2 nn2 nc2, .slice ap2 an2 ac2]) ?_ (hK _ _ (Below.refl _ _) rfl))
      generalize ca.eval = ev at *
      simp [go_sem, execOp, hfn, hcs, h3, hB0, hB1, hB2]
    · cases ho
      have hg : ca.tmps.getD 28 undef = .bool true := Am.look_of (j := 3) hlook (by kernel_rfl) rfl rfl
      have h31 : (ca.tmps.getD 31 undef) = (.agg #[.int .i64 k2, .slice np2 nn2 nc2, .slice ap2 an2 ac2]) := Am.look_of (j := 6) hlook (by kernel_rfl) rfl rfl
      replace h31 := Am.eval_tmp h31
      refine Am.wpOp_run_g rfl rfl rfl hg rfl (Am.wp_enter (w' := w1) (f := 18) (args := #[.agg #[.int .i64 k2, .slice np2 nn2 nc2, .slice ap2 an2 ac2]]) ?_ ((HKb.out w1 hbW).mono ?_))
      · generalize ca.eval = ev at *
        simp [go_sem, execOp, hfn, hcs, h31]
      · rintro e w' ⟨rfl, hb'⟩
        exact ⟨_, rfl, hK _ _ hb' rfl⟩
    · cases ho
      have hg : ca.tmps.getD 28 undef = .bool true := Am.look_of (j := 3) hlook (by kernel_rfl) rfl rfl
      have h30 : (ca.tmps.getD 30 undef) = .int .i64 m := Am.look_of (j := 5) hlook (by kernel_rfl) rfl rfl
      replace h30 := Am.eval_tmp h30
      have h32 : (ca.tmps.getD 32 undef) = .int .i64 n := Am.look_of (j := 7) hlook (by kernel_rfl) rfl rfl
      replace h32 := Am.eval_tmp h32
      refine Am.wpOp_run_g rfl rfl rfl hg rfl (Am.wp_value (v := .int .i64 0) ?_ (hK _ _ (Below.refl _ _) rfl))
      generalize ca.eval = ev at *
      simp [go_sem, execOp, hfn, hcs, h30, h32, hz]
    · cases ho
      have hg : ca.tmps.getD 28 undef = .bool true := Am.look_of (j := 3) hlook (by kernel_rfl) rfl rfl
      have h33 : (ca.tmps.getD 33 undef) = .int .i64 0 := Am.look_of (j := 8) hlook (by kernel_rfl) rfl rfl
      replace h33 := Am.eval_tmp h33
      refine Am.wpOp_run_g rfl rfl rfl hg rfl (Am.wp_value (v := .bool true) ?_ (hK _ _ (Below.refl _ _) rfl))
      generalize ca.eval = ev at *
      simp [go_sem, execOp, hfn, hcs, h33]
    · cases ho
      have h28 : (ca.tmps.getD 28 undef) = .bool true := Am.look_of (j := 3) hlook (by kernel_rfl) rfl rfl
      replace h28 := Am.eval_tmp h28
      have h34 : (ca.tmps.getD 34 undef) = .bool true := Am.look_of (j := 9) hlook (by kernel_rfl) rfl rfl
      replace h34 := Am.eval_tmp h34
      refine Am.wpOp_run rfl rfl (Am.wp_value (v := .bool true) ?_ (hK _ _ (Below.refl _ _) rfl))
      generalize ca.eval = ev at *
      simp [go_sem, execOp, hfn, hcs, h28, h34]
    · cases ho
      have h35 : (ca.tmps.getD 35 undef) = .bool true := Am.look_of (j := 10) hlook (by kernel_rfl) rfl rfl
      replace h35 := Am.eval_tmp h35
      refine Am.wpOp_run rfl rfl (Am.wp_value (v := .bool true) ?_ (hK _ _ (Below.refl _ _) rfl))
      generalize ca.eval = ev at *
      simp [go_sem, execOp, hfn, hcs, h35]
    · simp at ho
  · intro ca w1 hb hd hs hphi hoth
    have h4 : ca.tmps.getD 4 undef = .bool true := hphi 11 _ 4 rfl rfl
    have hca := Am.frame_out hd hs hoth
    simp only [Act.put, List.foldl_cons, List.foldl_nil, h4] at hca
    generalize ca.tmps.getD 25 undef = y25 at hca
    generalize ca.tmps.getD 26 undef = y26 at hca
    generalize ca.tmps.getD 27 undef = y27 at hca
    generalize ca.tmps.getD 28 undef = y28 at hca
    generalize ca.tmps.getD 29 undef = y29 at hca
    generalize ca.tmps.getD 30 undef = y30 at hca
    generalize ca.tmps.getD 31 undef = y31 at hca
    generalize ca.tmps.getD 32 undef = y32 at hca
    generalize ca.tmps.getD 33 undef = y33 at hca
    generalize ca.tmps.getD 34 undef = y34 at hca
    generalize ca.tmps.getD 35 undef = y35 at hca
    subst hca
    try simp only [List.setIfInBounds_toArray, List.set_cons_succ, List.set_cons_zero]
    have Hb1 := hid (HBV.out.trans (hb.mono HBV.out.size))
    clear hb hd hs hphi hoth h4 v0 v1 v2 v3 v4 v5
    go_wp2
    go_ret
    exact ⟨rfl, Hb1.out⟩
end Go.Proofs.YtjchnliaglecoaaGreatDoor

/- The reference's sub of a shape with itself, walked. Conditions: the shape may be. -/
namespace Go.Proofs.YtjchnliaglecoaaGreatDoor
open Go Go.RowKit Go.Nodes
set_option linter.unusedVariables false
set_option linter.unusedSimpArgs false
def phiW (X S : Value) (T1 A8 b9 oi9 ii : Nat) : Nat → World → Value → Prop
  | 0, w, v => v = .bool true
  | 1, w, v => v = .bool false
  | 2, w, v => v = .bool false
  | 3, w, v => v = X
  | 4, w, v => v = .pointer (some ⟨T1, 2, none⟩)
  | 5, w, v => v = S
  | 6, w, v => v = .int .i64 ii
  | 7, w, v => v = .pointer (some ⟨b9, oi9, none⟩)
  | 8, w, v => v = X
  | 9, w, v => v = .bool true
  | 10, w, v => v = .bool false
  | _, w, v => v = .bool false
theorem phiW_below {X S : Value} {T1 A8 b9 oi9 ii : Nat} : ∀ (k : Nat) (w w' : World) (v : Value), Below w.heap.size w w' → phiW X S T1 A8 b9 oi9 ii k w v → phiW X S T1 A8 b9 oi9 ii k w' v := by
  intro k w w' v hb h
  unfold phiW at *
  split at h <;> first | exact h | exact h
set_option maxRecDepth 100000 in
set_option maxHeartbeats 4000000 in
theorem sub41_shape (W : World) (f : Nat) (np ap : Option Addr) (u nc ac : Nat) (ns : List ByteArray) (qs : List Sk) (Hn : Hid (RowOf W 1 textE np ns)) (Ha : Hid (RowOf W 3 (TyAt W f) ap qs)) (Hu : Hid (u = ns.length)) (Hv : Hid (u = qs.length)) (p1 : (u : Int) ≤ 9223372036854775807)
    (Hsh : Hid (shapeB ns qs = true)) (Hs : Hid (∀ T ∈ qs, SmallT f T)) (Hok : Hid (∀ T ∈ qs, okT f T = true)) :
    Calls Tryz.prog 41 #[.agg #[.int .i64 8, .slice np u nc, .slice ap u ac], .agg #[.int .i64 8, .slice np u nc, .slice ap u ac]] W fun e w' => e = .returned (.bool true) ∧ Below W.heap.size W w' := by
  have HF : Hid (∀ w', Calls Tryz.prog 86 #[.agg #[.int .i64 8, .slice np u nc, .slice ap u ac]] w' fun e w2 => e = .returned (.bool false) ∧ Below w'.heap.size w' w2) := hid fun w' => flat86 8 np ap u nc u ac w'
  go_enter Tryz.func41, Tryz.ntmps41
  go_wp2_with (first
    | (go_at_call 18; refine (table18 _).mono ?_; rintro e w' ⟨rfl, hb⟩; obtain ⟨G, rfl⟩ := bout hb; clear hb)
    | (go_at_call 86; ((with_reducible refine (HF.out _).mono ?_)); rintro e w' ⟨rfl, hb⟩; obtain ⟨G1, rfl⟩ := bout hb; clear hb))
  go_loopw [61] (fun iv wr => ∃ (i : Nat) (G : Gro), i ≤ u ∧ iv = .int .i64 i ∧ wr = grow ((W.alloc (.cells #[.int .i64 8, .slice np u nc, .slice ap u ac] 39)).alloc (.cells #[.int .i64 8, .slice np u nc, .slice ap u ac] 39)) G) (fun iv _ => u - (intOf iv).toNat)
  case atStart => exact ⟨0, _, Nat.zero_le _, rfl, below_grow2 (by repeat (first | exact Below.refl _ _ | refine bN ?_ _ | refine bD ?_ | refine bG ?_ _ | refine bI ?_ _ _ | refine bA ?_ _))⟩
  case round =>
    obtain ⟨i, G2, hi, rfl, rfl⟩ := hrel
    by_cases hin : i < u
    · have hix : i < ns.length := by have := Hu.out; omega
      have hiq : i < qs.length := by have := Hv.out; omega
      have i0 : (0 : Int) ≤ (i : Int) := by omega
      have i1 : (i : Int) < (u : Int) := by omega
      obtain ⟨b1, o1, k2, np2, nn2, nc2, ap2, an2, ac2, rfl, hb1, c0, c1, c2, hT⟩ := ty_cells Ha.out hiq
      obtain ⟨bn, on, x, hx, rfl, hbn, cn⟩ := text_cells Hn.out hix
      rw [← nameAt_of hix] at hx
      have HFd : Hid (∀ W', Below W.heap.size W W' → Calls Tryz.prog 87 #[.agg #[.int .i64 8, .slice (some ⟨bn, on, none⟩) u nc, .slice (some ⟨b1, o1, none⟩) u ac], .string x] W' fun e w' => e = .returned (.tuple #[.agg #[.int .i64 k2, .slice np2 nn2 nc2, .slice ap2 an2 ac2], .bool true]) ∧ Below W'.heap.size W' w') := hid fun W' hb =>
        field87 f W' 8 (some ⟨bn, on, none⟩) (some ⟨b1, o1, none⟩) nc ac ns qs (Hn.out.later hb fun _ _ _ h => h) (Ha.out.later hb fun vs x _ h => TyAt.later hb f vs x h) u Hu.out Hv.out p1 Hsh.out i hin x hx k2 np2 nn2 nc2 ap2 an2 ac2 b1 o1 rfl (Nat.lt_of_lt_of_le hb1 hb.size) (cell_later hb c0) (cell_later hb c1) (cell_later hb c2)
      have HSm : Hid (∀ W', Below W.heap.size W W' → Calls Tryz.prog 88 #[.agg #[.int .i64 k2, .slice np2 nn2 nc2, .slice ap2 an2 ac2], .agg #[.int .i64 k2, .slice np2 nn2 nc2, .slice ap2 an2 ac2]] W' fun e w' => e = .returned (.bool true) ∧ Below W'.heap.size W' w') := hid fun W' hb =>
        same88 f W' _ qs[i] (TyAt.later hb f _ _ hT) (Hs.out _ (List.getElem_mem hiq)) (Hok.out _ (List.getElem_mem hiq))
      clear hT hx hi
      go_wp2_with (go_at_call 87; refine (HFd.out _ (by repeat (first | exact Below.refl _ _ | refine bN ?_ _ | refine bD ?_ | refine bG ?_ _ | refine bI ?_ _ _ | refine bA ?_ _))).mono ?_; rintro e w' ⟨rfl, hb⟩; obtain ⟨G3, rfl⟩ := bout hb; clear hb)
      obtain ⟨G4, hG4⟩ : ∃ G4, G2.app G3 = G4 := ⟨_, rfl⟩
      rw [hG4]
      obtain ⟨V, hV⟩ : ∃ V, (grow ((W.alloc (.cells #[.int .i64 8, .slice (some ⟨bn, on, none⟩) u nc, .slice (some ⟨b1, o1, none⟩) u ac] 39)).alloc (.cells #[.int .i64 8, .slice (some ⟨bn, on, none⟩) u nc, .slice (some ⟨b1, o1, none⟩) u ac] 39)) G4).alloc (.cells #[.int .i64 k2, .slice np2 nn2 nc2, .slice ap2 an2 ac2] 39) = V := ⟨_, rfl⟩
      rw [hV]
      have HXV : Hid (Below ((W.alloc (.cells #[.int .i64 8, .slice (some ⟨bn, on, none⟩) u nc, .slice (some ⟨b1, o1, none⟩) u ac] 39)).alloc (.cells #[.int .i64 8, .slice (some ⟨bn, on, none⟩) u nc, .slice (some ⟨b1, o1, none⟩) u ac] 39)).heap.size ((W.alloc (.cells #[.int .i64 8, .slice (some ⟨bn, on, none⟩) u nc, .slice (some ⟨b1, o1, none⟩) u ac] 39)).alloc (.cells #[.int .i64 8, .slice (some ⟨bn, on, none⟩) u nc, .slice (some ⟨b1, o1, none⟩) u ac] 39)) V) := hid (by rw [← hV]; exact bA (bG (Below.refl _ _) _) _)
      have HBV : Hid (Below W.heap.size W V) := hid (by rw [← hV]; exact bA (bG (bA (bA (Below.refl _ _) _) _) _) _)
      obtain ⟨A8, hA8⟩ : ∃ A8, (grow ((W.alloc (.cells #[.int .i64 8, .slice (some ⟨bn, on, none⟩) u nc, .slice (some ⟨b1, o1, none⟩) u ac] 39)).alloc (.cells #[.int .i64 8, .slice (some ⟨bn, on, none⟩) u nc, .slice (some ⟨b1, o1, none⟩) u ac] 39)) G4).heap.size = A8 := ⟨_, rfl⟩
      have hA8' := hA8
      simp at hA8'
      have a0 : V.heap[A8]? = some (.cells #[.int .i64 k2, .slice np2 nn2 nc2, .slice ap2 an2 ac2] 39 (0, 0)) := by
        rw [← hV, ← hA8]; exact heap_alloc_new _ _
      have a1 : V.heap[W.heap.size + 1]? = some (.cells #[.int .i64 8, .slice (some ⟨bn, on, none⟩) u nc, .slice (some ⟨b1, o1, none⟩) u ac] 39 (0, 0)) := by
        rw [← hV, Below.heap_alloc _ _ _ (by rw [hA8]; omega), (below_grow _ _).block _ (by simp)]
        have := heap_alloc_new (W.alloc (.cells #[.int .i64 8, .slice (some ⟨bn, on, none⟩) u nc, .slice (some ⟨b1, o1, none⟩) u ac] 39)) (.cells #[.int .i64 8, .slice (some ⟨bn, on, none⟩) u nc, .slice (some ⟨b1, o1, none⟩) u ac] 39)
        simpa using this
      have v0 : V.cell? ⟨A8, 0, none⟩ = some (.int .i64 k2) := by simp [World.cell?, a0]
      have v1 : V.cell? ⟨A8, 1, none⟩ = some (.slice np2 nn2 nc2) := by simp [World.cell?, a0]
      have v2 : V.cell? ⟨A8, 2, none⟩ = some (.slice ap2 an2 ac2) := by simp [World.cell?, a0]
      have v3 : V.cell? ⟨W.heap.size + 1, 2, none⟩ = some (.slice (some ⟨b1, o1, none⟩) u ac) := by simp [World.cell?, a1]
      have v4 := cell_later HBV.out c0
      have v5 := cell_later HBV.out c1
      have v6 := cell_later HBV.out c2
      have lA := (Array.getElem?_eq_some_iff.1 a0).1
      have lB := (Array.getElem?_eq_some_iff.1 a1).1
      have lC : b1 < V.heap.size := Nat.lt_of_lt_of_le hb1 HBV.out.size
      try rw [hA8']
      clear hV hA8 hA8' a0 a1 c0 c1 c2 cn
      refine Am.draw_phi (Φ := phiW (.agg #[.int .i64 k2, .slice np2 nn2 nc2, .slice ap2 an2 ac2]) (.slice (some ⟨b1, o1, none⟩) u ac) (W.heap.size + 1) A8 b1 (o1 + i * 3) i) (by kernel_rfl) (by kernel_rfl) (by kernel_rfl) phiW_below ?_ ?_
      · intro kq o ca w1 ho hb hlook K hK
        have hA0 := (hb.cell (p := ⟨A8, _, none⟩) lA).trans v0
        have hA1 := (hb.cell (p := ⟨A8, _, none⟩) lA).trans v1
        have hA2 := (hb.cell (p := ⟨A8, _, none⟩) lA).trans v2
        have hB2 := (hb.cell (p := ⟨W.heap.size + 1, _, none⟩) lB).trans v3
        have hC0 := (hb.cell (p := ⟨b1, _, none⟩) lC).trans v4
        have hC1 := (hb.cell (p := ⟨b1, _, none⟩) lC).trans v5
        have hC2 := (hb.cell (p := ⟨b1, _, none⟩) lC).trans v6
        have hbW : Below W.heap.size W w1 := HBV.out.trans (hb.mono HBV.out.size)
        have hfn : ∀ f, ca.eval (.func f) = .func (.func f) #[] #[] := fun _ => rfl
        have hcs : ∀ v, ca.eval (.const v) = v := fun _ => rfl
        rcases kq with _ | _ | _ | _ | _ | _ | _ | _ | _ | _ | _ | _ | kq
        · cases ho
          have h9 := Am.eval_tmp (Am.look_old (t := 9) hlook (by kernel_rfl) (by kernel_rfl) rfl)
          refine Am.wpOp_run rfl rfl (Am.wp_value (v := .bool true) ?_ (hK _ _ (Below.refl _ _) rfl))
          generalize ca.eval = ev at *
          simp [go_sem, execOp, hfn, hcs, h9]
        · cases ho
          have h72 : (ca.tmps.getD 72 undef) = .bool true := Am.look_of (j := 0) hlook (by kernel_rfl) rfl rfl
          replace h72 := Am.eval_tmp h72
          refine Am.wpOp_run rfl rfl (Am.wp_value (v := .bool false) ?_ (hK _ _ (Below.refl _ _) rfl))
          generalize ca.eval = ev at *
          simp [go_sem, execOp, hfn, hcs, h72]
        · cases ho
          have h73 : (ca.tmps.getD 73 undef) = .bool false := Am.look_of (j := 1) hlook (by kernel_rfl) rfl rfl
          replace h73 := Am.eval_tmp h73
          refine Am.wpOp_run rfl rfl (Am.wp_value (v := .bool false) ?_ (hK _ _ (Below.refl _ _) rfl))
          generalize ca.eval = ev at *
          simp [go_sem, execOp, hfn, hcs, h73]
        · cases ho
          have hg : ca.tmps.getD 74 undef = .bool false := Am.look_of (j := 2) hlook (by kernel_rfl) rfl rfl
          have h8 := Am.eval_tmp (Am.look_old (t := 8) hlook (by kernel_rfl) (by kernel_rfl) rfl)
          refine Am.wpOp_run_g rfl rfl rfl hg rfl (Am.wp_value (v := .agg #[.int .i64 k2, .slice np2 nn2 nc2, .slice ap2 an2 ac2]) ?_ (hK _ _ (Below.refl _ _) rfl))
          generalize ca.eval = ev at *
          simp [go_sem, execOp, hfn, hcs, h8, hA0, hA1, hA2]
        · cases ho
          have hg : ca.tmps.getD 74 undef = .bool false := Am.look_of (j := 2) hlook (by kernel_rfl) rfl rfl
          have h3 := Am.eval_tmp (Am.look_old (t := 3) hlook (by kernel_rfl) (by kernel_rfl) rfl)
          refine Am.wpOp_run_g rfl rfl rfl hg rfl (Am.wp_value (v := .pointer (some ⟨W.heap.size + 1, 2, none⟩)) ?_ (hK _ _ (Below.refl _ _) rfl))
          generalize ca.eval = ev at *
          simp [go_sem, execOp, hfn, hcs, h3]
        · cases ho
          have hg : ca.tmps.getD 74 undef = .bool false := Am.look_of (j := 2) hlook (by kernel_rfl) rfl rfl
          have h76 : (ca.tmps.getD 76 undef) = .pointer (some ⟨W.heap.size + 1, 2, none⟩) := Am.look_of (j := 4) hlook (by kernel_rfl) rfl rfl
          replace h76 := Am.eval_tmp h76
          refine Am.wpOp_run_g rfl rfl rfl hg rfl (Am.wp_value (v := .slice (some ⟨b1, o1, none⟩) u ac) ?_ (hK _ _ (Below.refl _ _) rfl))
          generalize ca.eval = ev at *
          simp [go_sem, execOp, hfn, hcs, h76, hB2]
        · cases ho
          have hg : ca.tmps.getD 74 undef = .bool false := Am.look_of (j := 2) hlook (by kernel_rfl) rfl rfl
          have h6 := Am.eval_tmp (Am.look_old (t := 6) hlook (by kernel_rfl) (by kernel_rfl) rfl)
          refine Am.wpOp_run_g rfl rfl rfl hg rfl (Am.wp_value (v := .int .i64 i) ?_ (hK _ _ (Below.refl _ _) rfl))
          generalize ca.eval = ev at *
          simp [go_sem, execOp, hfn, hcs, h6]
        · cases ho
          have hg : ca.tmps.getD 74 undef = .bool false := Am.look_of (j := 2) hlook (by kernel_rfl) rfl rfl
          have h77 : (ca.tmps.getD 77 undef) = (.slice (some ⟨b1, o1, none⟩) u ac) := Am.look_of (j := 5) hlook (by kernel_rfl) rfl rfl
          replace h77 := Am.eval_tmp h77
          have h78 : (ca.tmps.getD 78 undef) = .int .i64 i := Am.look_of (j := 6) hlook (by kernel_rfl) rfl rfl
          replace h78 := Am.eval_tmp h78
          refine Am.wpOp_run_g rfl rfl rfl hg rfl (Am.wp_value (v := .pointer (some ⟨b1, o1 + i * 3, none⟩)) ?_ (hK _ _ (Below.refl _ _) rfl))
          generalize ca.eval = ev at *
          simp [go_sem, execOp, hfn, hcs, h77, h78, i0, i1]
        · cases ho
          have hg : ca.tmps.getD 74 undef = .bool false := Am.look_of (j := 2) hlook (by kernel_rfl) rfl rfl
          have h79 : (ca.tmps.getD 79 undef) = .pointer (some ⟨b1, o1 + i * 3, none⟩) := Am.look_of (j := 7) hlook (by kernel_rfl) rfl rfl
          replace h79 := Am.eval_tmp h79
          refine Am.wpOp_run_g rfl rfl rfl hg rfl (Am.wp_value (v := .agg #[.int .i64 k2, .slice np2 nn2 nc2, .slice ap2 an2 ac2]) ?_ (hK _ _ (Below.refl _ _) rfl))
          generalize ca.eval = ev at *
          simp [go_sem, execOp, hfn, hcs, h79, hC0, hC1, hC2]
        · cases ho
          have hg : ca.tmps.getD 74 undef = .bool false := Am.look_of (j := 2) hlook (by kernel_rfl) rfl rfl
          have h75 : (ca.tmps.getD 75 undef) = (.agg #[.int .i64 k2, .slice np2 nn2 nc2, .slice ap2 an2 ac2]) := Am.look_of (j := 3) hlook (by kernel_rfl) rfl rfl
          replace h75 := Am.eval_tmp h75
          have h80 : (ca.tmps.getD 80 undef) = (.agg #[.int .i64 k2, .slice np2 nn2 nc2, .slice ap2 an2 ac2]) := Am.look_of (j := 8) hlook (by kernel_rfl) rfl rfl
          replace h80 := Am.eval_tmp h80
          refine Am.wpOp_run_g rfl rfl rfl hg rfl (Am.wp_enter (w' := w1) (f := 88) (args := #[.agg #[.int .i64 k2, .slice np2 nn2 nc2, .slice ap2 an2 ac2], .agg #[.int .i64 k2, .slice np2 nn2 nc2, .slice ap2 an2 ac2]]) ?_ ((HSm.out w1 hbW).mono ?_))
          · generalize ca.eval = ev at *
            simp [go_sem, execOp, hfn, hcs, h75, h80]
          · rintro e w' ⟨rfl, hb'⟩
            exact ⟨_, rfl, hK _ _ hb' rfl⟩
        · cases ho
          have hg : ca.tmps.getD 74 undef = .bool false := Am.look_of (j := 2) hlook (by kernel_rfl) rfl rfl
          have h81 : (ca.tmps.getD 81 undef) = .bool true := Am.look_of (j := 9) hlook (by kernel_rfl) rfl rfl
          replace h81 := Am.eval_tmp h81
          refine Am.wpOp_run_g rfl rfl rfl hg rfl (Am.wp_value (v := .bool false) ?_ (hK _ _ (Below.refl _ _) rfl))
          generalize ca.eval = ev at *
          simp [go_sem, execOp, hfn, hcs, h81]
        · cases ho
          have h74 : (ca.tmps.getD 74 undef) = .bool false := Am.look_of (j := 2) hlook (by kernel_rfl) rfl rfl
          replace h74 := Am.eval_tmp h74
          have h82 : (ca.tmps.getD 82 undef) = .bool false := Am.look_of (j := 10) hlook (by kernel_rfl) rfl rfl
          replace h82 := Am.eval_tmp h82
          refine Am.wpOp_run rfl rfl (Am.wp_value (v := .bool false) ?_ (hK _ _ (Below.refl _ _) rfl))
          generalize ca.eval = ev at *
          simp [go_sem, execOp, hfn, hcs, h74, h82]
        · simp at ho
      · intro ca w1 hb hd hs hphi hoth
        have h83 : ca.tmps.getD 83 undef = .bool false := hphi 11 _ 83 rfl rfl
        have hca := Am.frame_out hd hs hoth
        simp only [Act.put, List.foldl_cons, List.foldl_nil, h83] at hca
        generalize ca.tmps.getD 72 undef = y72 at hca
        generalize ca.tmps.getD 73 undef = y73 at hca
        generalize ca.tmps.getD 74 undef = y74 at hca
        generalize ca.tmps.getD 75 undef = y75 at hca
        generalize ca.tmps.getD 76 undef = y76 at hca
        generalize ca.tmps.getD 77 undef = y77 at hca
        generalize ca.tmps.getD 78 undef = y78 at hca
        generalize ca.tmps.getD 79 undef = y79 at hca
        generalize ca.tmps.getD 80 undef = y80 at hca
        generalize ca.tmps.getD 81 undef = y81 at hca
        generalize ca.tmps.getD 82 undef = y82 at hca
        subst hca
        try simp only [List.setIfInBounds_toArray, List.set_cons_succ, List.set_cons_zero]
        have Hb1 := hid (HXV.out.trans (hb.mono HXV.out.size))
        clear hb hd hs hphi hoth h83 v0 v1 v2 v3 v4 v5 v6
        go_wp2
        go_roundw
        case rel => exact ⟨i + 1, _, by omega, by go_num, below_grow2 Hb1.out⟩
        case measure => simp [intOf]; omega
    · obtain rfl : i = u := by omega
      clear hi hin
      go_wp2
      go_ret
      exact ⟨rfl, by repeat (first | exact Below.refl _ _ | refine bN ?_ _ | refine bD ?_ | refine bG ?_ _ | refine bI ?_ _ _ | refine bA ?_ _)⟩
end Go.Proofs.YtjchnliaglecoaaGreatDoor

/- The reference's sub of a function's type with itself, walked. Conditions: so it is for its parts. -/
namespace Go.Proofs.YtjchnliaglecoaaGreatDoor
open Go Go.RowKit Go.Nodes
set_option linter.unusedVariables false
set_option linter.unusedSimpArgs false
set_option maxRecDepth 100000 in
set_option maxHeartbeats 4000000 in
theorem sub41_func (W : World) (f : Nat) (np ap : Option Addr) (u nc v ac : Nat) (qs : List Sk) (Ha : Hid (RowOf W 3 (TyAt W f) ap qs)) (Hv : Hid (v = qs.length)) (hv0 : v ≠ 0) (p2 : (v : Int) ≤ 9223372036854775807)
    (Hih : Hid (∀ (i : Nat) (hi : i < qs.length) W', Below W.heap.size W W' → ∀ va, TyAt W f va qs[i] → Calls Tryz.prog 41 #[.agg va.toArray, .agg va.toArray] W' fun e w' => e = .returned (.bool true) ∧ Below W'.heap.size W' w')) :
    Calls Tryz.prog 41 #[.agg #[.int .i64 9, .slice np u nc, .slice ap v ac], .agg #[.int .i64 9, .slice np u nc, .slice ap v ac]] W fun e w' => e = .returned (.bool true) ∧ Below W.heap.size W w' := by
  have HF : Hid (∀ w', Calls Tryz.prog 86 #[.agg #[.int .i64 9, .slice np u nc, .slice ap v ac]] w' fun e w2 => e = .returned (.bool false) ∧ Below w'.heap.size w' w2) := hid fun w' => flat86 9 np ap u nc v ac w'
  obtain ⟨z, rfl⟩ : ∃ z, v = z + 1 := ⟨v - 1, by omega⟩
  have z0 : (0 : Int) ≤ (z : Int) := by omega
  have z1 : (z : Int) < ((z + 1 : Nat) : Int) := by omega
  have z2 : (z : Int) ≤ 9223372036854775806 := by omega
  have hzl : z < qs.length := by have := Hv.out; omega
  clear hv0 p2
  go_enter Tryz.func41, Tryz.ntmps41
  go_wp2_with (first
    | (go_at_call 18; refine (table18 _).mono ?_; rintro e w' ⟨rfl, hb⟩; obtain ⟨G, rfl⟩ := bout hb; clear hb)
    | (go_at_call 86; ((with_reducible refine (HF.out _).mono ?_)); rintro e w' ⟨rfl, hb⟩; obtain ⟨G1, rfl⟩ := bout hb; clear hb))
  go_loopw [11] (fun iv wr => ∃ (i : Nat) (G : Gro), i ≤ z ∧ iv = .int .i64 i ∧ wr = grow ((W.alloc (.cells #[.int .i64 9, .slice np u nc, .slice ap (z + 1) ac] 39)).alloc (.cells #[.int .i64 9, .slice np u nc, .slice ap (z + 1) ac] 39)) G) (fun iv _ => z - (intOf iv).toNat)
  case atStart => exact ⟨0, _, Nat.zero_le _, rfl, below_grow2 (by repeat (first | exact Below.refl _ _ | refine bN ?_ _ | refine bD ?_ | refine bG ?_ _ | refine bI ?_ _ _ | refine bA ?_ _))⟩
  case round =>
    obtain ⟨i, G2, hi, rfl, rfl⟩ := hrel
    have hix : i < qs.length := by omega
    have i0 : (0 : Int) ≤ (i : Int) := by omega
    have i1 : (i : Int) < (z : Int) + 1 := by omega
    obtain ⟨b1, o1, k2, np2, nn2, nc2, ap2, an2, ac2, rfl, hb1, c0, c1, c2, hT⟩ := ty_cells Ha.out hix
    have HL : Hid (∀ W', Below W.heap.size W W' → Calls Tryz.prog 41 #[.agg #[.int .i64 k2, .slice np2 nn2 nc2, .slice ap2 an2 ac2], .agg #[.int .i64 k2, .slice np2 nn2 nc2, .slice ap2 an2 ac2]] W' fun e w' => e = .returned (.bool true) ∧ Below W'.heap.size W' w') := hid fun W' hb => Hih.out i hix W' hb _ hT
    by_cases hin : i < z
    · have i2 : (i : Int) < (z : Int) := by omega
      clear hT hi
      go_wp2
      go_region_held3 (fun w' => w'.cell? ⟨W.heap.size, 2, none⟩ = some (.slice (some ⟨b1, o1, none⟩) (z + 1) ac) ∧ w'.cell? ⟨W.heap.size + 1, 2, none⟩ = some (.slice (some ⟨b1, o1, none⟩) (z + 1) ac) ∧ w'.cell? ⟨b1, o1 + i * 3, none⟩ = some (.int .i64 k2) ∧ w'.cell? ⟨b1, o1 + i * 3 + 1, none⟩ = some (.slice np2 nn2 nc2) ∧ w'.cell? ⟨b1, o1 + i * 3 + 2, none⟩ = some (.slice ap2 an2 ac2)) (first | (simp [go_sem]; done) | (simp [go_sem, *]; done))
        (first | (go_at_call 41; refine (HL.out _ (by repeat (first | exact Below.refl _ _ | refine bN ?_ _ | refine bD ?_ | refine bG ?_ _ | refine bI ?_ _ _ | refine bA ?_ _))).mono ?_; rintro e w' ⟨rfl, hb⟩; obtain ⟨G3, rfl⟩ := bout hb; clear hb))
      go_wp2
      go_roundw
      case rel => exact ⟨i + 1, _, by omega, by go_num, below_grow2 (by repeat (first | exact Below.refl _ _ | refine bN ?_ _ | refine bD ?_ | refine bG ?_ _ | refine bI ?_ _ _ | refine bA ?_ _))⟩
      case measure => simp [intOf]; omega
    · obtain rfl : i = z := by omega
      clear hT hi hin
      go_wp2
      go_region_held3 (fun w' => w'.cell? ⟨W.heap.size, 2, none⟩ = some (.slice (some ⟨b1, o1, none⟩) (i + 1) ac) ∧ w'.cell? ⟨W.heap.size + 1, 2, none⟩ = some (.slice (some ⟨b1, o1, none⟩) (i + 1) ac) ∧ w'.cell? ⟨b1, o1 + i * 3, none⟩ = some (.int .i64 k2) ∧ w'.cell? ⟨b1, o1 + i * 3 + 1, none⟩ = some (.slice np2 nn2 nc2) ∧ w'.cell? ⟨b1, o1 + i * 3 + 2, none⟩ = some (.slice ap2 an2 ac2)) (first | (simp [go_sem]; done) | (simp [go_sem, *]; done))
        (first | (go_at_call 41; refine (HL.out _ (by repeat (first | exact Below.refl _ _ | refine bN ?_ _ | refine bD ?_ | refine bG ?_ _ | refine bI ?_ _ _ | refine bA ?_ _))).mono ?_; rintro e w' ⟨rfl, hb⟩; obtain ⟨G3, rfl⟩ := bout hb; clear hb))
      go_wp2
      go_ret
      exact ⟨rfl, by repeat (first | exact Below.refl _ _ | refine bN ?_ _ | refine bD ?_ | refine bG ?_ _ | refine bI ?_ _ _ | refine bA ?_ _)⟩
end Go.Proofs.YtjchnliaglecoaaGreatDoor
