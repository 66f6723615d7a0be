/- Whether a block surely ends in an answer: scope.Ends' own function, walked. Conditions: the nodes are a program. -/
import Derived.IntWalk
import Derived.Test.YtbgjanmheagilaaGreatDoorSdX
set_option linter.unusedVariables false
set_option linter.unusedSimpArgs false
namespace Go.Proofs.YtbgjanmheagilaaGreatDoor
open Go Go.RowKit Go.Nodes
set_option linter.unusedVariables false
set_option linter.unusedSimpArgs false
def zero30 : Array Value := #[.int .i64 0, .string ⟨#[]⟩, .slice none 0 0, .int .i64 0]
theorem alloc30 (ev : Operand → Value) (w : World) : (execOp ev { dst := some 6, op := Op.alloc 30, type := 0, pos := "scope.go:188", after := #[], guard := none }).run Tryz.prog w = .ok (.value (.pointer (some ⟨w.heap.size, 0, none⟩))) (w.alloc (.cells zero30 30)) := by kernel_rfl
def phiE (S KS ND : Value) (bb oo bk9 ok9 zz jj B k9 : Nat) : Nat → World → Value → Prop
  | 0, w, v => v = S
  | 1, w, v => v = KS
  | 2, w, v => v = KS
  | 3, w, v => v = .int .i64 k9
  | 4, w, v => v = .int .i64 jj
  | 5, w, v => v = .pointer (some ⟨bk9, ok9 + jj, none⟩)
  | 6, w, v => v = .int .i64 zz
  | 7, w, v => v = .pointer (some ⟨bb, oo + zz * 4, none⟩)
  | 8, w, v => v = ND
  | _, w, v => ∃ U : Nat, v = .pointer (some ⟨U, 0, none⟩) ∧ w.heap[U]? = some (.cells zero30 30 (0, 0)) ∧ B ≤ U
theorem phiE_below {S KS ND : Value} {bb oo bk9 ok9 zz jj B k9 : Nat} : ∀ (k : Nat) (w w' : World) (v : Value), Below w.heap.size w w' → phiE S KS ND bb oo bk9 ok9 zz jj B k9 k w v → phiE S KS ND bb oo bk9 ok9 zz jj B k9 k w' v := by
  intro k w w' v hb h
  unfold phiE at *
  split at h <;> first | exact h | exact (fun ⟨U, e, hh, hB⟩ => ⟨U, e, heap_stays hb hh, hB⟩) h
def phiF0 (FE KS2 : Value) (UU bk9 ok9 v1 v2 : Nat) (rr : Bool) : Nat → World → Value → Prop
  | 0, w, v => v = .pointer (some ⟨UU, 0, none⟩)
  | 1, w, v => v = .int .i64 8
  | 2, w, v => v = .bool false
  | 3, w, v => v = .bool false
  | 4, w, v => v = .pointer (some ⟨UU, 0, none⟩)
  | 5, w, v => v = .int .i64 8
  | 6, w, v => v = .bool true
  | 7, w, v => v = .bool true
  | 8, w, v => v = FE
  | 9, w, v => v = .pointer (some ⟨UU, 2, none⟩)
  | 10, w, v => v = KS2
  | 11, w, v => v = .pointer (some ⟨bk9, ok9 + 1, none⟩)
  | 12, w, v => v = .int .i64 v1
  | 13, w, v => v = .bool false
  | 14, w, v => v = .bool false
  | 15, w, v => v = .bool false
  | 16, w, v => v = undef
  | 17, w, v => v = undef
  | 18, w, v => v = undef
  | 19, w, v => v = undef
  | 20, w, v => v = undef
  | 21, w, v => v = undef
  | 22, w, v => v = .bool false
  | 23, w, v => v = .bool false
  | _, w, v => v = .bool false
theorem phiF0_below {FE KS2 : Value} {UU bk9 ok9 v1 v2 : Nat} {rr : Bool} : ∀ (k : Nat) (w w' : World) (v : Value), Below w.heap.size w w' → phiF0 FE KS2 UU bk9 ok9 v1 v2 rr k w v → phiF0 FE KS2 UU bk9 ok9 v1 v2 rr k w' v := by
  intro k w w' v hb h
  unfold phiF0 at *
  split at h <;> first | exact h | exact h
def phiF1 (FE KS2 : Value) (UU bk9 ok9 v1 v2 : Nat) (rr : Bool) : Nat → World → Value → Prop
  | 0, w, v => v = .pointer (some ⟨UU, 0, none⟩)
  | 1, w, v => v = .int .i64 8
  | 2, w, v => v = .bool false
  | 3, w, v => v = .bool false
  | 4, w, v => v = .pointer (some ⟨UU, 0, none⟩)
  | 5, w, v => v = .int .i64 8
  | 6, w, v => v = .bool true
  | 7, w, v => v = .bool true
  | 8, w, v => v = FE
  | 9, w, v => v = .pointer (some ⟨UU, 2, none⟩)
  | 10, w, v => v = KS2
  | 11, w, v => v = .pointer (some ⟨bk9, ok9 + 1, none⟩)
  | 12, w, v => v = .int .i64 v1
  | 13, w, v => v = .bool true
  | 14, w, v => v = .bool true
  | 15, w, v => v = .bool true
  | 16, w, v => v = FE
  | 17, w, v => v = .pointer (some ⟨UU, 2, none⟩)
  | 18, w, v => v = KS2
  | 19, w, v => v = .pointer (some ⟨bk9, ok9 + 2, none⟩)
  | 20, w, v => v = .int .i64 v2
  | 21, w, v => v = .bool rr
  | 22, w, v => v = .bool rr
  | 23, w, v => v = .bool rr
  | _, w, v => v = .bool rr
theorem phiF1_below {FE KS2 : Value} {UU bk9 ok9 v1 v2 : Nat} {rr : Bool} : ∀ (k : Nat) (w w' : World) (v : Value), Below w.heap.size w w' → phiF1 FE KS2 UU bk9 ok9 v1 v2 rr k w v → phiF1 FE KS2 UU bk9 ok9 v1 v2 rr k w' v := by
  intro k w w' v hb h
  unfold phiF1 at *
  split at h <;> first | exact h | exact h
set_option maxRecDepth 100000 in
set_option maxHeartbeats 4000000 in
theorem ends1_any (W0 : World) (p : Option Addr) (c BL BE : Nat) (ns : List Nd) (hL0 : ns.length ≤ 5000) (hks0 : ∀ x ∈ ns, x.kids.length ≤ 20000) (ha : NodesAt W0 p ns) (hv : VPre ns ns.length) (cL : W0.cell? ⟨BL, 0, none⟩ = some (.slice p ns.length c)) (cE : W0.cell? ⟨BE, 0, none⟩ = some (.func (.func 40) #[] #[.pointer (some ⟨BL, 0, none⟩), .pointer (some ⟨BE, 0, none⟩)])) (lL : BL < W0.heap.size) (lE : BE < W0.heap.size) :
    ∀ (f n : Nat), n < f → n < ns.length → ∀ W, Below W0.heap.size W0 W → Calls Tryz.prog 40 #[.int .i64 (n : Int), .pointer (some ⟨BL, 0, none⟩), .pointer (some ⟨BE, 0, none⟩)] W
      fun e w' => e = .returned (.bool (endsF ns f n)) ∧ Below W.heap.size W w' := by
  intro f
  induction f with
  | zero => intro n hn; omega
  | succ f ih =>
    intro n hn hnl W hW
    obtain ⟨b, o, rfl, hb, hx, hf, c0, c1, c2, c3⟩ := nd_at ha hnl
    have hka := kindAt_of hx
    have hkd := kidsAt_of hx
    have hvn := hv n _ hnl hx
    have hks := hks0 ns[n] (List.getElem_mem hnl)
    have e0 := (hW.cell (p := ⟨b, _, none⟩) hb).trans c0
    have e2 := (hW.cell (p := ⟨b, _, none⟩) hb).trans c2
    have eL := (hW.cell (p := ⟨BL, _, none⟩) lL).trans cL
    have eE := (hW.cell (p := ⟨BE, _, none⟩) lE).trans cE
    have mL : BL < W.heap.size := by have := hW.size; omega
    have mE : BE < W.heap.size := by have := hW.size; omega
    have mb : b < W.heap.size := by have := hW.size; omega
    have Ha := hid ha
    have HW := hid hW
    have Ih := hid ih
    have Hv := hid hv
    have Hf := hid hf.2.2.2.2.2
    have Hkid := hid hvn.kids
    have Hks0 := hid hks0
    have hother := endsF_other (ns := ns) (f := f) (n := (n : Int))
    have hnone := endsF_none (ns := ns) (f := f) (n := (n : Int))
    have hlast := fun k => endsF_last (ns := ns) (f := f) (n := (n : Int)) (k := k)
    obtain ⟨L, hL⟩ : ∃ L, L = ns.length := ⟨_, rfl⟩
    rw [← hL] at eL
    have HL := hid hL
    have hL5 : (L : Int) ≤ 5000 := by omega
    have n0 : (0 : Int) ≤ (n : Int) := by omega
    have n1 : (n : Int) < (L : Int) := by omega
    rw [hka] at hother
    rw [hkd] at hnone
    simp only [hka, hkd] at hlast
    generalize ns[n] = x at *
    obtain ⟨kx, text, kp, kcap, kids, place⟩ := x
    simp only at hother hnone hlast e0 e2 hks Hf Hkid
    obtain ⟨k9, hk9⟩ : ∃ k9, k9 = kids.length := ⟨_, rfl⟩
    rw [← hk9] at e2 hks
    have Hk9 := hid hk9
    have hk20 : (k9 : Int) ≤ 20000 := by omega
    clear cL cE c0 c1 c2 c3 ha hW ih hf hvn hka hkd hv hks0 hL hx hk9 hL0
    by_cases hk : kx = 3
    · subst hk
      by_cases hq : k9 = 0
      · have hr := hid (hnone (List.length_eq_zero_iff.1 (by rw [← Hk9.out]; exact hq)))
        rw [hr.out]
        subst hq
        clear hother hnone hlast
        go_enter Tryz.func40, Tryz.ntmps40
        go_wp2
        go_ret
        exact ⟨rfl, by repeat (first | exact Below.refl _ _ | refine bG ?_ _ | refine bA ?_ _ | refine bD ?_ | refine bN ?_ _)⟩
      have hil : k9 - 1 < kids.length := by have := Hk9.out; omega
      rcases Hf.out with ix | ⟨bk, ok, rfl, hbk, hck⟩
      · subst ix; simp at hil
      have ek := (HW.out.cell (p := ⟨bk, _, none⟩) hbk).trans (hck (k9 - 1) hil)
      have mk : bk < W.heap.size := by have := HW.out.size; omega
      have hkin := Hkid.out kids[k9 - 1] (List.getElem_mem hil)
      have hl := hlast kids[k9 - 1] rfl (by rw [List.getLast?_eq_getElem?, ← Hk9.out]; exact List.getElem?_eq_getElem hil)
      obtain ⟨z, hz⟩ : ∃ z : Nat, kids[k9 - 1] = (z : Int) := ⟨(kids[k9 - 1]).toNat, by omega⟩
      rw [hz] at ek hkin hl
      have hzl : z < ns.length := by omega
      obtain ⟨b2, o2, h2, hb2, hx2, hf2, d0, d1, d2, d3⟩ := nd_at Ha.out hzl
      cases h2
      have hkz := kindAt_of hx2
      have hdz := kidsAt_of hx2
      have hvz := Hv.out z _ hzl hx2
      rw [hkz, hdz] at hl
      have f0 := (HW.out.cell (p := ⟨b, _, none⟩) hb).trans d0
      have f1 := (HW.out.cell (p := ⟨b, _, none⟩) hb).trans d1
      have f2 := (HW.out.cell (p := ⟨b, _, none⟩) hb).trans d2
      have f3 := (HW.out.cell (p := ⟨b, _, none⟩) hb).trans d3
      have z0 : (0 : Int) ≤ (z : Int) := by omega
      have z1 : (z : Int) < (L : Int) := by have := HL.out; omega
      have q1 : (0 : Int) < (k9 : Int) := by omega
      obtain ⟨j, hj⟩ : ∃ j : Nat, j = k9 - 1 := ⟨_, rfl⟩
      rw [← hj] at ek
      have hsub : (k9 : Int) - 1 = (j : Int) := by omega
      have hsubw : IntKind.i64.wrap (j : Int) = (j : Int) := IntWalk.i64_in _ (by omega)
      have j0 : (0 : Int) ≤ (j : Int) := by omega
      have j1 : (j : Int) < (k9 : Int) := by omega
      have Hf2 := hid hf2.2.2.2.2.2
      rw [hl]
      have Hkz := hid hvz.fits
      have Hkk := hid hvz.kids
      have Hsub := hid hsub
      have Hsubw := hid hsubw
      clear hlast hother hnone hkz hdz hx2 hf2 hl d0 d1 d2 d3 hz hck hvz hq hil hj hsub hsubw
      generalize ns[z] = y at *
      obtain ⟨kz, text2, kp2, kcap2, kids2, place2⟩ := y
      simp only at f0 f1 f2 f3 Hf2 Hkz Hkk ⊢
      obtain ⟨l2, hl2⟩ : ∃ l2, l2 = kids2.length := ⟨_, rfl⟩
      rw [← hl2] at f2
      have Hl2 := hid hl2
      obtain ⟨w3, hw3⟩ : ∃ w3, w3 = kids2.getD 1 0 := ⟨_, rfl⟩
      obtain ⟨w4, hw4⟩ : ∃ w4, w4 = kids2.getD 2 0 := ⟨_, rfl⟩
      rw [← hw3, ← hw4]
      have Hw3 := hid hw3
      have Hw4 := hid hw4
      clear hl2 hw3 hw4
      obtain ⟨R, hR⟩ : ∃ R, R = (decide (kz = 10) || (decide (kz = 8) && (endsF ns f w3 && endsF ns f w4))) := ⟨_, rfl⟩
      rw [← hR]
      have HR := hid hR
      clear hR
      go_enter Tryz.func40, Tryz.ntmps40
      go_wp2
      have hsub := Hsub.out
      have hsubw := Hsubw.out
      obtain ⟨W2, hW2⟩ : ∃ W2, W2 = W := ⟨_, rfl⟩
      have HB2 : Hid (Below W.heap.size W W2) := by rw [hW2]; exact hid (Below.refl _ _)
      rw [← hW2]
      clear hW2
      refine wp_region_any (by kernel_rfl) ?_
      refine Am.any_cut _ 10 rfl (by kernel_rfl) ?_
      simp only [List.take_succ_cons, List.take_zero]
      refine Am.draw_phi_any (Φ := phiE (.slice (some ⟨b, o, none⟩) L c) (.slice (some ⟨bk, ok, none⟩) k9 kcap) (.agg #[.int .i64 kz, .string text2, .slice kp2 l2 kcap2, .int .i64 place2]) b o bk ok z j W.heap.size k9) (w0 := W2) (by kernel_rfl) (by kernel_rfl) phiE_below ?_ ?_ _ ((Below.refl _ _).drew)
      · intro kq o ca w1 ho hb hlook K hK
        have hbW : Below W.heap.size W w1 := HB2.out.trans (hb.mono HB2.out.size)
        have hBs : W.heap.size ≤ w1.heap.size := hbW.size
        have hcL := (hbW.cell (p := ⟨BL, _, none⟩) mL).trans eL
        have hck := (hbW.cell (p := ⟨bk, _, none⟩) mk).trans ek
        have hf0 := (hbW.cell (p := ⟨b, _, none⟩) mb).trans f0
        have hf1 := (hbW.cell (p := ⟨b, _, none⟩) mb).trans f1
        have hf2 := (hbW.cell (p := ⟨b, _, none⟩) mb).trans f2
        have hf3 := (hbW.cell (p := ⟨b, _, none⟩) mb).trans f3
        have hfn : ∀ f, ca.eval (.func f) = .func (.func f) #[] #[] := fun _ => rfl
        have hcs : ∀ v, ca.eval (.const v) = v := fun _ => rfl
        rcases kq with _ | _ | _ | _ | _ | _ | _ | _ | _ | _ | kq
        · cases ho
          have h1 := Am.eval_tmp (Am.look_old (t := 1) hlook (by kernel_rfl) (by kernel_rfl) rfl)
          refine Am.wpOp_run rfl rfl (Am.wp_value (v := .slice (some ⟨b, o, none⟩) L c) ?_ (hK _ _ (Below.refl _ _) rfl))
          generalize ca.eval = ev at *
          simp [go_sem, execOp, hfn, hcs, h1, hcL]
        · cases ho
          have h5 := Am.eval_tmp (Am.look_old (t := 5) hlook (by kernel_rfl) (by kernel_rfl) rfl)
          refine Am.wpOp_run rfl rfl (Am.wp_value (v := .slice (some ⟨bk, ok, none⟩) k9 kcap) ?_ (hK _ _ (Below.refl _ _) rfl))
          generalize ca.eval = ev at *
          simp [go_sem, execOp, hfn, hcs, h5]
        · cases ho
          have h5 := Am.eval_tmp (Am.look_old (t := 5) hlook (by kernel_rfl) (by kernel_rfl) rfl)
          refine Am.wpOp_run rfl rfl (Am.wp_value (v := .slice (some ⟨bk, ok, none⟩) k9 kcap) ?_ (hK _ _ (Below.refl _ _) rfl))
          generalize ca.eval = ev at *
          simp [go_sem, execOp, hfn, hcs, h5]
        · cases ho
          have h25 : (ca.tmps.getD 25 undef) = (.slice (some ⟨bk, ok, none⟩) k9 kcap) := Am.look_of (j := 2) hlook (by kernel_rfl) rfl rfl
          replace h25 := Am.eval_tmp h25
          refine Am.wpOp_run rfl rfl (Am.wp_value (v := .int .i64 k9) ?_ (hK _ _ (Below.refl _ _) rfl))
          generalize ca.eval = ev at *
          simp [go_sem, execOp, hfn, hcs, h25]
        · cases ho
          have h26 : (ca.tmps.getD 26 undef) = .int .i64 k9 := Am.look_of (j := 3) hlook (by kernel_rfl) rfl rfl
          replace h26 := Am.eval_tmp h26
          refine Am.wpOp_run rfl rfl (Am.wp_value (v := .int .i64 j) ?_ (hK _ _ (Below.refl _ _) rfl))
          generalize ca.eval = ev at *
          simp [go_sem, execOp, hfn, hcs, h26, hsub, hsubw]
        · cases ho
          have h24 : (ca.tmps.getD 24 undef) = (.slice (some ⟨bk, ok, none⟩) k9 kcap) := Am.look_of (j := 1) hlook (by kernel_rfl) rfl rfl
          replace h24 := Am.eval_tmp h24
          have h27 : (ca.tmps.getD 27 undef) = .int .i64 j := Am.look_of (j := 4) hlook (by kernel_rfl) rfl rfl
          replace h27 := Am.eval_tmp h27
          refine Am.wpOp_run rfl rfl (Am.wp_value (v := .pointer (some ⟨bk, ok + j, none⟩)) ?_ (hK _ _ (Below.refl _ _) rfl))
          generalize ca.eval = ev at *
          simp [go_sem, execOp, hfn, hcs, h24, h27, j0, j1]
        · cases ho
          have h28 : (ca.tmps.getD 28 undef) = .pointer (some ⟨bk, ok + j, none⟩) := Am.look_of (j := 5) hlook (by kernel_rfl) rfl rfl
          replace h28 := Am.eval_tmp h28
          refine Am.wpOp_run rfl rfl (Am.wp_value (v := .int .i64 z) ?_ (hK _ _ (Below.refl _ _) rfl))
          generalize ca.eval = ev at *
          simp [go_sem, execOp, hfn, hcs, h28, hck]
        · cases ho
          have h23 : (ca.tmps.getD 23 undef) = (.slice (some ⟨b, o, none⟩) L c) := Am.look_of (j := 0) hlook (by kernel_rfl) rfl rfl
          replace h23 := Am.eval_tmp h23
          have h29 : (ca.tmps.getD 29 undef) = .int .i64 z := Am.look_of (j := 6) hlook (by kernel_rfl) rfl rfl
          replace h29 := Am.eval_tmp h29
          refine Am.wpOp_run rfl rfl (Am.wp_value (v := .pointer (some ⟨b, o + z * 4, none⟩)) ?_ (hK _ _ (Below.refl _ _) rfl))
          generalize ca.eval = ev at *
          simp [go_sem, execOp, hfn, hcs, h23, h29, z0, z1]
        · cases ho
          have h30 : (ca.tmps.getD 30 undef) = .pointer (some ⟨b, o + z * 4, none⟩) := Am.look_of (j := 7) hlook (by kernel_rfl) rfl rfl
          replace h30 := Am.eval_tmp h30
          refine Am.wpOp_run rfl rfl (Am.wp_value (v := .agg #[.int .i64 kz, .string text2, .slice kp2 l2 kcap2, .int .i64 place2]) ?_ (hK _ _ (Below.refl _ _) rfl))
          generalize ca.eval = ev at *
          simp [go_sem, execOp, hfn, hcs, h30, hf0, hf1, hf2, hf3]
        · cases ho
          refine Am.wpOp_run rfl rfl (Am.wp_value (v := .pointer (some ⟨w1.heap.size, 0, none⟩)) (w' := w1.alloc (.cells zero30 30)) ?_ (hK _ _ ((Below.refl _ _).alloc (Nat.le_refl _) _) ⟨w1.heap.size, rfl, heap_alloc_new _ _, hBs⟩))
          exact alloc30 _ w1
        · simp at ho
      · intro ca w1 hb hd hs hphi hoth
        have h31 : ca.tmps.getD 31 undef = .agg #[.int .i64 kz, .string text2, .slice kp2 l2 kcap2, .int .i64 place2] := hphi 8 _ 31 rfl rfl
        obtain ⟨U, h6, hU, hU0⟩ : ∃ U : Nat, ca.tmps.getD 6 undef = .pointer (some ⟨U, 0, none⟩) ∧ w1.heap[U]? = some (.cells zero30 30 (0, 0)) ∧ W.heap.size ≤ U := hphi 9 _ 6 rfl rfl
        have hca := Am.frame_out hd hs hoth
        simp only [List.foldl_cons, List.foldl_nil, h31, h6] at hca
        generalize ca.tmps.getD 23 undef = x23 at hca
        generalize ca.tmps.getD 24 undef = x24 at hca
        generalize ca.tmps.getD 25 undef = x25 at hca
        generalize ca.tmps.getD 26 undef = x26 at hca
        generalize ca.tmps.getD 27 undef = x27 at hca
        generalize ca.tmps.getD 28 undef = x28 at hca
        generalize ca.tmps.getD 29 undef = x29 at hca
        generalize ca.tmps.getD 30 undef = x30 at hca
        subst hca
        simp only [List.setIfInBounds_toArray, List.set_cons_succ, List.set_cons_zero]
        have hbW : Below W.heap.size W w1 := HB2.out.trans (hb.mono HB2.out.size)
        have k2b := hid hU
        have hi30 : Hid ((Tryz.prog.info? 30).map (·.size) = some 4) := hid (by kernel_rfl)
        clear hb hd hs hphi hoth h31 h6
        simp only [Am.Last]
        refine wpList_store_row rfl 30 _ _ rfl U #[.int .i64 kz, .string text2, .slice kp2 l2 kcap2, .int .i64 place2] rfl rfl 30 zero30 k2b.out hi30.out rfl (by simp [Value.oneCell']) ?_
        obtain ⟨W5, hW5⟩ : ∃ W5, W5 = w1.setRow U #[.int .i64 kz, .string text2, .slice kp2 l2 kcap2, .int .i64 place2] := ⟨_, rfl⟩
        rw [← hW5]
        have hx5 : W5.heap[U]? = some (.cells #[.int .i64 kz, .string text2, .slice kp2 l2 kcap2, .int .i64 place2] 30 (0, 0)) := by rw [hW5]; exact setRow_heap _ _ _ _ _ _ k2b.out
        have hB5 : Below W.heap.size W W5 := by rw [hW5]; exact below_row hbW hU0 _
        have lU : U < W5.heap.size := (Array.getElem?_eq_some_iff.1 hx5).1
        have u0 : W5.cell? ⟨U, 0, none⟩ = some (.int .i64 kz) := by simp [World.cell?, hx5]
        have u2 : W5.cell? ⟨U, 2, none⟩ = some (.slice kp2 l2 kcap2) := by simp [World.cell?, hx5]
        have HB5 := hid hB5
        clear hW5 hx5 k2b hi30 hU hbW hB5 HB2
        clear hsub hsubw
        by_cases h10 : kz = 10
        · have hr : Hid (R = true) := hid (by rw [HR.out, decide_eq_true h10, Bool.true_or])
          subst h10
          go_wp2
          go_quiet (fail)
          go_wp2
          go_ret
          exact ⟨by rw [hr.out]; rfl, by repeat (first | exact Below.refl _ _ | exact HB5.out | refine bG ?_ _ | refine bA ?_ _ | refine bD ?_ | refine bN ?_ _)⟩
        have b10 := ne_beq h10
        by_cases h8 : kz = 8
        · subst h8
          have h3 : kids2.length = 3 := by
            have := fits_if Hkz.out
            simpa [kindsL] using this
          rcases Hf2.out with ix | ⟨bk2, ok2, rfl, hbk2, hck2⟩
          · subst ix; simp at h3
          have g1 := (HW.out.cell (p := ⟨bk2, _, none⟩) hbk2).trans (hck2 1 (by omega))
          have g2 := (HW.out.cell (p := ⟨bk2, _, none⟩) hbk2).trans (hck2 2 (by omega))
          have mk2 : bk2 < W.heap.size := by have := HW.out.size; omega
          have i1 := Hkk.out kids2[1] (List.getElem_mem _)
          have i2 := Hkk.out kids2[2] (List.getElem_mem _)
          have e3 : w3 = kids2[1] := by rw [Hw3.out, List.getD, List.getElem?_eq_getElem (by omega)]; rfl
          have e4 : w4 = kids2[2] := by rw [Hw4.out, List.getD, List.getElem?_eq_getElem (by omega)]; rfl
          rw [← e3] at g1 i1
          rw [← e4] at g2 i2
          obtain ⟨u1, hu1⟩ : ∃ u : Nat, w3 = (u : Int) := ⟨w3.toNat, by omega⟩
          obtain ⟨w2, hu2⟩ : ∃ u : Nat, w4 = (u : Int) := ⟨w4.toNat, by omega⟩
          clear e3 e4
          subst hu1 hu2
          have hl3 : l2 = 3 := by rw [Hl2.out, h3]
          subst hl3
          have H1 : Hid (∀ W', Below W.heap.size W W' → Calls Tryz.prog 40 #[.int .i64 (u1 : Int), .pointer (some ⟨BL, 0, none⟩), .pointer (some ⟨BE, 0, none⟩)] W' fun e w' => e = .returned (.bool (endsF ns f u1)) ∧ Below W'.heap.size W' w') := hid fun W' hW' => Ih.out u1 (by omega) (by omega) W' (bB HW.out hW')
          have H2 : Hid (∀ W', Below W.heap.size W W' → Calls Tryz.prog 40 #[.int .i64 (w2 : Int), .pointer (some ⟨BL, 0, none⟩), .pointer (some ⟨BE, 0, none⟩)] W' fun e w' => e = .returned (.bool (endsF ns f w2)) ∧ Below W'.heap.size W' w') := hid fun W' hW' => Ih.out w2 (by omega) (by omega) W' (bB HW.out hW')
          have hr : R = (endsF ns f u1 && endsF ns f w2) := by rw [HR.out]; simp
          clear hck2 h3 HR
          generalize endsF ns f (u1 : Int) = r1 at *
          generalize endsF ns f (w2 : Int) = r2 at *
          have Hr := hid hr
          clear hr
          cases r1 with
          | false =>
            go_wp2
            refine Am.draw_phi (Φ := phiF0 (.func (.func 40) #[] #[.pointer (some ⟨BL, 0, none⟩), .pointer (some ⟨BE, 0, none⟩)]) (.slice (some ⟨bk2, ok2, none⟩) 3 kcap2) U bk2 ok2 u1 w2 r2) (by kernel_rfl) (by kernel_rfl) (by kernel_rfl) phiF0_below ?_ ?_
            · intro kq o ca w1 ho hb hlook K hK
              have hbW : Below W.heap.size W w1 := HB5.out.trans (hb.mono HB5.out.size)
              have hu0 := (hb.cell (p := ⟨U, _, none⟩) lU).trans u0
              have hu2 := (hb.cell (p := ⟨U, _, none⟩) lU).trans u2
              have hcE := (hbW.cell (p := ⟨BE, _, none⟩) mE).trans eE
              have hg1 := (hbW.cell (p := ⟨bk2, _, none⟩) mk2).trans g1
              have hg2 := (hbW.cell (p := ⟨bk2, _, none⟩) mk2).trans g2
              have hfn : ∀ f, ca.eval (.func f) = .func (.func f) #[] #[] := fun _ => rfl
              have hcs : ∀ v, ca.eval (.const v) = v := fun _ => rfl
              rcases kq with _ | _ | _ | _ | _ | _ | _ | _ | _ | _ | _ | _ | _ | _ | _ | _ | _ | _ | _ | _ | _ | _ | _ | _ | _ | kq
              · cases ho
                have h6 := Am.eval_tmp (Am.look_old (t := 6) hlook (by kernel_rfl) (by kernel_rfl) rfl)
                refine Am.wpOp_run rfl rfl (Am.wp_value (v := .pointer (some ⟨U, 0, none⟩)) ?_ (hK _ _ (Below.refl _ _) rfl))
                generalize ca.eval = ev at *
                simp [go_sem, execOp, hfn, hcs, h6]
              · cases ho
                have h32 : (ca.tmps.getD 32 undef) = .pointer (some ⟨U, 0, none⟩) := Am.look_of (j := 0) hlook (by kernel_rfl) rfl rfl
                replace h32 := Am.eval_tmp h32
                refine Am.wpOp_run rfl rfl (Am.wp_value (v := .int .i64 8) ?_ (hK _ _ (Below.refl _ _) rfl))
                generalize ca.eval = ev at *
                simp [go_sem, execOp, hfn, hcs, h32, hu0]
              · cases ho
                have h33 : (ca.tmps.getD 33 undef) = .int .i64 8 := Am.look_of (j := 1) hlook (by kernel_rfl) rfl rfl
                replace h33 := Am.eval_tmp h33
                refine Am.wpOp_run rfl rfl (Am.wp_value (v := .bool false) ?_ (hK _ _ (Below.refl _ _) rfl))
                generalize ca.eval = ev at *
                simp [go_sem, execOp, hfn, hcs, h33]
              · cases ho
                have h34 : (ca.tmps.getD 34 undef) = .bool false := Am.look_of (j := 2) hlook (by kernel_rfl) rfl rfl
                replace h34 := Am.eval_tmp h34
                refine Am.wpOp_run rfl rfl (Am.wp_value (v := .bool false) ?_ (hK _ _ (Below.refl _ _) rfl))
                generalize ca.eval = ev at *
                simp [go_sem, execOp, hfn, hcs, h34]
              · cases ho
                have hg : ca.tmps.getD 35 undef = .bool false := Am.look_of (j := 3) hlook (by kernel_rfl) rfl rfl
                have h6 := Am.eval_tmp (Am.look_old (t := 6) hlook (by kernel_rfl) (by kernel_rfl) rfl)
                refine Am.wpOp_run_g rfl rfl rfl hg rfl (Am.wp_value (v := .pointer (some ⟨U, 0, none⟩)) ?_ (hK _ _ (Below.refl _ _) rfl))
                generalize ca.eval = ev at *
                simp [go_sem, execOp, hfn, hcs, h6]
              · cases ho
                have hg : ca.tmps.getD 35 undef = .bool false := Am.look_of (j := 3) hlook (by kernel_rfl) rfl rfl
                have h36 : (ca.tmps.getD 36 undef) = .pointer (some ⟨U, 0, none⟩) := Am.look_of (j := 4) hlook (by kernel_rfl) rfl rfl
                replace h36 := Am.eval_tmp h36
                refine Am.wpOp_run_g rfl rfl rfl hg rfl (Am.wp_value (v := .int .i64 8) ?_ (hK _ _ (Below.refl _ _) rfl))
                generalize ca.eval = ev at *
                simp [go_sem, execOp, hfn, hcs, h36, hu0]
              · cases ho
                have hg : ca.tmps.getD 35 undef = .bool false := Am.look_of (j := 3) hlook (by kernel_rfl) rfl rfl
                have h37 : (ca.tmps.getD 37 undef) = .int .i64 8 := Am.look_of (j := 5) hlook (by kernel_rfl) rfl rfl
                replace h37 := Am.eval_tmp h37
                refine Am.wpOp_run_g rfl rfl rfl hg rfl (Am.wp_value (v := .bool true) ?_ (hK _ _ (Below.refl _ _) rfl))
                generalize ca.eval = ev at *
                simp [go_sem, execOp, hfn, hcs, h37]
              · cases ho
                have hg : ca.tmps.getD 35 undef = .bool false := Am.look_of (j := 3) hlook (by kernel_rfl) rfl rfl
                have h38 : (ca.tmps.getD 38 undef) = .bool true := Am.look_of (j := 6) hlook (by kernel_rfl) rfl rfl
                replace h38 := Am.eval_tmp h38
                refine Am.wpOp_run_g rfl rfl rfl hg rfl (Am.wp_value (v := .bool true) ?_ (hK _ _ (Below.refl _ _) rfl))
                generalize ca.eval = ev at *
                simp [go_sem, execOp, hfn, hcs, h38]
              · cases ho
                have hg : ca.tmps.getD 39 undef = .bool true := Am.look_of (j := 7) hlook (by kernel_rfl) rfl rfl
                have h2 := Am.eval_tmp (Am.look_old (t := 2) hlook (by kernel_rfl) (by kernel_rfl) rfl)
                refine Am.wpOp_run_g rfl rfl rfl hg rfl (Am.wp_value (v := .func (.func 40) #[] #[.pointer (some ⟨BL, 0, none⟩), .pointer (some ⟨BE, 0, none⟩)]) ?_ (hK _ _ (Below.refl _ _) rfl))
                generalize ca.eval = ev at *
                simp [go_sem, execOp, hfn, hcs, h2, hcE]
              · cases ho
                have hg : ca.tmps.getD 39 undef = .bool true := Am.look_of (j := 7) hlook (by kernel_rfl) rfl rfl
                have h6 := Am.eval_tmp (Am.look_old (t := 6) hlook (by kernel_rfl) (by kernel_rfl) rfl)
                refine Am.wpOp_run_g rfl rfl rfl hg rfl (Am.wp_value (v := .pointer (some ⟨U, 2, none⟩)) ?_ (hK _ _ (Below.refl _ _) rfl))
                generalize ca.eval = ev at *
                simp [go_sem, execOp, hfn, hcs, h6]
              · cases ho
                have hg : ca.tmps.getD 39 undef = .bool true := Am.look_of (j := 7) hlook (by kernel_rfl) rfl rfl
                have h41 : (ca.tmps.getD 41 undef) = .pointer (some ⟨U, 2, none⟩) := Am.look_of (j := 9) hlook (by kernel_rfl) rfl rfl
                replace h41 := Am.eval_tmp h41
                refine Am.wpOp_run_g rfl rfl rfl hg rfl (Am.wp_value (v := .slice (some ⟨bk2, ok2, none⟩) 3 kcap2) ?_ (hK _ _ (Below.refl _ _) rfl))
                generalize ca.eval = ev at *
                simp [go_sem, execOp, hfn, hcs, h41, hu2]
              · cases ho
                have hg : ca.tmps.getD 39 undef = .bool true := Am.look_of (j := 7) hlook (by kernel_rfl) rfl rfl
                have h42 : (ca.tmps.getD 42 undef) = (.slice (some ⟨bk2, ok2, none⟩) 3 kcap2) := Am.look_of (j := 10) hlook (by kernel_rfl) rfl rfl
                replace h42 := Am.eval_tmp h42
                refine Am.wpOp_run_g rfl rfl rfl hg rfl (Am.wp_value (v := .pointer (some ⟨bk2, ok2 + 1, none⟩)) ?_ (hK _ _ (Below.refl _ _) rfl))
                generalize ca.eval = ev at *
                simp [go_sem, execOp, hfn, hcs, h42]
              · cases ho
                have hg : ca.tmps.getD 39 undef = .bool true := Am.look_of (j := 7) hlook (by kernel_rfl) rfl rfl
                have h43 : (ca.tmps.getD 43 undef) = .pointer (some ⟨bk2, ok2 + 1, none⟩) := Am.look_of (j := 11) hlook (by kernel_rfl) rfl rfl
                replace h43 := Am.eval_tmp h43
                refine Am.wpOp_run_g rfl rfl rfl hg rfl (Am.wp_value (v := .int .i64 u1) ?_ (hK _ _ (Below.refl _ _) rfl))
                generalize ca.eval = ev at *
                simp [go_sem, execOp, hfn, hcs, h43, hg1]
              · cases ho
                have hg : ca.tmps.getD 39 undef = .bool true := Am.look_of (j := 7) hlook (by kernel_rfl) rfl rfl
                have h40 : (ca.tmps.getD 40 undef) = (.func (.func 40) #[] #[.pointer (some ⟨BL, 0, none⟩), .pointer (some ⟨BE, 0, none⟩)]) := Am.look_of (j := 8) hlook (by kernel_rfl) rfl rfl
                replace h40 := Am.eval_tmp h40
                have h44 : (ca.tmps.getD 44 undef) = .int .i64 u1 := Am.look_of (j := 12) hlook (by kernel_rfl) rfl rfl
                replace h44 := Am.eval_tmp h44
                refine Am.wpOp_run_g rfl rfl rfl hg rfl (Am.wp_enter (w' := w1) (f := 40) (args := #[.int .i64 (u1 : Int), .pointer (some ⟨BL, 0, none⟩), .pointer (some ⟨BE, 0, none⟩)]) ?_ ((H1.out w1 hbW).mono ?_))
                · generalize ca.eval = ev at *
                  simp [go_sem, execOp, hfn, hcs, h40, h44]
                · rintro e w' ⟨rfl, hb'⟩
                  exact ⟨_, rfl, hK _ _ hb' rfl⟩
              · cases ho
                have hg : ca.tmps.getD 35 undef = .bool false := Am.look_of (j := 3) hlook (by kernel_rfl) rfl rfl
                have h39 : (ca.tmps.getD 39 undef) = .bool true := Am.look_of (j := 7) hlook (by kernel_rfl) rfl rfl
                replace h39 := Am.eval_tmp h39
                have h45 : (ca.tmps.getD 45 undef) = .bool false := Am.look_of (j := 13) hlook (by kernel_rfl) rfl rfl
                replace h45 := Am.eval_tmp h45
                refine Am.wpOp_run_g rfl rfl rfl hg rfl (Am.wp_value (v := .bool false) ?_ (hK _ _ (Below.refl _ _) rfl))
                generalize ca.eval = ev at *
                simp [go_sem, execOp, hfn, hcs, h39, h45]
              · cases ho
                have hg : ca.tmps.getD 35 undef = .bool false := Am.look_of (j := 3) hlook (by kernel_rfl) rfl rfl
                have h46 : (ca.tmps.getD 46 undef) = .bool false := Am.look_of (j := 14) hlook (by kernel_rfl) rfl rfl
                replace h46 := Am.eval_tmp h46
                refine Am.wpOp_run_g rfl rfl rfl hg rfl (Am.wp_value (v := .bool false) ?_ (hK _ _ (Below.refl _ _) rfl))
                generalize ca.eval = ev at *
                simp [go_sem, execOp, hfn, hcs, h46]
              · cases ho
                have hg : ca.tmps.getD 47 undef = .bool false := Am.look_of (j := 15) hlook (by kernel_rfl) rfl rfl
                exact Am.wpOp_skip_g rfl rfl rfl hg rfl (hK _ _ (Below.refl _ _) rfl)
              · cases ho
                have hg : ca.tmps.getD 47 undef = .bool false := Am.look_of (j := 15) hlook (by kernel_rfl) rfl rfl
                exact Am.wpOp_skip_g rfl rfl rfl hg rfl (hK _ _ (Below.refl _ _) rfl)
              · cases ho
                have hg : ca.tmps.getD 47 undef = .bool false := Am.look_of (j := 15) hlook (by kernel_rfl) rfl rfl
                exact Am.wpOp_skip_g rfl rfl rfl hg rfl (hK _ _ (Below.refl _ _) rfl)
              · cases ho
                have hg : ca.tmps.getD 47 undef = .bool false := Am.look_of (j := 15) hlook (by kernel_rfl) rfl rfl
                exact Am.wpOp_skip_g rfl rfl rfl hg rfl (hK _ _ (Below.refl _ _) rfl)
              · cases ho
                have hg : ca.tmps.getD 47 undef = .bool false := Am.look_of (j := 15) hlook (by kernel_rfl) rfl rfl
                exact Am.wpOp_skip_g rfl rfl rfl hg rfl (hK _ _ (Below.refl _ _) rfl)
              · cases ho
                have hg : ca.tmps.getD 47 undef = .bool false := Am.look_of (j := 15) hlook (by kernel_rfl) rfl rfl
                exact Am.wpOp_skip_g rfl rfl rfl hg rfl (hK _ _ (Below.refl _ _) rfl)
              · cases ho
                have hg : ca.tmps.getD 35 undef = .bool false := Am.look_of (j := 3) hlook (by kernel_rfl) rfl rfl
                have h47 : (ca.tmps.getD 47 undef) = .bool false := Am.look_of (j := 15) hlook (by kernel_rfl) rfl rfl
                replace h47 := Am.eval_tmp h47
                refine Am.wpOp_run_g rfl rfl rfl hg rfl (Am.wp_value (v := .bool false) ?_ (hK _ _ (Below.refl _ _) rfl))
                generalize ca.eval = ev at *
                simp [go_sem, execOp, hfn, hcs, h47]
              · cases ho
                have h35 : (ca.tmps.getD 35 undef) = .bool false := Am.look_of (j := 3) hlook (by kernel_rfl) rfl rfl
                replace h35 := Am.eval_tmp h35
                have h54 : (ca.tmps.getD 54 undef) = .bool false := Am.look_of (j := 22) hlook (by kernel_rfl) rfl rfl
                replace h54 := Am.eval_tmp h54
                refine Am.wpOp_run rfl rfl (Am.wp_value (v := .bool false) ?_ (hK _ _ (Below.refl _ _) rfl))
                generalize ca.eval = ev at *
                simp [go_sem, execOp, hfn, hcs, h35, h54]
              · cases ho
                have h55 : (ca.tmps.getD 55 undef) = .bool false := Am.look_of (j := 23) hlook (by kernel_rfl) rfl rfl
                replace h55 := Am.eval_tmp h55
                refine Am.wpOp_run rfl rfl (Am.wp_value (v := .bool false) ?_ (hK _ _ (Below.refl _ _) rfl))
                generalize ca.eval = ev at *
                simp [go_sem, execOp, hfn, hcs, h55]
              · simp at ho
            · intro ca w1 hb hd hs hphi hoth
              have h4 : ca.tmps.getD 4 undef = .bool false := hphi 24 _ 4 rfl rfl
              have hca := Am.frame_out hd hs hoth
              simp only [Act.put, List.foldl_cons, List.foldl_nil, h4] at hca
              generalize ca.tmps.getD 32 undef = y32 at hca
              generalize ca.tmps.getD 33 undef = y33 at hca
              generalize ca.tmps.getD 34 undef = y34 at hca
              generalize ca.tmps.getD 35 undef = y35 at hca
              generalize ca.tmps.getD 36 undef = y36 at hca
              generalize ca.tmps.getD 37 undef = y37 at hca
              generalize ca.tmps.getD 38 undef = y38 at hca
              generalize ca.tmps.getD 39 undef = y39 at hca
              generalize ca.tmps.getD 40 undef = y40 at hca
              generalize ca.tmps.getD 41 undef = y41 at hca
              generalize ca.tmps.getD 42 undef = y42 at hca
              generalize ca.tmps.getD 43 undef = y43 at hca
              generalize ca.tmps.getD 44 undef = y44 at hca
              generalize ca.tmps.getD 45 undef = y45 at hca
              generalize ca.tmps.getD 46 undef = y46 at hca
              generalize ca.tmps.getD 47 undef = y47 at hca
              generalize ca.tmps.getD 48 undef = y48 at hca
              generalize ca.tmps.getD 49 undef = y49 at hca
              generalize ca.tmps.getD 50 undef = y50 at hca
              generalize ca.tmps.getD 51 undef = y51 at hca
              generalize ca.tmps.getD 52 undef = y52 at hca
              generalize ca.tmps.getD 53 undef = y53 at hca
              generalize ca.tmps.getD 54 undef = y54 at hca
              generalize ca.tmps.getD 55 undef = y55 at hca
              subst hca
              try simp only [List.setIfInBounds_toArray, List.set_cons_succ, List.set_cons_zero]
              have HB6 := hid (HB5.out.trans (hb.mono HB5.out.size))
              clear hb hd hs hphi hoth h4
              go_wp2
              go_ret
              exact ⟨by rw [Hr.out]; rfl, HB6.out⟩
          | true =>
            go_wp2
            refine Am.draw_phi (Φ := phiF1 (.func (.func 40) #[] #[.pointer (some ⟨BL, 0, none⟩), .pointer (some ⟨BE, 0, none⟩)]) (.slice (some ⟨bk2, ok2, none⟩) 3 kcap2) U bk2 ok2 u1 w2 r2) (by kernel_rfl) (by kernel_rfl) (by kernel_rfl) phiF1_below ?_ ?_
            · intro kq o ca w1 ho hb hlook K hK
              have hbW : Below W.heap.size W w1 := HB5.out.trans (hb.mono HB5.out.size)
              have hu0 := (hb.cell (p := ⟨U, _, none⟩) lU).trans u0
              have hu2 := (hb.cell (p := ⟨U, _, none⟩) lU).trans u2
              have hcE := (hbW.cell (p := ⟨BE, _, none⟩) mE).trans eE
              have hg1 := (hbW.cell (p := ⟨bk2, _, none⟩) mk2).trans g1
              have hg2 := (hbW.cell (p := ⟨bk2, _, none⟩) mk2).trans g2
              have hfn : ∀ f, ca.eval (.func f) = .func (.func f) #[] #[] := fun _ => rfl
              have hcs : ∀ v, ca.eval (.const v) = v := fun _ => rfl
              rcases kq with _ | _ | _ | _ | _ | _ | _ | _ | _ | _ | _ | _ | _ | _ | _ | _ | _ | _ | _ | _ | _ | _ | _ | _ | _ | kq
              · cases ho
                have h6 := Am.eval_tmp (Am.look_old (t := 6) hlook (by kernel_rfl) (by kernel_rfl) rfl)
                refine Am.wpOp_run rfl rfl (Am.wp_value (v := .pointer (some ⟨U, 0, none⟩)) ?_ (hK _ _ (Below.refl _ _) rfl))
                generalize ca.eval = ev at *
                simp [go_sem, execOp, hfn, hcs, h6]
              · cases ho
                have h32 : (ca.tmps.getD 32 undef) = .pointer (some ⟨U, 0, none⟩) := Am.look_of (j := 0) hlook (by kernel_rfl) rfl rfl
                replace h32 := Am.eval_tmp h32
                refine Am.wpOp_run rfl rfl (Am.wp_value (v := .int .i64 8) ?_ (hK _ _ (Below.refl _ _) rfl))
                generalize ca.eval = ev at *
                simp [go_sem, execOp, hfn, hcs, h32, hu0]
              · cases ho
                have h33 : (ca.tmps.getD 33 undef) = .int .i64 8 := Am.look_of (j := 1) hlook (by kernel_rfl) rfl rfl
                replace h33 := Am.eval_tmp h33
                refine Am.wpOp_run rfl rfl (Am.wp_value (v := .bool false) ?_ (hK _ _ (Below.refl _ _) rfl))
                generalize ca.eval = ev at *
                simp [go_sem, execOp, hfn, hcs, h33]
              · cases ho
                have h34 : (ca.tmps.getD 34 undef) = .bool false := Am.look_of (j := 2) hlook (by kernel_rfl) rfl rfl
                replace h34 := Am.eval_tmp h34
                refine Am.wpOp_run rfl rfl (Am.wp_value (v := .bool false) ?_ (hK _ _ (Below.refl _ _) rfl))
                generalize ca.eval = ev at *
                simp [go_sem, execOp, hfn, hcs, h34]
              · cases ho
                have hg : ca.tmps.getD 35 undef = .bool false := Am.look_of (j := 3) hlook (by kernel_rfl) rfl rfl
                have h6 := Am.eval_tmp (Am.look_old (t := 6) hlook (by kernel_rfl) (by kernel_rfl) rfl)
                refine Am.wpOp_run_g rfl rfl rfl hg rfl (Am.wp_value (v := .pointer (some ⟨U, 0, none⟩)) ?_ (hK _ _ (Below.refl _ _) rfl))
                generalize ca.eval = ev at *
                simp [go_sem, execOp, hfn, hcs, h6]
              · cases ho
                have hg : ca.tmps.getD 35 undef = .bool false := Am.look_of (j := 3) hlook (by kernel_rfl) rfl rfl
                have h36 : (ca.tmps.getD 36 undef) = .pointer (some ⟨U, 0, none⟩) := Am.look_of (j := 4) hlook (by kernel_rfl) rfl rfl
                replace h36 := Am.eval_tmp h36
                refine Am.wpOp_run_g rfl rfl rfl hg rfl (Am.wp_value (v := .int .i64 8) ?_ (hK _ _ (Below.refl _ _) rfl))
                generalize ca.eval = ev at *
                simp [go_sem, execOp, hfn, hcs, h36, hu0]
              · cases ho
                have hg : ca.tmps.getD 35 undef = .bool false := Am.look_of (j := 3) hlook (by kernel_rfl) rfl rfl
                have h37 : (ca.tmps.getD 37 undef) = .int .i64 8 := Am.look_of (j := 5) hlook (by kernel_rfl) rfl rfl
                replace h37 := Am.eval_tmp h37
                refine Am.wpOp_run_g rfl rfl rfl hg rfl (Am.wp_value (v := .bool true) ?_ (hK _ _ (Below.refl _ _) rfl))
                generalize ca.eval = ev at *
                simp [go_sem, execOp, hfn, hcs, h37]
              · cases ho
                have hg : ca.tmps.getD 35 undef = .bool false := Am.look_of (j := 3) hlook (by kernel_rfl) rfl rfl
                have h38 : (ca.tmps.getD 38 undef) = .bool true := Am.look_of (j := 6) hlook (by kernel_rfl) rfl rfl
                replace h38 := Am.eval_tmp h38
                refine Am.wpOp_run_g rfl rfl rfl hg rfl (Am.wp_value (v := .bool true) ?_ (hK _ _ (Below.refl _ _) rfl))
                generalize ca.eval = ev at *
                simp [go_sem, execOp, hfn, hcs, h38]
              · cases ho
                have hg : ca.tmps.getD 39 undef = .bool true := Am.look_of (j := 7) hlook (by kernel_rfl) rfl rfl
                have h2 := Am.eval_tmp (Am.look_old (t := 2) hlook (by kernel_rfl) (by kernel_rfl) rfl)
                refine Am.wpOp_run_g rfl rfl rfl hg rfl (Am.wp_value (v := .func (.func 40) #[] #[.pointer (some ⟨BL, 0, none⟩), .pointer (some ⟨BE, 0, none⟩)]) ?_ (hK _ _ (Below.refl _ _) rfl))
                generalize ca.eval = ev at *
                simp [go_sem, execOp, hfn, hcs, h2, hcE]
              · cases ho
                have hg : ca.tmps.getD 39 undef = .bool true := Am.look_of (j := 7) hlook (by kernel_rfl) rfl rfl
                have h6 := Am.eval_tmp (Am.look_old (t := 6) hlook (by kernel_rfl) (by kernel_rfl) rfl)
                refine Am.wpOp_run_g rfl rfl rfl hg rfl (Am.wp_value (v := .pointer (some ⟨U, 2, none⟩)) ?_ (hK _ _ (Below.refl _ _) rfl))
                generalize ca.eval = ev at *
                simp [go_sem, execOp, hfn, hcs, h6]
              · cases ho
                have hg : ca.tmps.getD 39 undef = .bool true := Am.look_of (j := 7) hlook (by kernel_rfl) rfl rfl
                have h41 : (ca.tmps.getD 41 undef) = .pointer (some ⟨U, 2, none⟩) := Am.look_of (j := 9) hlook (by kernel_rfl) rfl rfl
                replace h41 := Am.eval_tmp h41
                refine Am.wpOp_run_g rfl rfl rfl hg rfl (Am.wp_value (v := .slice (some ⟨bk2, ok2, none⟩) 3 kcap2) ?_ (hK _ _ (Below.refl _ _) rfl))
                generalize ca.eval = ev at *
                simp [go_sem, execOp, hfn, hcs, h41, hu2]
              · cases ho
                have hg : ca.tmps.getD 39 undef = .bool true := Am.look_of (j := 7) hlook (by kernel_rfl) rfl rfl
                have h42 : (ca.tmps.getD 42 undef) = (.slice (some ⟨bk2, ok2, none⟩) 3 kcap2) := Am.look_of (j := 10) hlook (by kernel_rfl) rfl rfl
                replace h42 := Am.eval_tmp h42
                refine Am.wpOp_run_g rfl rfl rfl hg rfl (Am.wp_value (v := .pointer (some ⟨bk2, ok2 + 1, none⟩)) ?_ (hK _ _ (Below.refl _ _) rfl))
                generalize ca.eval = ev at *
                simp [go_sem, execOp, hfn, hcs, h42]
              · cases ho
                have hg : ca.tmps.getD 39 undef = .bool true := Am.look_of (j := 7) hlook (by kernel_rfl) rfl rfl
                have h43 : (ca.tmps.getD 43 undef) = .pointer (some ⟨bk2, ok2 + 1, none⟩) := Am.look_of (j := 11) hlook (by kernel_rfl) rfl rfl
                replace h43 := Am.eval_tmp h43
                refine Am.wpOp_run_g rfl rfl rfl hg rfl (Am.wp_value (v := .int .i64 u1) ?_ (hK _ _ (Below.refl _ _) rfl))
                generalize ca.eval = ev at *
                simp [go_sem, execOp, hfn, hcs, h43, hg1]
              · cases ho
                have hg : ca.tmps.getD 39 undef = .bool true := Am.look_of (j := 7) hlook (by kernel_rfl) rfl rfl
                have h40 : (ca.tmps.getD 40 undef) = (.func (.func 40) #[] #[.pointer (some ⟨BL, 0, none⟩), .pointer (some ⟨BE, 0, none⟩)]) := Am.look_of (j := 8) hlook (by kernel_rfl) rfl rfl
                replace h40 := Am.eval_tmp h40
                have h44 : (ca.tmps.getD 44 undef) = .int .i64 u1 := Am.look_of (j := 12) hlook (by kernel_rfl) rfl rfl
                replace h44 := Am.eval_tmp h44
                refine Am.wpOp_run_g rfl rfl rfl hg rfl (Am.wp_enter (w' := w1) (f := 40) (args := #[.int .i64 (u1 : Int), .pointer (some ⟨BL, 0, none⟩), .pointer (some ⟨BE, 0, none⟩)]) ?_ ((H1.out w1 hbW).mono ?_))
                · generalize ca.eval = ev at *
                  simp [go_sem, execOp, hfn, hcs, h40, h44]
                · rintro e w' ⟨rfl, hb'⟩
                  exact ⟨_, rfl, hK _ _ hb' rfl⟩
              · cases ho
                have hg : ca.tmps.getD 35 undef = .bool false := Am.look_of (j := 3) hlook (by kernel_rfl) rfl rfl
                have h39 : (ca.tmps.getD 39 undef) = .bool true := Am.look_of (j := 7) hlook (by kernel_rfl) rfl rfl
                replace h39 := Am.eval_tmp h39
                have h45 : (ca.tmps.getD 45 undef) = .bool true := Am.look_of (j := 13) hlook (by kernel_rfl) rfl rfl
                replace h45 := Am.eval_tmp h45
                refine Am.wpOp_run_g rfl rfl rfl hg rfl (Am.wp_value (v := .bool true) ?_ (hK _ _ (Below.refl _ _) rfl))
                generalize ca.eval = ev at *
                simp [go_sem, execOp, hfn, hcs, h39, h45]
              · cases ho
                have hg : ca.tmps.getD 35 undef = .bool false := Am.look_of (j := 3) hlook (by kernel_rfl) rfl rfl
                have h46 : (ca.tmps.getD 46 undef) = .bool true := Am.look_of (j := 14) hlook (by kernel_rfl) rfl rfl
                replace h46 := Am.eval_tmp h46
                refine Am.wpOp_run_g rfl rfl rfl hg rfl (Am.wp_value (v := .bool true) ?_ (hK _ _ (Below.refl _ _) rfl))
                generalize ca.eval = ev at *
                simp [go_sem, execOp, hfn, hcs, h46]
              · cases ho
                have hg : ca.tmps.getD 47 undef = .bool true := Am.look_of (j := 15) hlook (by kernel_rfl) rfl rfl
                have h2 := Am.eval_tmp (Am.look_old (t := 2) hlook (by kernel_rfl) (by kernel_rfl) rfl)
                refine Am.wpOp_run_g rfl rfl rfl hg rfl (Am.wp_value (v := .func (.func 40) #[] #[.pointer (some ⟨BL, 0, none⟩), .pointer (some ⟨BE, 0, none⟩)]) ?_ (hK _ _ (Below.refl _ _) rfl))
                generalize ca.eval = ev at *
                simp [go_sem, execOp, hfn, hcs, h2, hcE]
              · cases ho
                have hg : ca.tmps.getD 47 undef = .bool true := Am.look_of (j := 15) hlook (by kernel_rfl) rfl rfl
                have h6 := Am.eval_tmp (Am.look_old (t := 6) hlook (by kernel_rfl) (by kernel_rfl) rfl)
                refine Am.wpOp_run_g rfl rfl rfl hg rfl (Am.wp_value (v := .pointer (some ⟨U, 2, none⟩)) ?_ (hK _ _ (Below.refl _ _) rfl))
                generalize ca.eval = ev at *
                simp [go_sem, execOp, hfn, hcs, h6]
              · cases ho
                have hg : ca.tmps.getD 47 undef = .bool true := Am.look_of (j := 15) hlook (by kernel_rfl) rfl rfl
                have h49 : (ca.tmps.getD 49 undef) = .pointer (some ⟨U, 2, none⟩) := Am.look_of (j := 17) hlook (by kernel_rfl) rfl rfl
                replace h49 := Am.eval_tmp h49
                refine Am.wpOp_run_g rfl rfl rfl hg rfl (Am.wp_value (v := .slice (some ⟨bk2, ok2, none⟩) 3 kcap2) ?_ (hK _ _ (Below.refl _ _) rfl))
                generalize ca.eval = ev at *
                simp [go_sem, execOp, hfn, hcs, h49, hu2]
              · cases ho
                have hg : ca.tmps.getD 47 undef = .bool true := Am.look_of (j := 15) hlook (by kernel_rfl) rfl rfl
                have h50 : (ca.tmps.getD 50 undef) = (.slice (some ⟨bk2, ok2, none⟩) 3 kcap2) := Am.look_of (j := 18) hlook (by kernel_rfl) rfl rfl
                replace h50 := Am.eval_tmp h50
                refine Am.wpOp_run_g rfl rfl rfl hg rfl (Am.wp_value (v := .pointer (some ⟨bk2, ok2 + 2, none⟩)) ?_ (hK _ _ (Below.refl _ _) rfl))
                generalize ca.eval = ev at *
                simp [go_sem, execOp, hfn, hcs, h50]
              · cases ho
                have hg : ca.tmps.getD 47 undef = .bool true := Am.look_of (j := 15) hlook (by kernel_rfl) rfl rfl
                have h51 : (ca.tmps.getD 51 undef) = .pointer (some ⟨bk2, ok2 + 2, none⟩) := Am.look_of (j := 19) hlook (by kernel_rfl) rfl rfl
                replace h51 := Am.eval_tmp h51
                refine Am.wpOp_run_g rfl rfl rfl hg rfl (Am.wp_value (v := .int .i64 w2) ?_ (hK _ _ (Below.refl _ _) rfl))
                generalize ca.eval = ev at *
                simp [go_sem, execOp, hfn, hcs, h51, hg2]
              · cases ho
                have hg : ca.tmps.getD 47 undef = .bool true := Am.look_of (j := 15) hlook (by kernel_rfl) rfl rfl
                have h48 : (ca.tmps.getD 48 undef) = (.func (.func 40) #[] #[.pointer (some ⟨BL, 0, none⟩), .pointer (some ⟨BE, 0, none⟩)]) := Am.look_of (j := 16) hlook (by kernel_rfl) rfl rfl
                replace h48 := Am.eval_tmp h48
                have h52 : (ca.tmps.getD 52 undef) = .int .i64 w2 := Am.look_of (j := 20) hlook (by kernel_rfl) rfl rfl
                replace h52 := Am.eval_tmp h52
                refine Am.wpOp_run_g rfl rfl rfl hg rfl (Am.wp_enter (w' := w1) (f := 40) (args := #[.int .i64 (w2 : Int), .pointer (some ⟨BL, 0, none⟩), .pointer (some ⟨BE, 0, none⟩)]) ?_ ((H2.out w1 hbW).mono ?_))
                · generalize ca.eval = ev at *
                  simp [go_sem, execOp, hfn, hcs, h48, h52]
                · rintro e w' ⟨rfl, hb'⟩
                  exact ⟨_, rfl, hK _ _ hb' rfl⟩
              · cases ho
                have hg : ca.tmps.getD 35 undef = .bool false := Am.look_of (j := 3) hlook (by kernel_rfl) rfl rfl
                have h47 : (ca.tmps.getD 47 undef) = .bool true := Am.look_of (j := 15) hlook (by kernel_rfl) rfl rfl
                replace h47 := Am.eval_tmp h47
                have h53 : (ca.tmps.getD 53 undef) = .bool r2 := Am.look_of (j := 21) hlook (by kernel_rfl) rfl rfl
                replace h53 := Am.eval_tmp h53
                refine Am.wpOp_run_g rfl rfl rfl hg rfl (Am.wp_value (v := .bool r2) ?_ (hK _ _ (Below.refl _ _) rfl))
                generalize ca.eval = ev at *
                simp [go_sem, execOp, hfn, hcs, h47, h53]
              · cases ho
                have h35 : (ca.tmps.getD 35 undef) = .bool false := Am.look_of (j := 3) hlook (by kernel_rfl) rfl rfl
                replace h35 := Am.eval_tmp h35
                have h54 : (ca.tmps.getD 54 undef) = .bool r2 := Am.look_of (j := 22) hlook (by kernel_rfl) rfl rfl
                replace h54 := Am.eval_tmp h54
                refine Am.wpOp_run rfl rfl (Am.wp_value (v := .bool r2) ?_ (hK _ _ (Below.refl _ _) rfl))
                generalize ca.eval = ev at *
                simp [go_sem, execOp, hfn, hcs, h35, h54]
              · cases ho
                have h55 : (ca.tmps.getD 55 undef) = .bool r2 := Am.look_of (j := 23) hlook (by kernel_rfl) rfl rfl
                replace h55 := Am.eval_tmp h55
                refine Am.wpOp_run rfl rfl (Am.wp_value (v := .bool r2) ?_ (hK _ _ (Below.refl _ _) rfl))
                generalize ca.eval = ev at *
                simp [go_sem, execOp, hfn, hcs, h55]
              · simp at ho
            · intro ca w1 hb hd hs hphi hoth
              have h4 : ca.tmps.getD 4 undef = .bool r2 := hphi 24 _ 4 rfl rfl
              have hca := Am.frame_out hd hs hoth
              simp only [Act.put, List.foldl_cons, List.foldl_nil, h4] at hca
              generalize ca.tmps.getD 32 undef = y32 at hca
              generalize ca.tmps.getD 33 undef = y33 at hca
              generalize ca.tmps.getD 34 undef = y34 at hca
              generalize ca.tmps.getD 35 undef = y35 at hca
              generalize ca.tmps.getD 36 undef = y36 at hca
              generalize ca.tmps.getD 37 undef = y37 at hca
              generalize ca.tmps.getD 38 undef = y38 at hca
              generalize ca.tmps.getD 39 undef = y39 at hca
              generalize ca.tmps.getD 40 undef = y40 at hca
              generalize ca.tmps.getD 41 undef = y41 at hca
              generalize ca.tmps.getD 42 undef = y42 at hca
              generalize ca.tmps.getD 43 undef = y43 at hca
              generalize ca.tmps.getD 44 undef = y44 at hca
              generalize ca.tmps.getD 45 undef = y45 at hca
              generalize ca.tmps.getD 46 undef = y46 at hca
              generalize ca.tmps.getD 47 undef = y47 at hca
              generalize ca.tmps.getD 48 undef = y48 at hca
              generalize ca.tmps.getD 49 undef = y49 at hca
              generalize ca.tmps.getD 50 undef = y50 at hca
              generalize ca.tmps.getD 51 undef = y51 at hca
              generalize ca.tmps.getD 52 undef = y52 at hca
              generalize ca.tmps.getD 53 undef = y53 at hca
              generalize ca.tmps.getD 54 undef = y54 at hca
              generalize ca.tmps.getD 55 undef = y55 at hca
              subst hca
              try simp only [List.setIfInBounds_toArray, List.set_cons_succ, List.set_cons_zero]
              have HB6 := hid (HB5.out.trans (hb.mono HB5.out.size))
              clear hb hd hs hphi hoth h4
              go_wp2
              go_ret
              exact ⟨by rw [Hr.out]; rfl, HB6.out⟩
        · have b8 := ne_beq h8
          have hr : Hid (R = false) := hid (by rw [HR.out, decide_eq_false h10, decide_eq_false h8]; rfl)
          clear h8 h10
          go_wp2
          go_quiet (fail)
          go_wp2
          go_ret
          exact ⟨by rw [hr.out]; rfl, by repeat (first | exact Below.refl _ _ | exact HB5.out | refine bG ?_ _ | refine bA ?_ _ | refine bD ?_ | refine bN ?_ _)⟩
    · have hr := hid (hother hk)
      rw [hr.out]
      have b3 : (kx != 3) = true := by simp [bne, ne_beq hk]
      clear hother hnone hlast hk
      go_enter Tryz.func40, Tryz.ntmps40
      go_wp2
      go_ret
      exact ⟨rfl, by repeat (first | exact Below.refl _ _ | refine bG ?_ _ | refine bA ?_ _ | refine bD ?_ | refine bN ?_ _)⟩
end Go.Proofs.YtbgjanmheagilaaGreatDoor

/- scope.Ends and the reference's, walked. Conditions: few nodes. -/
namespace Go.Proofs.YtbgjanmheagilaaGreatDoor
open Go Go.RowKit Go.Nodes
set_option linter.unusedVariables false
set_option linter.unusedSimpArgs false
def endS (ns : List Nd) (n : Int) : Bool := goodS ns n && endsF ns ns.length n
set_option maxRecDepth 10000 in
set_option maxHeartbeats 2000000 in
theorem rends_any (w : World) (p : Option Addr) (c : Nat) (ns : List Nd) (hs : Small ns) (hc : Capped ns) (ha : NodesAt w p ns) (hl0 : Lib0 w) (n : Int) :
    Calls Tryz.prog 23 #[.slice p ns.length c, .int .i64 n] w fun e w' => e = .returned (.bool (endS ns n)) ∧ Below w.heap.size w w' := by
  have Hg : Hid (∀ W, Below w.heap.size w W → Calls Tryz.prog 38 #[.slice p ns.length c, .int .i64 n] W fun e w' => e = .returned (.bool (goodS ns n)) ∧ Below W.heap.size W w') := hid fun W hW => rgood_any W p c ns hs hc (NodesAt.later ha hW) (hl0.later hW) n
  unfold endS
  cases hgd : goodS ns n with
  | false =>
    rw [hgd] at Hg
    clear hs hc ha hl0 hgd
    generalize ns.length = L at *
    rw [Bool.false_and]
    go_enter Tryz.func23, Tryz.ntmps23
    go_wp2_with (go_at_call 38; ((with_reducible refine (Hg.out _ (by repeat (first | exact Below.refl _ _ | refine bG ?_ _ | refine bA ?_ _ | refine bD ?_ | refine bN ?_ _))).mono ?_)); rintro e w' ⟨rfl, hb⟩; obtain ⟨g, rfl⟩ := bout hb; clear hb)
    go_ret
    exact ⟨rfl, by repeat (first | exact Below.refl _ _ | refine bG ?_ _ | refine bA ?_ _ | refine bD ?_ | refine bN ?_ _)⟩
  | true =>
    obtain ⟨hv, n0, n1⟩ := goodS_in hgd
    rw [hgd] at Hg
    obtain ⟨z, rfl⟩ : ∃ z : Nat, n = (z : Int) := ⟨n.toNat, by omega⟩
    have Hh : Hid (∀ W, Below w.heap.size w W → Calls Tryz.prog 41 #[.slice p ns.length c, .int .i64 (z : Int)] W fun e w' => e = .returned (.bool (endsF ns ns.length z)) ∧ Below W.heap.size W w') := hid fun W hW =>
      rends1_any w p c ns hs.1 (fun x hx => (hs.2 x hx).1) ha hv ns.length z (by omega) (by omega) W hW
    clear hs hc ha hl0 hgd hv n0 n1
    rw [Bool.true_and]
    generalize endsF ns ns.length (z : Int) = r at *
    generalize ns.length = L at *
    go_enter Tryz.func23, Tryz.ntmps23
    go_wp2_with (first
      | (go_at_call 38; ((with_reducible refine (Hg.out _ (by repeat (first | exact Below.refl _ _ | refine bG ?_ _ | refine bA ?_ _ | refine bD ?_ | refine bN ?_ _))).mono ?_)); rintro e w' ⟨rfl, hb⟩; obtain ⟨g, rfl⟩ := bout hb; clear hb)
      | (go_at_call 41; ((with_reducible refine (Hh.out _ (by repeat (first | exact Below.refl _ _ | refine bG ?_ _ | refine bA ?_ _ | refine bD ?_ | refine bN ?_ _))).mono ?_)); rintro e w' ⟨rfl, hb⟩; obtain ⟨g2, rfl⟩ := bout hb; clear hb))
    go_ret
    exact ⟨rfl, by repeat (first | exact Below.refl _ _ | refine bG ?_ _ | refine bA ?_ _ | refine bD ?_ | refine bN ?_ _)⟩
set_option maxRecDepth 10000 in
set_option maxHeartbeats 2000000 in
theorem ends_any (w : World) (p : Option Addr) (c : Nat) (ns : List Nd) (hs : Small ns) (hc : Capped ns) (ha : NodesAt w p ns) (hl0 : Lib0 w) (n : Int) :
    Calls Tryz.prog 22 #[.slice p ns.length c, .int .i64 n] w fun e w' => e = .returned (.bool (endS ns n)) ∧ Below w.heap.size w w' := by
  have Hg : Hid (∀ W, Below w.heap.size w W → Calls Tryz.prog 36 #[.slice p ns.length c, .int .i64 n] W fun e w' => e = .returned (.bool (goodS ns n)) ∧ Below W.heap.size W w') := hid fun W hW => good_any2 W p c ns hs hc (NodesAt.later ha hW) (hl0.later hW) n
  have hmf : ∀ (fn : Fn) (first cap : Array Value) (w : World), (Instr.makeFunc fn first cap).run Tryz.prog w = .ok (.func fn first cap) w := fun _ _ _ _ => rfl
  unfold endS
  cases hgd : goodS ns n with
  | false =>
    rw [hgd] at Hg
    clear hs hc ha hl0 hgd
    generalize ns.length = L at *
    rw [Bool.false_and]
    go_enter Tryz.func22, Tryz.ntmps22
    go_wp2_with (go_at_call 36; ((with_reducible refine (Hg.out _ (by repeat (first | exact Below.refl _ _ | refine bG ?_ _ | refine bA ?_ _ | refine bD ?_ | refine bN ?_ _))).mono ?_)); rintro e w' ⟨rfl, hb⟩; obtain ⟨g, rfl⟩ := bout hb; clear hb)
    go_ret
    exact ⟨rfl, by repeat (first | exact Below.refl _ _ | refine bG ?_ _ | refine bA ?_ _ | refine bD ?_ | refine bN ?_ _)⟩
  | true =>
    obtain ⟨hv, n0, n1⟩ := goodS_in hgd
    rw [hgd] at Hg
    obtain ⟨z, rfl⟩ : ∃ z : Nat, n = (z : Int) := ⟨n.toNat, by omega⟩
    obtain ⟨W0, hW0⟩ : ∃ W0, W0 = (w.alloc (.cells #[.slice p ns.length c] 22)).alloc (.cells #[.func (.func 40) #[] #[.pointer (some ⟨w.heap.size, 0, none⟩), .pointer (some ⟨w.heap.size + 1, 0, none⟩)]] 68) := ⟨_, rfl⟩
    have hb0 : Below w.heap.size w W0 := by rw [hW0]; exact bA (bA (Below.refl _ _) _) _
    have hsz : W0.heap.size = w.heap.size + 2 := by rw [hW0]; simp
    have Hh : Hid (∀ W, Below W0.heap.size W0 W → Calls Tryz.prog 40 #[.int .i64 (z : Int), .pointer (some ⟨w.heap.size, 0, none⟩), .pointer (some ⟨w.heap.size + 1, 0, none⟩)] W fun e w' => e = .returned (.bool (endsF ns ns.length z)) ∧ Below W.heap.size W w') := hid fun W hW =>
      ends1_any W0 p c w.heap.size (w.heap.size + 1) ns hs.1 (fun x hx => (hs.2 x hx).1) (NodesAt.later ha hb0) hv (by rw [hW0]; simp [go_sem]) (by rw [hW0]; simp [go_sem]) (by omega) (by omega) ns.length z (by omega) (by omega) W hW
    rw [hW0] at Hh
    clear hs hc ha hl0 hgd hv n0 n1 hW0 hb0 hsz W0
    rw [Bool.true_and]
    generalize endsF ns ns.length (z : Int) = r at *
    generalize ns.length = L at *
    go_enter Tryz.func22, Tryz.ntmps22
    go_wp2_with (first
      | (go_at_call 36; ((with_reducible refine (Hg.out _ (by repeat (first | exact Below.refl _ _ | refine bG ?_ _ | refine bA ?_ _ | refine bD ?_ | refine bN ?_ _))).mono ?_)); rintro e w' ⟨rfl, hb⟩; obtain ⟨g, rfl⟩ := bout hb; clear hb)
      | (go_at_call 40; ((with_reducible refine (Hh.out _ (by repeat (first | exact Below.refl _ _ | refine bG ?_ _ | refine bA ?_ _ | refine bD ?_ | refine bN ?_ _))).mono ?_)); rintro e w' ⟨rfl, hb⟩; obtain ⟨g2, rfl⟩ := bout hb; clear hb))
    go_ret
    exact ⟨rfl, by repeat (first | exact Below.refl _ _ | refine bG ?_ _ | refine bA ?_ _ | refine bD ?_ | refine bN ?_ _)⟩
theorem any_congr2 {α : Type} {l : List α} {p q : α → Bool} (h : ∀ x ∈ l, p x = q x) : l.any p = l.any q := by
  induction l with
  | nil => rfl
  | cons a l ih => rw [List.any_cons, List.any_cons, h a (by simp), ih fun x hx => h x (by simp [hx])]
theorem hasF_fuel {ns : List Nd} (hv : VPre ns ns.length) (shut : List Int) (kind : Int) : ∀ (f g n : Nat), n < f → n < g → n < ns.length → hasF ns shut kind f n = hasF ns shut kind g n
  | 0, _, n, h, _, _ => by omega
  | _ + 1, 0, n, _, h, _ => by omega
  | f + 1, g + 1, n, hf, hg, hnl => by
    have hx : ns[n]? = some ns[n] := List.getElem?_eq_getElem hnl
    have hvn := hv n _ hnl hx
    by_cases hk : kindAt ns (n : Int) = kind
    · rw [hasF_yes hk, hasF_yes hk]
    · rw [hasF_no hk, hasF_no hk, kidsAt_of hx]
      refine any_congr2 fun k hk2 => ?_
      have hin := hvn.kids k hk2
      obtain ⟨z, rfl⟩ : ∃ z : Nat, k = (z : Int) := ⟨k.toNat, by omega⟩
      unfold hasK
      rw [hasF_fuel hv shut kind f g z (by omega) (by omega) (by omega)]
/-- What surely ends in an answer has one in it. -/
theorem ends_has {ns : List Nd} (hv : VPre ns ns.length) : ∀ (f n : Nat), n < f → n < ns.length → endsF ns f n = true → hasF ns [22] 10 f n = true
  | 0, n, h, _, _ => by omega
  | f + 1, n, hnf, hnl, he => by
    have hx : ns[n]? = some ns[n] := List.getElem?_eq_getElem hnl
    have hka := kindAt_of hx
    have hkd := kidsAt_of hx
    have hvn := hv n _ hnl hx
    by_cases hk : kindAt ns (n : Int) = 3
    · cases hl : (kidsAt ns (n : Int)).getLast? with
      | none => rw [endsF_none (by simpa using hl)] at he; cases he
      | some k =>
        rw [endsF_last hk hl] at he
        have hmem : k ∈ kidsAt ns (n : Int) := List.mem_of_getLast? hl
        have hkin := hvn.kids k (by rw [← hkd]; exact hmem)
        obtain ⟨z, rfl⟩ : ∃ z : Nat, k = (z : Int) := ⟨k.toNat, by omega⟩
        have hzl : z < ns.length := by omega
        have hxz : ns[z]? = some ns[z] := List.getElem?_eq_getElem hzl
        have hkz := kidsAt_of hxz
        have hvz := hv z _ hzl hxz
        rw [hasF_no (by rw [hk]; decide)]
        refine List.any_eq_true.2 ⟨_, hmem, ?_⟩
        obtain ⟨f', rfl⟩ : ∃ f', f = f' + 1 := ⟨f - 1, by omega⟩
        by_cases h10 : kindAt ns (z : Int) = 10
        · show (!([22] : List Int).contains (kindAt ns z) && hasF ns [22] 10 (f' + 1) z) = true
          rw [h10, hasF_yes h10]; rfl
        · rw [decide_eq_false h10, Bool.false_or] at he
          simp only [Bool.and_eq_true, decide_eq_true_eq] at he
          obtain ⟨h8, h1, _⟩ := he
          show (!([22] : List Int).contains (kindAt ns z) && hasF ns [22] 10 (f' + 1) z) = true
          rw [hasF_no h10, h8]
          have h3 : (ns[z]).kids.length = 3 := by
            have h := hvz.fits
            rw [show (ns[z]).kind = 8 by rw [← kindAt_of hxz]; exact h8] at h
            have := fits_if (ks := kindsL ns (ns[z]).kids) h
            simpa [kindsL] using this
          have hlt : 1 < (ns[z]).kids.length := by omega
          have hm1 : (kidsAt ns (z : Int)).getD 1 0 = (ns[z]).kids[1] := by rw [hkz, List.getD, List.getElem?_eq_getElem hlt]; rfl
          rw [hm1] at h1
          have hin1 := hvz.kids _ (List.getElem_mem hlt)
          obtain ⟨u, hu⟩ : ∃ u : Nat, (ns[z]).kids[1] = (u : Int) := ⟨((ns[z]).kids[1]).toNat, by omega⟩
          rw [hu] at h1 hin1
          have hku : kindAt ns (u : Int) = 3 := by
            by_cases h : kindAt ns (u : Int) = 3
            · exact h
            · rw [endsF_other h] at h1; cases h1
          have ih := ends_has hv (f' + 1) u (by omega) (by omega) h1
          have ih2 : hasF ns [22] 10 f' u = true := by rw [← ih]; exact hasF_fuel hv _ _ _ _ _ (by omega) (by omega) (by omega)
          simp only [List.contains_cons, List.contains_nil, Bool.or_false, Bool.and_eq_true]
          refine ⟨by decide, List.any_eq_true.2 ⟨(u : Int), by rw [hkz, ← hu]; exact List.getElem_mem hlt, ?_⟩⟩
          show (!([22] : List Int).contains (kindAt ns u) && hasF ns [22] 10 f' u) = true
          rw [hku, ih2]; rfl
    · rw [endsF_other hk] at he; cases he
end Go.Proofs.YtbgjanmheagilaaGreatDoor
