/- types.Check's look, walked: shapes. Conditions: the library's variables. -/
import Derived.Test.YtjchnliaglecoaaGreatDoorKl3X
import Derived.Test.YtjchnliaglecoaaGreatDoorAmSX
import Derived.Test.YtjchnliaglecoaaGreatDoorNrX
set_option linter.unusedVariables false
set_option linter.unusedSimpArgs false
namespace Go.Proofs.YtjchnliaglecoaaGreatDoor
open Go Go.RowKit Go.Nodes
set_option linter.unusedVariables false
set_option linter.unusedSimpArgs false
theorem flat133 (k : Int) (np ap : Option Addr) (nn nc an ac : Nat) (w : World) : Calls Tryz.prog 133 #[.agg #[.int .i64 k, .slice np nn nc, .slice ap an ac]] w fun e w' => e = .returned (.bool (decide (0 ≤ k) && decide (k ≤ 7))) ∧ Below w.heap.size w w' := by
  by_cases h0 : 0 ≤ k
  · rw [decide_eq_true h0]
    go_enter Tryz.func133, Tryz.ntmps133
    go_wp2
    go_ret
    exact ⟨rfl, bA (Below.refl _ _) _⟩
  · rw [decide_eq_false h0]
    go_enter Tryz.func133, Tryz.ntmps133
    go_wp2
    go_ret
    exact ⟨rfl, bA (Below.refl _ _) _⟩
def phiS1 (A S IV : Value) (T0 bn9 on9 oi9 jj9 : Nat) (x9 y9 : ByteArray) : Nat → World → Value → Prop
  | 0, w, v => v = A
  | 1, w, v => v = .bool true
  | 2, w, v => v = .bool true
  | 3, w, v => v = .pointer (some ⟨T0, 1, none⟩)
  | 4, w, v => v = S
  | 5, w, v => v = IV
  | 6, w, v => v = .pointer (some ⟨bn9, oi9, none⟩)
  | 7, w, v => v = .string x9
  | 8, w, v => v = .bool true
  | 9, w, v => v = .bool true
  | 10, w, v => v = .bool true
  | 11, w, v => v = IV
  | 12, w, v => v = .bool true
  | 13, w, v => v = .bool true
  | 14, w, v => v = undef
  | 15, w, v => v = undef
  | 16, w, v => v = undef
  | 17, w, v => v = undef
  | 18, w, v => v = undef
  | 19, w, v => v = undef
  | 20, w, v => v = undef
  | 21, w, v => v = undef
  | 22, w, v => v = undef
  | 23, w, v => v = undef
  | 24, w, v => v = undef
  | 25, w, v => v = undef
  | 26, w, v => v = .bool true
  | 27, w, v => v = .bool true
  | _, w, v => True
theorem phiS1_below {A S IV : Value} {T0 bn9 on9 oi9 jj9 : Nat} {x9 y9 : ByteArray} : ∀ (k : Nat) (w w' : World) (v : Value), Below w.heap.size w w' → phiS1 A S IV T0 bn9 on9 oi9 jj9 x9 y9 k w v → phiS1 A S IV T0 bn9 on9 oi9 jj9 x9 y9 k w' v := by
  intro k w w' v hb h
  unfold phiS1 at *
  split at h <;> first | exact h | exact h
def phiS2 (A S IV : Value) (T0 bn9 on9 oi9 jj9 : Nat) (x9 y9 : ByteArray) : Nat → World → Value → Prop
  | 0, w, v => v = A
  | 1, w, v => v = .bool true
  | 2, w, v => v = .bool true
  | 3, w, v => v = .pointer (some ⟨T0, 1, none⟩)
  | 4, w, v => v = S
  | 5, w, v => v = IV
  | 6, w, v => v = .pointer (some ⟨bn9, oi9, none⟩)
  | 7, w, v => v = .string x9
  | 8, w, v => v = .bool true
  | 9, w, v => v = .bool true
  | 10, w, v => v = .bool true
  | 11, w, v => v = IV
  | 12, w, v => v = .bool false
  | 13, w, v => v = .bool false
  | 14, w, v => v = .pointer (some ⟨T0, 1, none⟩)
  | 15, w, v => v = S
  | 16, w, v => v = IV
  | 17, w, v => v = .pointer (some ⟨bn9, oi9, none⟩)
  | 18, w, v => v = .string x9
  | 19, w, v => v = .pointer (some ⟨T0, 1, none⟩)
  | 20, w, v => v = S
  | 21, w, v => v = IV
  | 22, w, v => v = .int .i64 jj9
  | 23, w, v => v = .pointer (some ⟨bn9, on9 + jj9, none⟩)
  | 24, w, v => v = .string y9
  | 25, w, v => v = .bool true
  | 26, w, v => v = .bool true
  | 27, w, v => v = .bool true
  | _, w, v => True
theorem phiS2_below {A S IV : Value} {T0 bn9 on9 oi9 jj9 : Nat} {x9 y9 : ByteArray} : ∀ (k : Nat) (w w' : World) (v : Value), Below w.heap.size w w' → phiS2 A S IV T0 bn9 on9 oi9 jj9 x9 y9 k w v → phiS2 A S IV T0 bn9 on9 oi9 jj9 x9 y9 k w' v := by
  intro k w w' v hb h
  unfold phiS2 at *
  split at h <;> first | exact h | exact h
set_option maxRecDepth 100000 in
set_option maxHeartbeats 4000000 in
theorem lk_shape (W : World) (BM : Nat) (k d m r : Int) (np ap : Option Addr) (u nc v ac : Nat) (d0 : 0 ≤ d) (hd' : d ≤ 50) (m0 : 0 ≤ m) (hm' : m + 1 ≤ 10000) (p1 : (u : Int) ≤ 9223372036854775807) (p2 : (v : Int) ≤ 9223372036854775807)
    (hM : W.heap[BM]? = some (.cells #[.int .i64 m] 3 (0, 0))) (hK : W.heap[BM + 1]? = some (.cells #[.func (.func 131) #[] #[.pointer (some ⟨BM, 0, none⟩), .pointer (some ⟨BM + 1, 0, none⟩)]] 166 (0, 0)))
    (W0 : World) (f : Nat) (ns : List ByteArray) (qs : List Sk) (hW0 : W0.heap.size ≤ BM) (hb0 : Below W0.heap.size W0 W) (Hn : Hid (RowOf W0 1 textE np ns)) (Ha : Hid (RowOf W0 3 (TyAt W0 f) ap qs)) (Hu : Hid (u = ns.length)) (Hv : Hid (v = qs.length)) (hr : r ≤ 10000)
    (Hc : Hid (∀ (i : Nat) (hi : i < qs.length) (va : List Value) (c c' : Int), TyAt W0 f va qs[i] → chk f qs[i] (d + 1) c = some c' → c' ≤ 10000 → 0 ≤ c → ∀ V, Below W0.heap.size W0 V → V.heap[BM]? = some (.cells #[.int .i64 c] 3 (0, 0)) →
      V.heap[BM + 1]? = some (.cells #[.func (.func 131) #[] #[.pointer (some ⟨BM, 0, none⟩), .pointer (some ⟨BM + 1, 0, none⟩)]] 166 (0, 0)) → Calls Tryz.prog 131 #[.agg va.toArray, .int .i64 (d + 1), .pointer (some ⟨BM, 0, none⟩), .pointer (some ⟨BM + 1, 0, none⟩)] V (LookPost V BM c')))
    (HL0 : Hid (Lib0 W0)) (Hs1 : Hid (∀ s ∈ ns, s.size ≤ 140737488355328)) (hk : k = 8) (huv : u = v) (hU : shapeB ns qs = true) (hR : chkL (fun T m => chk f T (d + 1) m) qs (m + 1) = some r) : Calls Tryz.prog 131 #[.agg #[.int .i64 k, .slice np u nc, .slice ap v ac], .int .i64 d, .pointer (some ⟨BM, 0, none⟩), .pointer (some ⟨BM + 1, 0, none⟩)] W (LookPost W BM r) := by
  have hBM : BM < W.heap.size := (Array.getElem?_eq_some_iff.1 hM).1
  have hBK : BM + 1 < W.heap.size := (Array.getElem?_eq_some_iff.1 hK).1
  have cM : W.cell? ⟨BM, 0, none⟩ = some (.int .i64 m) := by simp [World.cell?, hM]
  have fM : W.frozen? ⟨BM, 0, none⟩ = false := by simp [World.frozen?, hM]
  have cK : W.cell? ⟨BM + 1, 0, none⟩ = some (.func (.func 131) #[] #[.pointer (some ⟨BM, 0, none⟩), .pointer (some ⟨BM + 1, 0, none⟩)]) := by simp [World.cell?, hK]
  have hne1 : ¬ BM + 1 = BM := by omega
  have hne2 : ¬ W.heap.size = BM := by omega
  subst hk
  have huv2 : v = u := huv.symm
  clear huv
  subst huv2
  have HM := hid hM
  have HK := hid hK
  have HB0 := hid hb0
  have HR0 := hid hR
  have HU : Hid (∀ j, j < ns.length → shapeAt ns qs j = true) := hid fun j hj => by
    unfold shapeB at hU
    rw [List.all_eq_true] at hU
    exact hU j (List.mem_range.2 hj)
  clear hM hK hb0 hR hU
  go_enter Tryz.func131, Tryz.ntmps131
  go_wp2_with (go_at_call 132; refine (mustB _ (by first | rfl | assumption | (simp only [decide_eq_true_eq, Bool.and_eq_true]; omega) | (simp; omega)) _ _).mono ?_; rintro e w' ⟨rfl, rfl⟩)
  go_loopw [76] (fun iv wr => ∃ (i : Nat) (c : Int) (G : Gro), i ≤ v ∧ iv = .int .i64 i ∧ wr = grow ((W.setCell ⟨BM, 0, none⟩ (.int .i64 c)).alloc (.cells #[.int .i64 8, .slice np v nc, .slice ap v ac] 39)) G ∧ Hid (chkL (fun T m => chk f T (d + 1) m) (qs.drop i) c = some r) ∧ 0 ≤ c ∧ c ≤ 10000) (fun iv _ => v - (intOf iv).toNat)
  case atStart => exact ⟨0, m + 1, _, Nat.zero_le _, rfl, below_grow2 (Below.refl _ _), hid (HR0.out), by omega, hm'⟩
  case round =>
      obtain ⟨i, c, G, hi, rfl, rfl, hI, hc0, hc1⟩ := hrel
      by_cases hin : i < v
      · have hix : i < qs.length := by have := Hv.out; omega
        have i0 : (0 : Int) ≤ (i : Int) := by omega
        have i1 : (i : Int) < (v : Int) := by omega
        obtain ⟨b1, o1, k2, np2, nn2, nc2, ap2, an2, ac2, rfl, hb1, c0', c1', c2', hT⟩ := ty_cells Ha.out hix
        have c0 := cell_later HB0.out c0'
        have c1 := cell_later HB0.out c1'
        have c2 := cell_later HB0.out c2'
        have hb1W : b1 < W.heap.size := Nat.lt_of_lt_of_le hb1 HB0.out.size
        have hne3 : ¬ b1 = BM := by omega
        have Hd := chkL_drop (fun T m => chk f T (d + 1) m) qs i hix c
        rw [hI.out] at Hd
        obtain ⟨c', hq⟩ : ∃ c', chk f qs[i] (d + 1) c = some c' := by
          cases hq : chk f qs[i] (d + 1) c with
          | none => rw [hq] at Hd; cases Hd
          | some c' => exact ⟨c', rfl⟩
        rw [hq] at Hd
        have hle := chk_le f _ _ _ _ hq
        have hqr : c' ≤ 10000 := by
          have := (chkL_le (B := 10006) (fun T m r h => chk_le f T (d + 1) m r h) _ _ _ hle.2 Hd.symm).1
          omega
        have HD := hid Hd
        have hixn : i < ns.length := by have := Hu.out; omega
        obtain ⟨bn, on, x, hx, rfl, hbn, cn'⟩ := text_cells Hn.out hixn
        have cn := cell_later HB0.out cn'
        have hbnW : bn < W.heap.size := Nat.lt_of_lt_of_le hbn HB0.out.size
        have hneN : bn ≠ BM := by omega
        have hxs : x.size ≤ 140737488355328 := by rw [← hx]; exact Hs1.out _ (List.getElem_mem hixn)
        have hsh0 := HU.out i hixn
        unfold shapeAt at hsh0
        obtain ⟨t1, t2, t3⟩ := ty_kind hT
        rw [← nameAt_of hixn] at hx
        rw [hx, argAt_of hix, t1] at hsh0
        simp only [Bool.and_eq_true] at hsh0
        have HN : Hid (∀ w', Below W0.heap.size W0 w' → Calls Tryz.prog 134 #[.string x] w' fun e w2 => e = .returned (.bool true) ∧ Below w'.heap.size w' w2) := hid fun w' h => by
          have := name_any x hxs w' (HL0.out.later h)
          rwa [hsh0.1.1] at this
        have HF : Hid (∀ w', Calls Tryz.prog 133 #[.agg #[.int .i64 k2, .slice np2 nn2 nc2, .slice ap2 an2 ac2]] w' fun e w2 => e = .returned (.bool true) ∧ Below w'.heap.size w' w2) := hid fun w' => by
          have := flat133 k2 np2 ap2 nn2 nc2 an2 ac2 w'
          rwa [hsh0.2.1, hsh0.2.2] at this
        clear Hd t1 t2 t3 hsh0 cn' hxs
        have HS := look_step (W := W) (box := #[.int .i64 8, .slice (some ⟨bn, on, none⟩) v nc, .slice (some ⟨b1, o1, none⟩) v ac]) HM.out HK.out hW0 HB0.out Hc hix hT hq hqr hc0
        unfold Xw at HS
        clear c0' c1' c2' hT hq hI hi
        rcases Nat.eq_zero_or_pos i with hz0 | hpos
        · have hz1 : ((i : Int) == 0) = true := by simp [hz0]
          have jt : (i : Int) < (v : Int) := i1
          have jn : ¬ (i : Int) < 0 := by omega
          have Hz := hid hz0
          clear hz0
          go_wp2
          obtain ⟨V, hV⟩ : ∃ V, Vw W BM c #[.int .i64 8, .slice (some ⟨bn, on, none⟩) v nc, .slice (some ⟨b1, o1, none⟩) v ac] G #[.int .i64 k2, .slice np2 nn2 nc2, .slice ap2 an2 ac2] = V := ⟨_, rfl⟩
          have HbV := hid (vw_below hV)
          have hsV := vw_size hV
          have v0 : V.cell? ⟨W.heap.size, 1, none⟩ = some (.slice (some ⟨bn, on, none⟩) v nc) := vw_box hV 1
          have v1 : V.cell? ⟨W.heap.size + 1 + G.size, 0, none⟩ = some (.int .i64 k2) := vw_arg hV 0
          have v2 : V.cell? ⟨W.heap.size + 1 + G.size, 1, none⟩ = some (.slice np2 nn2 nc2) := vw_arg hV 1
          have v3 : V.cell? ⟨W.heap.size + 1 + G.size, 2, none⟩ = some (.slice ap2 an2 ac2) := vw_arg hV 2
          have v4 : V.cell? ⟨BM + 1, 0, none⟩ = some (.func (.func 131) #[] #[.pointer (some ⟨BM, 0, none⟩), .pointer (some ⟨BM + 1, 0, none⟩)]) := (vw_old hV 0 hBK (by omega)).trans cK
          have vx : V.cell? ⟨bn, on + i, none⟩ = some (.string x) := (vw_old hV _ hbnW hneN).trans cn
          have HBW : Hid (Below W0.heap.size W0 V) := hid (by
            have h1 : Below W0.heap.size W0 (Xw W BM c #[.int .i64 8, .slice (some ⟨bn, on, none⟩) v nc, .slice (some ⟨b1, o1, none⟩) v ac]) := by
              unfold Xw
              exact (HB0.out.setCell (p := ⟨BM, 0, none⟩) hW0 _).alloc (by simp; exact HB0.out.size) _
            exact h1.trans (HbV.out.mono h1.size))
          unfold Vw Xw at hV
          unfold Xw at HbV
          rw [hV]
          have lV1 : W.heap.size < V.heap.size := by omega
          have lV2 : W.heap.size + 1 + G.size < V.heap.size := by omega
          have lV3 : BM + 1 < V.heap.size := by omega
          have lbn : bn < V.heap.size := by omega
          clear hV hsV c0 c1 c2 cM fM cK cn
          refine Am.draw_phi (Φ := phiS1 (.agg #[.int .i64 k2, .slice np2 nn2 nc2, .slice ap2 an2 ac2]) (.slice (some ⟨bn, on, none⟩) v nc) (.int .i64 i) W.heap.size bn on (on + i) 0 x x) (by kernel_rfl) (by kernel_rfl) (by kernel_rfl) phiS1_below ?_ ?_
          · intro kq o ca w1 ho hb hlook K hK
            have hA0 := (hb.cell (p := ⟨W.heap.size + 1 + G.size, _, none⟩) lV2).trans v1
            have hA1 := (hb.cell (p := ⟨W.heap.size + 1 + G.size, _, none⟩) lV2).trans v2
            have hA2 := (hb.cell (p := ⟨W.heap.size + 1 + G.size, _, none⟩) lV2).trans v3
            have hT1 := (hb.cell (p := ⟨W.heap.size, _, none⟩) lV1).trans v0
            have hx1 := (hb.cell (p := ⟨bn, _, none⟩) lbn).trans vx
            have hbW : Below W0.heap.size W0 w1 := HBW.out.trans (hb.mono HBW.out.size)
            have hfn : ∀ f, ca.eval (.func f) = .func (.func f) #[] #[] := fun _ => rfl
            have hcs : ∀ v, ca.eval (.const v) = v := fun _ => rfl
            rcases kq with _ | _ | _ | _ | _ | _ | _ | _ | _ | _ | _ | _ | _ | _ | _ | _ | _ | _ | _ | _ | _ | _ | _ | _ | _ | _ | _ | _ | _ | kq
            · cases ho
              have h7 := Am.eval_tmp (Am.look_old (t := 7) hlook (by kernel_rfl) (by kernel_rfl) rfl)
              refine Am.wpOp_run rfl rfl (Am.wp_value (v := .agg #[.int .i64 k2, .slice np2 nn2 nc2, .slice ap2 an2 ac2]) ?_ (hK _ _ (Below.refl _ _) rfl))
              generalize ca.eval = ev at *
              simp [go_sem, execOp, hfn, hcs, h7, hA0, hA1, hA2]
            · cases ho
              have h112 : (ca.tmps.getD 112 undef) = (.agg #[.int .i64 k2, .slice np2 nn2 nc2, .slice ap2 an2 ac2]) := Am.look_of (j := 0) hlook (by kernel_rfl) rfl rfl
              replace h112 := Am.eval_tmp h112
              refine Am.wpOp_run rfl rfl (Am.wp_enter (w' := w1) (f := 133) (args := #[.agg #[.int .i64 k2, .slice np2 nn2 nc2, .slice ap2 an2 ac2]]) ?_ ((HF.out w1).mono ?_))
              · generalize ca.eval = ev at *
                simp [go_sem, execOp, hfn, hcs, h112]
              · rintro e w' ⟨rfl, hb'⟩
                exact ⟨_, rfl, hK _ _ hb' rfl⟩
            · cases ho
              have h113 : (ca.tmps.getD 113 undef) = .bool true := Am.look_of (j := 1) hlook (by kernel_rfl) rfl rfl
              replace h113 := Am.eval_tmp h113
              refine Am.wpOp_run rfl rfl (Am.wp_value (v := .bool true) ?_ (hK _ _ (Below.refl _ _) rfl))
              generalize ca.eval = ev at *
              simp [go_sem, execOp, hfn, hcs, h113]
            · cases ho
              have hg : ca.tmps.getD 114 undef = .bool true := Am.look_of (j := 2) hlook (by kernel_rfl) rfl rfl
              have h4 := Am.eval_tmp (Am.look_old (t := 4) hlook (by kernel_rfl) (by kernel_rfl) rfl)
              refine Am.wpOp_run_g rfl rfl rfl hg rfl (Am.wp_value (v := .pointer (some ⟨W.heap.size, 1, none⟩)) ?_ (hK _ _ (Below.refl _ _) rfl))
              generalize ca.eval = ev at *
              simp [go_sem, execOp, hfn, hcs, h4]
            · cases ho
              have hg : ca.tmps.getD 114 undef = .bool true := Am.look_of (j := 2) hlook (by kernel_rfl) rfl rfl
              have h115 : (ca.tmps.getD 115 undef) = .pointer (some ⟨W.heap.size, 1, none⟩) := Am.look_of (j := 3) hlook (by kernel_rfl) rfl rfl
              replace h115 := Am.eval_tmp h115
              refine Am.wpOp_run_g rfl rfl rfl hg rfl (Am.wp_value (v := .slice (some ⟨bn, on, none⟩) v nc) ?_ (hK _ _ (Below.refl _ _) rfl))
              generalize ca.eval = ev at *
              simp [go_sem, execOp, hfn, hcs, h115, hT1]
            · cases ho
              have hg : ca.tmps.getD 114 undef = .bool true := Am.look_of (j := 2) hlook (by kernel_rfl) rfl rfl
              have h6 := Am.eval_tmp (Am.look_old (t := 6) hlook (by kernel_rfl) (by kernel_rfl) rfl)
              refine Am.wpOp_run_g rfl rfl rfl hg rfl (Am.wp_value (v := .int .i64 i) ?_ (hK _ _ (Below.refl _ _) rfl))
              generalize ca.eval = ev at *
              simp [go_sem, execOp, hfn, hcs, h6]
            · cases ho
              have hg : ca.tmps.getD 114 undef = .bool true := Am.look_of (j := 2) hlook (by kernel_rfl) rfl rfl
              have h116 : (ca.tmps.getD 116 undef) = (.slice (some ⟨bn, on, none⟩) v nc) := Am.look_of (j := 4) hlook (by kernel_rfl) rfl rfl
              replace h116 := Am.eval_tmp h116
              have h117 : (ca.tmps.getD 117 undef) = (.int .i64 i) := Am.look_of (j := 5) hlook (by kernel_rfl) rfl rfl
              replace h117 := Am.eval_tmp h117
              refine Am.wpOp_run_g rfl rfl rfl hg rfl (Am.wp_value (v := .pointer (some ⟨bn, on + i, none⟩)) ?_ (hK _ _ (Below.refl _ _) rfl))
              generalize ca.eval = ev at *
              simp [go_sem, execOp, hfn, hcs, h116, h117, jt, jn]
            · cases ho
              have hg : ca.tmps.getD 114 undef = .bool true := Am.look_of (j := 2) hlook (by kernel_rfl) rfl rfl
              have h118 : (ca.tmps.getD 118 undef) = .pointer (some ⟨bn, on + i, none⟩) := Am.look_of (j := 6) hlook (by kernel_rfl) rfl rfl
              replace h118 := Am.eval_tmp h118
              refine Am.wpOp_run_g rfl rfl rfl hg rfl (Am.wp_value (v := .string x) ?_ (hK _ _ (Below.refl _ _) rfl))
              generalize ca.eval = ev at *
              simp [go_sem, execOp, hfn, hcs, h118, hx1]
            · cases ho
              have hg : ca.tmps.getD 114 undef = .bool true := Am.look_of (j := 2) hlook (by kernel_rfl) rfl rfl
              have h119 : (ca.tmps.getD 119 undef) = .string x := Am.look_of (j := 7) hlook (by kernel_rfl) rfl rfl
              replace h119 := Am.eval_tmp h119
              refine Am.wpOp_run_g rfl rfl rfl hg rfl (Am.wp_enter (w' := w1) (f := 134) (args := #[.string x]) ?_ ((HN.out w1 hbW).mono ?_))
              · generalize ca.eval = ev at *
                simp [go_sem, execOp, hfn, hcs, h119]
              · rintro e w' ⟨rfl, hb'⟩
                exact ⟨_, rfl, hK _ _ hb' rfl⟩
            · cases ho
              have h114 : (ca.tmps.getD 114 undef) = .bool true := Am.look_of (j := 2) hlook (by kernel_rfl) rfl rfl
              replace h114 := Am.eval_tmp h114
              have h120 : (ca.tmps.getD 120 undef) = .bool true := Am.look_of (j := 8) hlook (by kernel_rfl) rfl rfl
              replace h120 := Am.eval_tmp h120
              refine Am.wpOp_run rfl rfl (Am.wp_value (v := .bool true) ?_ (hK _ _ (Below.refl _ _) rfl))
              generalize ca.eval = ev at *
              simp [go_sem, execOp, hfn, hcs, h114, h120]
            · cases ho
              have h121 : (ca.tmps.getD 121 undef) = .bool true := Am.look_of (j := 9) hlook (by kernel_rfl) rfl rfl
              replace h121 := Am.eval_tmp h121
              refine Am.wpOp_run rfl rfl (Am.wp_value (v := .bool true) ?_ (hK _ _ (Below.refl _ _) rfl))
              generalize ca.eval = ev at *
              simp [go_sem, execOp, hfn, hcs, h121]
            · cases ho
              have hg : ca.tmps.getD 122 undef = .bool true := Am.look_of (j := 10) hlook (by kernel_rfl) rfl rfl
              have h6 := Am.eval_tmp (Am.look_old (t := 6) hlook (by kernel_rfl) (by kernel_rfl) rfl)
              refine Am.wpOp_run_g rfl rfl rfl hg rfl (Am.wp_value (v := .int .i64 i) ?_ (hK _ _ (Below.refl _ _) rfl))
              generalize ca.eval = ev at *
              simp [go_sem, execOp, hfn, hcs, h6]
            · cases ho
              have hg : ca.tmps.getD 122 undef = .bool true := Am.look_of (j := 10) hlook (by kernel_rfl) rfl rfl
              have h123 : (ca.tmps.getD 123 undef) = (.int .i64 i) := Am.look_of (j := 11) hlook (by kernel_rfl) rfl rfl
              replace h123 := Am.eval_tmp h123
              refine Am.wpOp_run_g rfl rfl rfl hg rfl (Am.wp_value (v := .bool true) ?_ (hK _ _ (Below.refl _ _) rfl))
              generalize ca.eval = ev at *
              simp [go_sem, execOp, hfn, hcs, h123, hz1]
            · cases ho
              have hg : ca.tmps.getD 122 undef = .bool true := Am.look_of (j := 10) hlook (by kernel_rfl) rfl rfl
              have h124 : (ca.tmps.getD 124 undef) = .bool true := Am.look_of (j := 12) hlook (by kernel_rfl) rfl rfl
              replace h124 := Am.eval_tmp h124
              refine Am.wpOp_run_g rfl rfl rfl hg rfl (Am.wp_value (v := .bool true) ?_ (hK _ _ (Below.refl _ _) rfl))
              generalize ca.eval = ev at *
              simp [go_sem, execOp, hfn, hcs, h124]
            · cases ho
              have hg : ca.tmps.getD 125 undef = .bool true := Am.look_of (j := 13) hlook (by kernel_rfl) rfl rfl
              exact Am.wpOp_skip_g rfl rfl rfl hg rfl (hK _ _ (Below.refl _ _) rfl)
            · cases ho
              have hg : ca.tmps.getD 125 undef = .bool true := Am.look_of (j := 13) hlook (by kernel_rfl) rfl rfl
              exact Am.wpOp_skip_g rfl rfl rfl hg rfl (hK _ _ (Below.refl _ _) rfl)
            · cases ho
              have hg : ca.tmps.getD 125 undef = .bool true := Am.look_of (j := 13) hlook (by kernel_rfl) rfl rfl
              exact Am.wpOp_skip_g rfl rfl rfl hg rfl (hK _ _ (Below.refl _ _) rfl)
            · cases ho
              have hg : ca.tmps.getD 125 undef = .bool true := Am.look_of (j := 13) hlook (by kernel_rfl) rfl rfl
              exact Am.wpOp_skip_g rfl rfl rfl hg rfl (hK _ _ (Below.refl _ _) rfl)
            · cases ho
              have hg : ca.tmps.getD 125 undef = .bool true := Am.look_of (j := 13) hlook (by kernel_rfl) rfl rfl
              exact Am.wpOp_skip_g rfl rfl rfl hg rfl (hK _ _ (Below.refl _ _) rfl)
            · cases ho
              have hg : ca.tmps.getD 125 undef = .bool true := Am.look_of (j := 13) hlook (by kernel_rfl) rfl rfl
              exact Am.wpOp_skip_g rfl rfl rfl hg rfl (hK _ _ (Below.refl _ _) rfl)
            · cases ho
              have hg : ca.tmps.getD 125 undef = .bool true := Am.look_of (j := 13) hlook (by kernel_rfl) rfl rfl
              exact Am.wpOp_skip_g rfl rfl rfl hg rfl (hK _ _ (Below.refl _ _) rfl)
            · cases ho
              have hg : ca.tmps.getD 125 undef = .bool true := Am.look_of (j := 13) hlook (by kernel_rfl) rfl rfl
              exact Am.wpOp_skip_g rfl rfl rfl hg rfl (hK _ _ (Below.refl _ _) rfl)
            · cases ho
              have hg : ca.tmps.getD 125 undef = .bool true := Am.look_of (j := 13) hlook (by kernel_rfl) rfl rfl
              exact Am.wpOp_skip_g rfl rfl rfl hg rfl (hK _ _ (Below.refl _ _) rfl)
            · cases ho
              have hg : ca.tmps.getD 125 undef = .bool true := Am.look_of (j := 13) hlook (by kernel_rfl) rfl rfl
              exact Am.wpOp_skip_g rfl rfl rfl hg rfl (hK _ _ (Below.refl _ _) rfl)
            · cases ho
              have hg : ca.tmps.getD 125 undef = .bool true := Am.look_of (j := 13) hlook (by kernel_rfl) rfl rfl
              exact Am.wpOp_skip_g rfl rfl rfl hg rfl (hK _ _ (Below.refl _ _) rfl)
            · cases ho
              have hg : ca.tmps.getD 125 undef = .bool true := Am.look_of (j := 13) hlook (by kernel_rfl) rfl rfl
              exact Am.wpOp_skip_g rfl rfl rfl hg rfl (hK _ _ (Below.refl _ _) rfl)
            · cases ho
              have hg : ca.tmps.getD 122 undef = .bool true := Am.look_of (j := 10) hlook (by kernel_rfl) rfl rfl
              have h125 : (ca.tmps.getD 125 undef) = .bool true := Am.look_of (j := 13) hlook (by kernel_rfl) rfl rfl
              replace h125 := Am.eval_tmp h125
              refine Am.wpOp_run_g rfl rfl rfl hg rfl (Am.wp_value (v := .bool true) ?_ (hK _ _ (Below.refl _ _) rfl))
              generalize ca.eval = ev at *
              simp [go_sem, execOp, hfn, hcs, h125]
            · cases ho
              have h122 : (ca.tmps.getD 122 undef) = .bool true := Am.look_of (j := 10) hlook (by kernel_rfl) rfl rfl
              replace h122 := Am.eval_tmp h122
              have h138 : (ca.tmps.getD 138 undef) = .bool true := Am.look_of (j := 26) hlook (by kernel_rfl) rfl rfl
              replace h138 := Am.eval_tmp h138
              refine Am.wpOp_run rfl rfl (Am.wp_value (v := .bool true) ?_ (hK _ _ (Below.refl _ _) rfl))
              generalize ca.eval = ev at *
              simp [go_sem, execOp, hfn, hcs, h122, h138]
            · cases ho
              have h139 : (ca.tmps.getD 139 undef) = .bool true := Am.look_of (j := 27) hlook (by kernel_rfl) rfl rfl
              replace h139 := Am.eval_tmp h139
              refine Am.wpOp_run rfl rfl (Am.wp_enter (w' := w1) (f := 132) (args := #[.bool true, .int .i64 0]) ?_ ((must132 0 w1).mono ?_))
              · generalize ca.eval = ev at *
                simp [go_sem, execOp, hfn, hcs, h139]
              · rintro e w' ⟨rfl, rfl⟩
                exact ⟨_, rfl, hK _ _ (Below.refl _ _) trivial⟩
            · simp at ho
          · intro ca w1 hb hd hs hphi hoth
            have hca := Am.frame_out hd hs hoth
            simp only [Act.put, List.foldl_cons, List.foldl_nil] at hca
            generalize ca.tmps.getD 112 undef = y112 at hca
            generalize ca.tmps.getD 113 undef = y113 at hca
            generalize ca.tmps.getD 114 undef = y114 at hca
            generalize ca.tmps.getD 115 undef = y115 at hca
            generalize ca.tmps.getD 116 undef = y116 at hca
            generalize ca.tmps.getD 117 undef = y117 at hca
            generalize ca.tmps.getD 118 undef = y118 at hca
            generalize ca.tmps.getD 119 undef = y119 at hca
            generalize ca.tmps.getD 120 undef = y120 at hca
            generalize ca.tmps.getD 121 undef = y121 at hca
            generalize ca.tmps.getD 122 undef = y122 at hca
            generalize ca.tmps.getD 123 undef = y123 at hca
            generalize ca.tmps.getD 124 undef = y124 at hca
            generalize ca.tmps.getD 125 undef = y125 at hca
            generalize ca.tmps.getD 126 undef = y126 at hca
            generalize ca.tmps.getD 127 undef = y127 at hca
            generalize ca.tmps.getD 128 undef = y128 at hca
            generalize ca.tmps.getD 129 undef = y129 at hca
            generalize ca.tmps.getD 130 undef = y130 at hca
            generalize ca.tmps.getD 131 undef = y131 at hca
            generalize ca.tmps.getD 132 undef = y132 at hca
            generalize ca.tmps.getD 133 undef = y133 at hca
            generalize ca.tmps.getD 134 undef = y134 at hca
            generalize ca.tmps.getD 135 undef = y135 at hca
            generalize ca.tmps.getD 136 undef = y136 at hca
            generalize ca.tmps.getD 137 undef = y137 at hca
            generalize ca.tmps.getD 138 undef = y138 at hca
            generalize ca.tmps.getD 139 undef = y139 at hca
            generalize ca.tmps.getD 140 undef = y140 at hca
            subst hca
            try simp only [List.setIfInBounds_toArray, List.set_cons_succ, List.set_cons_zero]
            have Hb1 := hid hb
            have e4 : w1.cell? ⟨BM + 1, 0, none⟩ = some (.func (.func 131) #[] #[.pointer (some ⟨BM, 0, none⟩), .pointer (some ⟨BM + 1, 0, none⟩)]) := (hb.cell (p := ⟨BM + 1, _, none⟩) lV3).trans v4
            have e1 := (hb.cell (p := ⟨W.heap.size + 1 + G.size, _, none⟩) lV2).trans v1
            have e2 := (hb.cell (p := ⟨W.heap.size + 1 + G.size, _, none⟩) lV2).trans v2
            have e3 := (hb.cell (p := ⟨W.heap.size + 1 + G.size, _, none⟩) lV2).trans v3
            have m1 : W.heap.size + 1 + G.size < w1.heap.size := Nat.lt_of_lt_of_le lV2 hb.size
            have m2 : BM + 1 < w1.heap.size := Nat.lt_of_lt_of_le lV3 hb.size
            clear hb hd hs hphi hoth v0 v1 v2 v3 v4 vx
            go_wp2_with (go_at_call 131; refine (HS.out _ (HbV.out.trans (Hb1.out.mono HbV.out.size))).mono ?_; rintro e w' ⟨rfl, G3, rfl⟩)
            go_roundw
            case rel => exact ⟨i + 1, c', _, by omega, by go_num, rfl, hid HD.out.symm, by omega, by omega⟩
            case measure => simp [intOf]; omega
        · have hpx : i - 1 < ns.length := by have := Hu.out; omega
          obtain ⟨bn', on', y, hy, hbe, hbn', cy'⟩ := text_cells Hn.out hpx
          cases hbe
          rw [← nameAt_of hpx] at hy
          have cy := cell_later HB0.out cy'
          obtain ⟨j, rfl⟩ : ∃ j, i = j + 1 := ⟨i - 1, by omega⟩
          simp only [Nat.add_sub_cancel] at cy hy
          have hsh := HU.out (j + 1) hixn
          unfold shapeAt at hsh
          simp only [Nat.add_sub_cancel] at hsh
          rw [hx, hy] at hsh
          simp only [Bool.and_eq_true, Bool.or_eq_true] at hsh
          have hgt0 : leT x y = false := by
            rcases hsh.1.2 with h | h
            · simp at h
            · simpa using h
          unfold leT at hgt0
          have hgt : (!(Op.bytesLess x.toList y.toList || x.toList == y.toList)) = true := by rw [hgt0]; rfl
          have j0 : (0 : Int) ≤ (j : Int) := by omega
          have j1 : (j : Int) < (v : Int) := by omega
          have jt : (j : Int) + 1 < (v : Int) := by omega
          have jm : ((j : Int) + 1 - 1) = (j : Int) := by omega
          have jz : ¬ ((j : Int) + 1 = 0) := by omega
          have jn : ¬ ((j : Int) + 1 < 0) := by omega
          have jw : IntKind.i64.wrap (j : Int) = (j : Int) := IntWalk.i64_in _ (by omega)
          have hz1 : (((j : Int) + 1) == 0) = false := by simp; omega
          clear hsh hgt0 hy hpx hpos hbn' cy'
          go_wp2
          obtain ⟨V, hV⟩ : ∃ V, Vw W BM c #[.int .i64 8, .slice (some ⟨bn, on, none⟩) v nc, .slice (some ⟨b1, o1, none⟩) v ac] G #[.int .i64 k2, .slice np2 nn2 nc2, .slice ap2 an2 ac2] = V := ⟨_, rfl⟩
          have HbV := hid (vw_below hV)
          have hsV := vw_size hV
          have v0 : V.cell? ⟨W.heap.size, 1, none⟩ = some (.slice (some ⟨bn, on, none⟩) v nc) := vw_box hV 1
          have v1 : V.cell? ⟨W.heap.size + 1 + G.size, 0, none⟩ = some (.int .i64 k2) := vw_arg hV 0
          have v2 : V.cell? ⟨W.heap.size + 1 + G.size, 1, none⟩ = some (.slice np2 nn2 nc2) := vw_arg hV 1
          have v3 : V.cell? ⟨W.heap.size + 1 + G.size, 2, none⟩ = some (.slice ap2 an2 ac2) := vw_arg hV 2
          have v4 : V.cell? ⟨BM + 1, 0, none⟩ = some (.func (.func 131) #[] #[.pointer (some ⟨BM, 0, none⟩), .pointer (some ⟨BM + 1, 0, none⟩)]) := (vw_old hV 0 hBK (by omega)).trans cK
          have vx : V.cell? ⟨bn, on + (j + 1), none⟩ = some (.string x) := (vw_old hV _ hbnW hneN).trans cn
          have HBW : Hid (Below W0.heap.size W0 V) := hid (by
            have h1 : Below W0.heap.size W0 (Xw W BM c #[.int .i64 8, .slice (some ⟨bn, on, none⟩) v nc, .slice (some ⟨b1, o1, none⟩) v ac]) := by
              unfold Xw
              exact (HB0.out.setCell (p := ⟨BM, 0, none⟩) hW0 _).alloc (by simp; exact HB0.out.size) _
            exact h1.trans (HbV.out.mono h1.size))
          have vy : V.cell? ⟨bn, on + j, none⟩ = some (.string y) := (vw_old hV _ hbnW hneN).trans cy
          unfold Vw Xw at hV
          unfold Xw at HbV
          rw [hV]
          have lV1 : W.heap.size < V.heap.size := by omega
          have lV2 : W.heap.size + 1 + G.size < V.heap.size := by omega
          have lV3 : BM + 1 < V.heap.size := by omega
          have lbn : bn < V.heap.size := by omega
          clear hV hsV c0 c1 c2 cM fM cK cn
          refine Am.draw_phi (Φ := phiS2 (.agg #[.int .i64 k2, .slice np2 nn2 nc2, .slice ap2 an2 ac2]) (.slice (some ⟨bn, on, none⟩) v nc) (.int .i64 ((j : Int) + 1)) W.heap.size bn on (on + (j + 1)) j x y) (by kernel_rfl) (by kernel_rfl) (by kernel_rfl) phiS2_below ?_ ?_
          · intro kq o ca w1 ho hb hlook K hK
            have hA0 := (hb.cell (p := ⟨W.heap.size + 1 + G.size, _, none⟩) lV2).trans v1
            have hA1 := (hb.cell (p := ⟨W.heap.size + 1 + G.size, _, none⟩) lV2).trans v2
            have hA2 := (hb.cell (p := ⟨W.heap.size + 1 + G.size, _, none⟩) lV2).trans v3
            have hT1 := (hb.cell (p := ⟨W.heap.size, _, none⟩) lV1).trans v0
            have hx1 := (hb.cell (p := ⟨bn, _, none⟩) lbn).trans vx
            have hbW : Below W0.heap.size W0 w1 := HBW.out.trans (hb.mono HBW.out.size)
            have hy1 := (hb.cell (p := ⟨bn, _, none⟩) lbn).trans vy
            have hfn : ∀ f, ca.eval (.func f) = .func (.func f) #[] #[] := fun _ => rfl
            have hcs : ∀ v, ca.eval (.const v) = v := fun _ => rfl
            rcases kq with _ | _ | _ | _ | _ | _ | _ | _ | _ | _ | _ | _ | _ | _ | _ | _ | _ | _ | _ | _ | _ | _ | _ | _ | _ | _ | _ | _ | _ | kq
            · cases ho
              have h7 := Am.eval_tmp (Am.look_old (t := 7) hlook (by kernel_rfl) (by kernel_rfl) rfl)
              refine Am.wpOp_run rfl rfl (Am.wp_value (v := .agg #[.int .i64 k2, .slice np2 nn2 nc2, .slice ap2 an2 ac2]) ?_ (hK _ _ (Below.refl _ _) rfl))
              generalize ca.eval = ev at *
              simp [go_sem, execOp, hfn, hcs, h7, hA0, hA1, hA2]
            · cases ho
              have h112 : (ca.tmps.getD 112 undef) = (.agg #[.int .i64 k2, .slice np2 nn2 nc2, .slice ap2 an2 ac2]) := Am.look_of (j := 0) hlook (by kernel_rfl) rfl rfl
              replace h112 := Am.eval_tmp h112
              refine Am.wpOp_run rfl rfl (Am.wp_enter (w' := w1) (f := 133) (args := #[.agg #[.int .i64 k2, .slice np2 nn2 nc2, .slice ap2 an2 ac2]]) ?_ ((HF.out w1).mono ?_))
              · generalize ca.eval = ev at *
                simp [go_sem, execOp, hfn, hcs, h112]
              · rintro e w' ⟨rfl, hb'⟩
                exact ⟨_, rfl, hK _ _ hb' rfl⟩
            · cases ho
              have h113 : (ca.tmps.getD 113 undef) = .bool true := Am.look_of (j := 1) hlook (by kernel_rfl) rfl rfl
              replace h113 := Am.eval_tmp h113
              refine Am.wpOp_run rfl rfl (Am.wp_value (v := .bool true) ?_ (hK _ _ (Below.refl _ _) rfl))
              generalize ca.eval = ev at *
              simp [go_sem, execOp, hfn, hcs, h113]
            · cases ho
              have hg : ca.tmps.getD 114 undef = .bool true := Am.look_of (j := 2) hlook (by kernel_rfl) rfl rfl
              have h4 := Am.eval_tmp (Am.look_old (t := 4) hlook (by kernel_rfl) (by kernel_rfl) rfl)
              refine Am.wpOp_run_g rfl rfl rfl hg rfl (Am.wp_value (v := .pointer (some ⟨W.heap.size, 1, none⟩)) ?_ (hK _ _ (Below.refl _ _) rfl))
              generalize ca.eval = ev at *
              simp [go_sem, execOp, hfn, hcs, h4]
            · cases ho
              have hg : ca.tmps.getD 114 undef = .bool true := Am.look_of (j := 2) hlook (by kernel_rfl) rfl rfl
              have h115 : (ca.tmps.getD 115 undef) = .pointer (some ⟨W.heap.size, 1, none⟩) := Am.look_of (j := 3) hlook (by kernel_rfl) rfl rfl
              replace h115 := Am.eval_tmp h115
              refine Am.wpOp_run_g rfl rfl rfl hg rfl (Am.wp_value (v := .slice (some ⟨bn, on, none⟩) v nc) ?_ (hK _ _ (Below.refl _ _) rfl))
              generalize ca.eval = ev at *
              simp [go_sem, execOp, hfn, hcs, h115, hT1]
            · cases ho
              have hg : ca.tmps.getD 114 undef = .bool true := Am.look_of (j := 2) hlook (by kernel_rfl) rfl rfl
              have h6 := Am.eval_tmp (Am.look_old (t := 6) hlook (by kernel_rfl) (by kernel_rfl) rfl)
              refine Am.wpOp_run_g rfl rfl rfl hg rfl (Am.wp_value (v := .int .i64 ((j : Int) + 1)) ?_ (hK _ _ (Below.refl _ _) rfl))
              generalize ca.eval = ev at *
              simp [go_sem, execOp, hfn, hcs, h6]
            · cases ho
              have hg : ca.tmps.getD 114 undef = .bool true := Am.look_of (j := 2) hlook (by kernel_rfl) rfl rfl
              have h116 : (ca.tmps.getD 116 undef) = (.slice (some ⟨bn, on, none⟩) v nc) := Am.look_of (j := 4) hlook (by kernel_rfl) rfl rfl
              replace h116 := Am.eval_tmp h116
              have h117 : (ca.tmps.getD 117 undef) = (.int .i64 ((j : Int) + 1)) := Am.look_of (j := 5) hlook (by kernel_rfl) rfl rfl
              replace h117 := Am.eval_tmp h117
              refine Am.wpOp_run_g rfl rfl rfl hg rfl (Am.wp_value (v := .pointer (some ⟨bn, on + (j + 1), none⟩)) ?_ (hK _ _ (Below.refl _ _) rfl))
              generalize ca.eval = ev at *
              simp [go_sem, execOp, hfn, hcs, h116, h117, jt, jn]
            · cases ho
              have hg : ca.tmps.getD 114 undef = .bool true := Am.look_of (j := 2) hlook (by kernel_rfl) rfl rfl
              have h118 : (ca.tmps.getD 118 undef) = .pointer (some ⟨bn, on + (j + 1), none⟩) := Am.look_of (j := 6) hlook (by kernel_rfl) rfl rfl
              replace h118 := Am.eval_tmp h118
              refine Am.wpOp_run_g rfl rfl rfl hg rfl (Am.wp_value (v := .string x) ?_ (hK _ _ (Below.refl _ _) rfl))
              generalize ca.eval = ev at *
              simp [go_sem, execOp, hfn, hcs, h118, hx1]
            · cases ho
              have hg : ca.tmps.getD 114 undef = .bool true := Am.look_of (j := 2) hlook (by kernel_rfl) rfl rfl
              have h119 : (ca.tmps.getD 119 undef) = .string x := Am.look_of (j := 7) hlook (by kernel_rfl) rfl rfl
              replace h119 := Am.eval_tmp h119
              refine Am.wpOp_run_g rfl rfl rfl hg rfl (Am.wp_enter (w' := w1) (f := 134) (args := #[.string x]) ?_ ((HN.out w1 hbW).mono ?_))
              · generalize ca.eval = ev at *
                simp [go_sem, execOp, hfn, hcs, h119]
              · rintro e w' ⟨rfl, hb'⟩
                exact ⟨_, rfl, hK _ _ hb' rfl⟩
            · cases ho
              have h114 : (ca.tmps.getD 114 undef) = .bool true := Am.look_of (j := 2) hlook (by kernel_rfl) rfl rfl
              replace h114 := Am.eval_tmp h114
              have h120 : (ca.tmps.getD 120 undef) = .bool true := Am.look_of (j := 8) hlook (by kernel_rfl) rfl rfl
              replace h120 := Am.eval_tmp h120
              refine Am.wpOp_run rfl rfl (Am.wp_value (v := .bool true) ?_ (hK _ _ (Below.refl _ _) rfl))
              generalize ca.eval = ev at *
              simp [go_sem, execOp, hfn, hcs, h114, h120]
            · cases ho
              have h121 : (ca.tmps.getD 121 undef) = .bool true := Am.look_of (j := 9) hlook (by kernel_rfl) rfl rfl
              replace h121 := Am.eval_tmp h121
              refine Am.wpOp_run rfl rfl (Am.wp_value (v := .bool true) ?_ (hK _ _ (Below.refl _ _) rfl))
              generalize ca.eval = ev at *
              simp [go_sem, execOp, hfn, hcs, h121]
            · cases ho
              have hg : ca.tmps.getD 122 undef = .bool true := Am.look_of (j := 10) hlook (by kernel_rfl) rfl rfl
              have h6 := Am.eval_tmp (Am.look_old (t := 6) hlook (by kernel_rfl) (by kernel_rfl) rfl)
              refine Am.wpOp_run_g rfl rfl rfl hg rfl (Am.wp_value (v := .int .i64 ((j : Int) + 1)) ?_ (hK _ _ (Below.refl _ _) rfl))
              generalize ca.eval = ev at *
              simp [go_sem, execOp, hfn, hcs, h6]
            · cases ho
              have hg : ca.tmps.getD 122 undef = .bool true := Am.look_of (j := 10) hlook (by kernel_rfl) rfl rfl
              have h123 : (ca.tmps.getD 123 undef) = (.int .i64 ((j : Int) + 1)) := Am.look_of (j := 11) hlook (by kernel_rfl) rfl rfl
              replace h123 := Am.eval_tmp h123
              refine Am.wpOp_run_g rfl rfl rfl hg rfl (Am.wp_value (v := .bool false) ?_ (hK _ _ (Below.refl _ _) rfl))
              generalize ca.eval = ev at *
              simp [go_sem, execOp, hfn, hcs, h123, hz1]
            · cases ho
              have hg : ca.tmps.getD 122 undef = .bool true := Am.look_of (j := 10) hlook (by kernel_rfl) rfl rfl
              have h124 : (ca.tmps.getD 124 undef) = .bool false := Am.look_of (j := 12) hlook (by kernel_rfl) rfl rfl
              replace h124 := Am.eval_tmp h124
              refine Am.wpOp_run_g rfl rfl rfl hg rfl (Am.wp_value (v := .bool false) ?_ (hK _ _ (Below.refl _ _) rfl))
              generalize ca.eval = ev at *
              simp [go_sem, execOp, hfn, hcs, h124]
            · cases ho
              have hg : ca.tmps.getD 125 undef = .bool false := Am.look_of (j := 13) hlook (by kernel_rfl) rfl rfl
              have h4 := Am.eval_tmp (Am.look_old (t := 4) hlook (by kernel_rfl) (by kernel_rfl) rfl)
              refine Am.wpOp_run_g rfl rfl rfl hg rfl (Am.wp_value (v := .pointer (some ⟨W.heap.size, 1, none⟩)) ?_ (hK _ _ (Below.refl _ _) rfl))
              generalize ca.eval = ev at *
              simp [go_sem, execOp, hfn, hcs, h4]
            · cases ho
              have hg : ca.tmps.getD 125 undef = .bool false := Am.look_of (j := 13) hlook (by kernel_rfl) rfl rfl
              have h126 : (ca.tmps.getD 126 undef) = .pointer (some ⟨W.heap.size, 1, none⟩) := Am.look_of (j := 14) hlook (by kernel_rfl) rfl rfl
              replace h126 := Am.eval_tmp h126
              refine Am.wpOp_run_g rfl rfl rfl hg rfl (Am.wp_value (v := .slice (some ⟨bn, on, none⟩) v nc) ?_ (hK _ _ (Below.refl _ _) rfl))
              generalize ca.eval = ev at *
              simp [go_sem, execOp, hfn, hcs, h126, hT1]
            · cases ho
              have hg : ca.tmps.getD 125 undef = .bool false := Am.look_of (j := 13) hlook (by kernel_rfl) rfl rfl
              have h6 := Am.eval_tmp (Am.look_old (t := 6) hlook (by kernel_rfl) (by kernel_rfl) rfl)
              refine Am.wpOp_run_g rfl rfl rfl hg rfl (Am.wp_value (v := .int .i64 ((j : Int) + 1)) ?_ (hK _ _ (Below.refl _ _) rfl))
              generalize ca.eval = ev at *
              simp [go_sem, execOp, hfn, hcs, h6]
            · cases ho
              have hg : ca.tmps.getD 125 undef = .bool false := Am.look_of (j := 13) hlook (by kernel_rfl) rfl rfl
              have h127 : (ca.tmps.getD 127 undef) = (.slice (some ⟨bn, on, none⟩) v nc) := Am.look_of (j := 15) hlook (by kernel_rfl) rfl rfl
              replace h127 := Am.eval_tmp h127
              have h128 : (ca.tmps.getD 128 undef) = (.int .i64 ((j : Int) + 1)) := Am.look_of (j := 16) hlook (by kernel_rfl) rfl rfl
              replace h128 := Am.eval_tmp h128
              refine Am.wpOp_run_g rfl rfl rfl hg rfl (Am.wp_value (v := .pointer (some ⟨bn, on + (j + 1), none⟩)) ?_ (hK _ _ (Below.refl _ _) rfl))
              generalize ca.eval = ev at *
              simp [go_sem, execOp, hfn, hcs, h127, h128, jt, jn]
            · cases ho
              have hg : ca.tmps.getD 125 undef = .bool false := Am.look_of (j := 13) hlook (by kernel_rfl) rfl rfl
              have h129 : (ca.tmps.getD 129 undef) = .pointer (some ⟨bn, on + (j + 1), none⟩) := Am.look_of (j := 17) hlook (by kernel_rfl) rfl rfl
              replace h129 := Am.eval_tmp h129
              refine Am.wpOp_run_g rfl rfl rfl hg rfl (Am.wp_value (v := .string x) ?_ (hK _ _ (Below.refl _ _) rfl))
              generalize ca.eval = ev at *
              simp [go_sem, execOp, hfn, hcs, h129, hx1]
            · cases ho
              have hg : ca.tmps.getD 125 undef = .bool false := Am.look_of (j := 13) hlook (by kernel_rfl) rfl rfl
              have h4 := Am.eval_tmp (Am.look_old (t := 4) hlook (by kernel_rfl) (by kernel_rfl) rfl)
              refine Am.wpOp_run_g rfl rfl rfl hg rfl (Am.wp_value (v := .pointer (some ⟨W.heap.size, 1, none⟩)) ?_ (hK _ _ (Below.refl _ _) rfl))
              generalize ca.eval = ev at *
              simp [go_sem, execOp, hfn, hcs, h4]
            · cases ho
              have hg : ca.tmps.getD 125 undef = .bool false := Am.look_of (j := 13) hlook (by kernel_rfl) rfl rfl
              have h131 : (ca.tmps.getD 131 undef) = .pointer (some ⟨W.heap.size, 1, none⟩) := Am.look_of (j := 19) hlook (by kernel_rfl) rfl rfl
              replace h131 := Am.eval_tmp h131
              refine Am.wpOp_run_g rfl rfl rfl hg rfl (Am.wp_value (v := .slice (some ⟨bn, on, none⟩) v nc) ?_ (hK _ _ (Below.refl _ _) rfl))
              generalize ca.eval = ev at *
              simp [go_sem, execOp, hfn, hcs, h131, hT1]
            · cases ho
              have hg : ca.tmps.getD 125 undef = .bool false := Am.look_of (j := 13) hlook (by kernel_rfl) rfl rfl
              have h6 := Am.eval_tmp (Am.look_old (t := 6) hlook (by kernel_rfl) (by kernel_rfl) rfl)
              refine Am.wpOp_run_g rfl rfl rfl hg rfl (Am.wp_value (v := .int .i64 ((j : Int) + 1)) ?_ (hK _ _ (Below.refl _ _) rfl))
              generalize ca.eval = ev at *
              simp [go_sem, execOp, hfn, hcs, h6]
            · cases ho
              have hg : ca.tmps.getD 125 undef = .bool false := Am.look_of (j := 13) hlook (by kernel_rfl) rfl rfl
              have h133 : (ca.tmps.getD 133 undef) = (.int .i64 ((j : Int) + 1)) := Am.look_of (j := 21) hlook (by kernel_rfl) rfl rfl
              replace h133 := Am.eval_tmp h133
              refine Am.wpOp_run_g rfl rfl rfl hg rfl (Am.wp_value (v := .int .i64 j) ?_ (hK _ _ (Below.refl _ _) rfl))
              generalize ca.eval = ev at *
              simp [go_sem, execOp, hfn, hcs, h133, jm, jw]
            · cases ho
              have hg : ca.tmps.getD 125 undef = .bool false := Am.look_of (j := 13) hlook (by kernel_rfl) rfl rfl
              have h132 : (ca.tmps.getD 132 undef) = (.slice (some ⟨bn, on, none⟩) v nc) := Am.look_of (j := 20) hlook (by kernel_rfl) rfl rfl
              replace h132 := Am.eval_tmp h132
              have h134 : (ca.tmps.getD 134 undef) = .int .i64 j := Am.look_of (j := 22) hlook (by kernel_rfl) rfl rfl
              replace h134 := Am.eval_tmp h134
              refine Am.wpOp_run_g rfl rfl rfl hg rfl (Am.wp_value (v := .pointer (some ⟨bn, on + j, none⟩)) ?_ (hK _ _ (Below.refl _ _) rfl))
              generalize ca.eval = ev at *
              simp [go_sem, execOp, hfn, hcs, h132, h134, j0, j1]
            · cases ho
              have hg : ca.tmps.getD 125 undef = .bool false := Am.look_of (j := 13) hlook (by kernel_rfl) rfl rfl
              have h135 : (ca.tmps.getD 135 undef) = .pointer (some ⟨bn, on + j, none⟩) := Am.look_of (j := 23) hlook (by kernel_rfl) rfl rfl
              replace h135 := Am.eval_tmp h135
              refine Am.wpOp_run_g rfl rfl rfl hg rfl (Am.wp_value (v := .string y) ?_ (hK _ _ (Below.refl _ _) rfl))
              generalize ca.eval = ev at *
              simp [go_sem, execOp, hfn, hcs, h135, hy1]
            · cases ho
              have hg : ca.tmps.getD 125 undef = .bool false := Am.look_of (j := 13) hlook (by kernel_rfl) rfl rfl
              have h130 : (ca.tmps.getD 130 undef) = .string x := Am.look_of (j := 18) hlook (by kernel_rfl) rfl rfl
              replace h130 := Am.eval_tmp h130
              have h136 : (ca.tmps.getD 136 undef) = .string y := Am.look_of (j := 24) hlook (by kernel_rfl) rfl rfl
              replace h136 := Am.eval_tmp h136
              refine Am.wpOp_run_g rfl rfl rfl hg rfl (Am.wp_value (v := .bool true) ?_ (hK _ _ (Below.refl _ _) rfl))
              generalize ca.eval = ev at *
              simp [go_sem, execOp, hfn, hcs, h130, h136, hgt]
            · cases ho
              have hg : ca.tmps.getD 122 undef = .bool true := Am.look_of (j := 10) hlook (by kernel_rfl) rfl rfl
              have h125 : (ca.tmps.getD 125 undef) = .bool false := Am.look_of (j := 13) hlook (by kernel_rfl) rfl rfl
              replace h125 := Am.eval_tmp h125
              have h137 : (ca.tmps.getD 137 undef) = .bool true := Am.look_of (j := 25) hlook (by kernel_rfl) rfl rfl
              replace h137 := Am.eval_tmp h137
              refine Am.wpOp_run_g rfl rfl rfl hg rfl (Am.wp_value (v := .bool true) ?_ (hK _ _ (Below.refl _ _) rfl))
              generalize ca.eval = ev at *
              simp [go_sem, execOp, hfn, hcs, h125, h137]
            · cases ho
              have h122 : (ca.tmps.getD 122 undef) = .bool true := Am.look_of (j := 10) hlook (by kernel_rfl) rfl rfl
              replace h122 := Am.eval_tmp h122
              have h138 : (ca.tmps.getD 138 undef) = .bool true := Am.look_of (j := 26) hlook (by kernel_rfl) rfl rfl
              replace h138 := Am.eval_tmp h138
              refine Am.wpOp_run rfl rfl (Am.wp_value (v := .bool true) ?_ (hK _ _ (Below.refl _ _) rfl))
              generalize ca.eval = ev at *
              simp [go_sem, execOp, hfn, hcs, h122, h138]
            · cases ho
              have h139 : (ca.tmps.getD 139 undef) = .bool true := Am.look_of (j := 27) hlook (by kernel_rfl) rfl rfl
              replace h139 := Am.eval_tmp h139
              refine Am.wpOp_run rfl rfl (Am.wp_enter (w' := w1) (f := 132) (args := #[.bool true, .int .i64 0]) ?_ ((must132 0 w1).mono ?_))
              · generalize ca.eval = ev at *
                simp [go_sem, execOp, hfn, hcs, h139]
              · rintro e w' ⟨rfl, rfl⟩
                exact ⟨_, rfl, hK _ _ (Below.refl _ _) trivial⟩
            · simp at ho
          · intro ca w1 hb hd hs hphi hoth
            have hca := Am.frame_out hd hs hoth
            simp only [Act.put, List.foldl_cons, List.foldl_nil] at hca
            generalize ca.tmps.getD 112 undef = y112 at hca
            generalize ca.tmps.getD 113 undef = y113 at hca
            generalize ca.tmps.getD 114 undef = y114 at hca
            generalize ca.tmps.getD 115 undef = y115 at hca
            generalize ca.tmps.getD 116 undef = y116 at hca
            generalize ca.tmps.getD 117 undef = y117 at hca
            generalize ca.tmps.getD 118 undef = y118 at hca
            generalize ca.tmps.getD 119 undef = y119 at hca
            generalize ca.tmps.getD 120 undef = y120 at hca
            generalize ca.tmps.getD 121 undef = y121 at hca
            generalize ca.tmps.getD 122 undef = y122 at hca
            generalize ca.tmps.getD 123 undef = y123 at hca
            generalize ca.tmps.getD 124 undef = y124 at hca
            generalize ca.tmps.getD 125 undef = y125 at hca
            generalize ca.tmps.getD 126 undef = y126 at hca
            generalize ca.tmps.getD 127 undef = y127 at hca
            generalize ca.tmps.getD 128 undef = y128 at hca
            generalize ca.tmps.getD 129 undef = y129 at hca
            generalize ca.tmps.getD 130 undef = y130 at hca
            generalize ca.tmps.getD 131 undef = y131 at hca
            generalize ca.tmps.getD 132 undef = y132 at hca
            generalize ca.tmps.getD 133 undef = y133 at hca
            generalize ca.tmps.getD 134 undef = y134 at hca
            generalize ca.tmps.getD 135 undef = y135 at hca
            generalize ca.tmps.getD 136 undef = y136 at hca
            generalize ca.tmps.getD 137 undef = y137 at hca
            generalize ca.tmps.getD 138 undef = y138 at hca
            generalize ca.tmps.getD 139 undef = y139 at hca
            generalize ca.tmps.getD 140 undef = y140 at hca
            subst hca
            try simp only [List.setIfInBounds_toArray, List.set_cons_succ, List.set_cons_zero]
            have Hb1 := hid hb
            have e4 : w1.cell? ⟨BM + 1, 0, none⟩ = some (.func (.func 131) #[] #[.pointer (some ⟨BM, 0, none⟩), .pointer (some ⟨BM + 1, 0, none⟩)]) := (hb.cell (p := ⟨BM + 1, _, none⟩) lV3).trans v4
            have e1 := (hb.cell (p := ⟨W.heap.size + 1 + G.size, _, none⟩) lV2).trans v1
            have e2 := (hb.cell (p := ⟨W.heap.size + 1 + G.size, _, none⟩) lV2).trans v2
            have e3 := (hb.cell (p := ⟨W.heap.size + 1 + G.size, _, none⟩) lV2).trans v3
            have m1 : W.heap.size + 1 + G.size < w1.heap.size := Nat.lt_of_lt_of_le lV2 hb.size
            have m2 : BM + 1 < w1.heap.size := Nat.lt_of_lt_of_le lV3 hb.size
            clear hb hd hs hphi hoth v0 v1 v2 v3 v4 vx
            go_wp2_with (go_at_call 131; refine (HS.out _ (HbV.out.trans (Hb1.out.mono HbV.out.size))).mono ?_; rintro e w' ⟨rfl, G3, rfl⟩)
            go_roundw
            case rel => exact ⟨(j + 1) + 1, c', _, by omega, by go_num, rfl, hid HD.out.symm, by omega, by omega⟩
            case measure => simp [intOf]; omega
      · obtain rfl : i = v := by omega
        have hfin : c = r := by
          have := hI.out
          rw [List.drop_of_length_le (by have := Hv.out; omega)] at this
          exact Option.some.inj this
        subst hfin
        clear hI hi hin
        go_wp2
        go_end0
        exact ⟨rfl, bout (by repeat (first | exact Below.refl _ _ | refine bN ?_ _ | refine bD ?_ | refine bG ?_ _ | refine bI ?_ _ _ | refine bA ?_ _))⟩
end Go.Proofs.YtjchnliaglecoaaGreatDoor
