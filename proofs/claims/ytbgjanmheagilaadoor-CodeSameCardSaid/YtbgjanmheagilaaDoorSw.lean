/- The reference's Same, walked. Conditions: none. -/
import Derived.StillTailTactics
import Derived.BigRegion
import Derived.Test.YtbgjanmheagilaaDoorPoX
set_option linter.unusedVariables false
set_option linter.unusedSimpArgs false
namespace Go.Proofs.YtbgjanmheagilaaDoor
open Go Go.RowKit Go.Nodes
set_option linter.unusedVariables false
set_option linter.unusedSimpArgs false
theorem bout2 {a w : World} (h : Below a.heap.size a w) : w = grow a (Classical.choose (bout h)) := Classical.choose_spec (bout h)
theorem bl_parts {W : World} {f : Nat} {v0 v1 v2 : Value} {s e : Int} {B : Bl} (h : BlAt W f [v0, v1, v2, .int .i64 s, .int .i64 e] B) : ∃ T, B = ⟨T, s, e⟩ ∧ TyAt W f [v0, v1, v2] T := by
  obtain ⟨T, s', e'⟩ := B
  obtain ⟨u0, u1, u2, hv, hT⟩ := h
  cases hv
  exact ⟨T, rfl, hT⟩
theorem eqB_one {α : Type} (x y : α) : eqB [x] [y] = eqB x y := by
  by_cases h : x = y
  · rw [eqB_true h, eqB_true (by rw [h])]
  · rw [eqB_false h, eqB_false (by intro e; cases e; exact h rfl)]
theorem row_one {W : World} {f : Nat} {b : Nat} {v0 v1 v2 : Value} {T : Sk} (hb : b < W.heap.size) (h0 : W.cell? ⟨b, 0, none⟩ = some v0) (h1 : W.cell? ⟨b, 1, none⟩ = some v1) (h2 : W.cell? ⟨b, 2, none⟩ = some v2) (hT : TyAt W f [v0, v1, v2] T) : RowOf W 3 (TyAt W f) (some ⟨b, 0, none⟩) [T] := by
  refine .inr ⟨b, 0, rfl, hb, fun i hi => ?_⟩
  obtain rfl : i = 0 := by simpa using hi
  refine ⟨[v0, v1, v2], rfl, fun j v hj => ?_, hT⟩
  rcases j with _ | _ | _ | j
  · cases hj; simpa using h0
  · cases hj; simpa using h1
  · cases hj; simpa using h2
  · simp at hj
set_option maxRecDepth 10000 in
set_option maxHeartbeats 8000000 in
theorem same11 (f : Nat) (W : World) (va : List Value) (A : Im) (hA : ImAt W f va A) (g : Nat) (vb : List Value) (B : Im) (hB : ImAt W g vb B) :
    Calls Tryd.prog 11 #[.agg va.toArray, .agg vb.toArray] W fun e w' => e = .returned (.bool (eqB A B)) ∧ Below W.heap.size W w' := by
    obtain ⟨a, b, c, d⟩ := A
    obtain ⟨a', b', c', d'⟩ := B
    obtain ⟨l1, l2, l3, pp, pc, cp, cc, sp, sc, m0, m1, m2, m3, m4, m5, m6, m7, hm, rfl, k1, k2, k3⟩ := hA
    obtain ⟨l1', l2', l3', pp', pc', cp', cc', sp', sc', m0', m1', m2', m3', m4', m5', m6', m7', hm', rfl, k1', k2', k3'⟩ := hB
    simp only at l1 l2 l3 l1' l2' l3' k1 k2 k3 k1' k2' k3' hm hm'
    subst hm hm'
    have H30 : Hid (∀ W', Below W.heap.size W W' → Calls Tryd.prog 30 #[.slice sp c.length sc, .slice sp' c'.length sc'] W' fun e w' => e = .returned (.bool (eqB c c')) ∧ Below W'.heap.size W' w') := hid fun W' h0 =>
      (types30 f W' g _ _ _ _ _ _ (k3.later h0 fun vs x _ h => TyAt.later h0 f vs x h) (k3'.later h0 fun vs x _ h => TyAt.later h0 g vs x h) l3 l3').mono fun e w' ⟨h, r, hr⟩ => ⟨h, by rw [hr]; exact _root_.Go.below_drewN (Below.refl _ _) r⟩
    have hq := mask_eq m0 m1 m2 m3 m4 m5 m6 m7 m0' m1' m2' m3' m4' m5' m6' m7'
    rw [eqB_im, eqB_decide [m0, m1, m2, m3, m4, m5, m6, m7]]
    generalize decide ([m0, m1, m2, m3, m4, m5, m6, m7] = [m0', m1', m2', m3', m4', m5', m6', m7']) = t4 at *
    unfold maxLen at l1 l2 l1' l2' l3 l3'
    have N1 : Hid (a ≠ a' → eqB a a' = false) := hid fun h => eqB_false h
    have Y1 : Hid (a = a' → eqB a a' = true) := hid fun h => eqB_true h
    have N2 : Hid (b ≠ b' → eqB b b' = false) := hid fun h => eqB_false h
    have Y2 : Hid (b = b' → eqB b b' = true) := hid fun h => eqB_true h
    generalize eqB a a' = t1 at *
    generalize eqB b b' = t2 at *
    generalize eqB c c' = t3 at *
    have K1 := hid k1
    have K1' := hid k1'
    have K2 := hid k2
    have K2' := hid k2'
    clear k1 k2 k3 k1' k2' k3' l3 l3'
    generalize c.length = n2 at *
    generalize c'.length = r2 at *
    obtain ⟨n0, hn0⟩ : ∃ n, n = a.length := ⟨_, rfl⟩
    obtain ⟨r0, hr0⟩ : ∃ n, n = a'.length := ⟨_, rfl⟩
    obtain ⟨n1, hn1⟩ : ∃ n, n = b.length := ⟨_, rfl⟩
    obtain ⟨r1, hr1⟩ : ∃ n, n = b'.length := ⟨_, rfl⟩
    rw [← hn0] at l1 ⊢
    rw [← hr0] at l1' ⊢
    rw [← hn1] at l2 ⊢
    rw [← hr1] at l2' ⊢
    have L0 := hid hn0
    have M0 := hid hr0
    have L1 := hid hn1
    have M1 := hid hr1
    have p0 : (n0 : Int) ≤ 9223372036854775807 := by omega
    have p1 : (n1 : Int) ≤ 9223372036854775807 := by omega
    clear hn0 hr0 hn1 hr1 l1 l1' l2 l2'
    by_cases e0 : n0 = r0
    · subst e0
      by_cases e1 : n1 = r1
      · subst e1
        cases t3 with
        | false =>
          go_enter Tryd.func11, Tryd.ntmps11
          go_wp2_with (go_at_call 30; refine (H30.out _ (by repeat (first | exact Below.refl _ _ | refine bN ?_ _ | refine bD ?_ | refine bG ?_ _ | refine bI ?_ _ _ | refine bA ?_ _))).mono ?_; rintro e w' ⟨rfl, hb⟩; obtain ⟨G, rfl⟩ := bout hb; clear hb)
          go_ret
          exact ⟨by simp, by repeat (first | exact Below.refl _ _ | refine bN ?_ _ | refine bD ?_ | refine bG ?_ _ | refine bI ?_ _ _ | refine bA ?_ _)⟩
        | true =>
          cases t4 with
          | false =>
            go_enter Tryd.func11, Tryd.ntmps11
            go_wp2_with (go_at_call 30; refine (H30.out _ (by repeat (first | exact Below.refl _ _ | refine bN ?_ _ | refine bD ?_ | refine bG ?_ _ | refine bI ?_ _ _ | refine bA ?_ _))).mono ?_; rintro e w' ⟨rfl, hb⟩; obtain ⟨G, rfl⟩ := bout hb; clear hb)
            go_ret
            exact ⟨by simp, by repeat (first | exact Below.refl _ _ | refine bN ?_ _ | refine bD ?_ | refine bG ?_ _ | refine bI ?_ _ _ | refine bA ?_ _)⟩
          | true =>
            go_enter Tryd.func11, Tryd.ntmps11
            go_wp2_with (go_at_call 30; refine (H30.out _ (by repeat (first | exact Below.refl _ _ | refine bN ?_ _ | refine bD ?_ | refine bG ?_ _ | refine bI ?_ _ _ | refine bA ?_ _))).mono ?_; rintro e w' ⟨rfl, hb⟩; obtain ⟨G, rfl⟩ := bout hb; clear hb)
            clear hq
            go_loopw [43] (fun iv wr => ∃ (i : Nat) (G' : Gro), i ≤ n0 ∧ iv = .int .i64 i ∧ wr = grow ((W.alloc (.cells #[.slice pp n0 pc, .slice cp n1 cc, .slice sp n2 sc, .int .u64 m0, .int .u64 m1, .int .u64 m2, .int .u64 m3, .int .u64 m4, .int .u64 m5, .int .u64 m6, .int .u64 m7] 29)).alloc (.cells #[.slice pp' n0 pc', .slice cp' n1 cc', .slice sp' r2 sc', .int .u64 m0', .int .u64 m1', .int .u64 m2', .int .u64 m3', .int .u64 m4', .int .u64 m5', .int .u64 m6', .int .u64 m7'] 29)) G' ∧ Hid (a.take i = a'.take i)) (fun iv _ => n0 - (intOf iv).toNat)
            case atStart => exact ⟨0, G, Nat.zero_le _, rfl, rfl, hid rfl⟩
            case round =>
              obtain ⟨i, G', hi, rfl, rfl, hI⟩ := hrel
              by_cases hin : i < n0
              · have hix : i < a.length := by have := L0.out; omega
                have hiy : i < a'.length := by have := M0.out; omega
                have i0 : (0 : Int) ≤ (i : Int) := by omega
                have i1 : (i : Int) < (n0 : Int) := by omega
                obtain ⟨b1, o1, tp, tn, tc, q, wp, wn, wc, up, un, uc, vp, vn, vc, zp, zn, zc, rfl, hb1, c0, c1, c2, c3, c4, c5, hT⟩ := pr_cells K1.out hix
                obtain ⟨b2, o2, tp', tn', tc', q', wp', wn', wc', up', un', uc', vp', vn', vc', zp', zn', zc', rfl, hb2, c0', c1', c2', c3', c4', c5', hT'⟩ := pr_cells K1'.out hiy
                obtain ⟨t, ht⟩ : ∃ t, eqB a[i] a'[i] = t := ⟨_, rfl⟩
                have Hc : Hid (∀ W', Below W.heap.size W W' → Calls Tryd.prog 31 #[.agg #[.slice tp tn tc, .int .i64 q, .slice wp wn wc, .slice up un uc, .slice vp vn vc, .slice zp zn zc], .agg #[.slice tp' tn' tc', .int .i64 q', .slice wp' wn' wc', .slice up' un' uc', .slice vp' vn' vc', .slice zp' zn' zc']] W' fun e w' => e = .returned (.bool t) ∧ Below W'.heap.size W' w') := hid fun W' hW => by
                  rw [← ht]; exact proto31 f W' _ _ (hT.later hW) g _ _ (hT'.later hW)
                have Ht := hid ht
                clear ht hT hT'
                cases t with
                | true =>
                  go_wp2
                  go_still_tail 10, (by kernel_rfl)
                  go_wp2_with (go_at_call 31; refine (Hc.out _ (by repeat (first | exact Below.refl _ _ | refine bN ?_ _ | refine bD ?_ | refine bG ?_ _ | refine bI ?_ _ _ | refine bA ?_ _))).mono ?_; rintro e w' ⟨rfl, hb⟩; obtain ⟨G2, rfl⟩ := bout hb; clear hb)
                  go_roundw
                  case rel => exact ⟨i + 1, _, by omega, by go_num, bout2 (by repeat (first | exact Below.refl _ _ | refine bN ?_ _ | refine bD ?_ | refine bG ?_ _ | refine bI ?_ _ _ | refine bA ?_ _)), hid (by rw [List.take_succ_eq_append_getElem hix, List.take_succ_eq_append_getElem hiy, hI.out, eqB_of Ht.out])⟩
                  case measure => simp [intOf]; omega
                | false =>
                  have Hd : Hid (t1 = false) := hid (N1.out fun e => eqB_no Ht.out (by subst e; rfl))
                  go_wp2
                  go_still_tail 10, (by kernel_rfl)
                  go_wp2_with (go_at_call 31; refine (Hc.out _ (by repeat (first | exact Below.refl _ _ | refine bN ?_ _ | refine bD ?_ | refine bG ?_ _ | refine bI ?_ _ _ | refine bA ?_ _))).mono ?_; rintro e w' ⟨rfl, hb⟩; obtain ⟨G2, rfl⟩ := bout hb; clear hb)
                  go_ret
                  have hF := Hd.out
                  exact ⟨by simp [hF], by repeat (first | exact Below.refl _ _ | refine bN ?_ _ | refine bD ?_ | refine bG ?_ _ | refine bI ?_ _ _ | refine bA ?_ _)⟩
              · have hni : n0 = i := by omega
                subst hni
                have E0 : Hid (a = a') := hid (by
                  have h := hI.out
                  rw [List.take_of_length_le (by have := L0.out; omega), List.take_of_length_le (by have := M0.out; omega)] at h
                  exact h)
                clear hI hi hin
                go_wp2
                go_loopw [62] (fun iv wr => ∃ (i : Nat) (G' : Gro), i ≤ n1 ∧ iv = .int .i64 i ∧ wr = grow ((W.alloc (.cells #[.slice pp n0 pc, .slice cp n1 cc, .slice sp n2 sc, .int .u64 m0, .int .u64 m1, .int .u64 m2, .int .u64 m3, .int .u64 m4, .int .u64 m5, .int .u64 m6, .int .u64 m7] 29)).alloc (.cells #[.slice pp' n0 pc', .slice cp' n1 cc', .slice sp' r2 sc', .int .u64 m0', .int .u64 m1', .int .u64 m2', .int .u64 m3', .int .u64 m4', .int .u64 m5', .int .u64 m6', .int .u64 m7'] 29)) G' ∧ Hid (b.take i = b'.take i)) (fun iv _ => n1 - (intOf iv).toNat)
                case atStart => exact ⟨0, G', Nat.zero_le _, rfl, rfl, hid rfl⟩
                case round =>
                  obtain ⟨i, G', hi, rfl, rfl, hI⟩ := hrel
                  by_cases hin : i < n1
                  · have hix : i < b.length := by have := L1.out; omega
                    have hiy : i < b'.length := by have := M1.out; omega
                    have i0 : (0 : Int) ≤ (i : Int) := by omega
                    have i1 : (i : Int) < (n1 : Int) := by omega
                    obtain ⟨b1, o1, k, np, nn, nc, ap, an, ac, s, e, rfl, hb1, c0, c1, c2, c3, c4, hT⟩ := bl_cells K2.out hix
                    obtain ⟨b2, o2, k', np', nn', nc', ap', an', ac', s', e', rfl, hb2, c0', c1', c2', c3', c4', hT'⟩ := bl_cells K2'.out hiy
                    obtain ⟨T, hB1, hT1⟩ := bl_parts hT
                    obtain ⟨T', hB2, hT2⟩ := bl_parts hT'
                    obtain ⟨t, ht⟩ : ∃ t, eqB T T' = t := ⟨_, rfl⟩
                    have Hc : Hid (∀ (W' : World) (x z : Nat), Below W.heap.size W W' → x < W'.heap.size → z < W'.heap.size → W'.cell? ⟨x, 0, none⟩ = some (.int .i64 k) → W'.cell? ⟨x, 1, none⟩ = some (.slice np nn nc) → W'.cell? ⟨x, 2, none⟩ = some (.slice ap an ac) →
                        W'.cell? ⟨z, 0, none⟩ = some (.int .i64 k') → W'.cell? ⟨z, 1, none⟩ = some (.slice np' nn' nc') → W'.cell? ⟨z, 2, none⟩ = some (.slice ap' an' ac') →
                        Calls Tryd.prog 30 #[.slice (some ⟨x, 0, none⟩) 1 1, .slice (some ⟨z, 0, none⟩) 1 1] W' fun e w' => e = .returned (.bool t) ∧ Below W'.heap.size W' w') := hid fun W' x z hW hx hz a0 a1 a2 b0 b1 b2 => by
                      have h := types30 f W' g (some ⟨x, 0, none⟩) (some ⟨z, 0, none⟩) 1 1 [T] [T'] (row_one hx a0 a1 a2 (TyAt.later hW f _ _ hT1)) (row_one hz b0 b1 b2 (TyAt.later hW g _ _ hT2)) (by simp [maxLen]) (by simp [maxLen])
                      rw [eqB_one, ht] at h
                      exact h.mono fun e w' ⟨h, r, hr⟩ => ⟨h, by rw [hr]; exact _root_.Go.below_drewN (Below.refl _ _) r⟩
                    have Hno : Hid (b[i] ≠ b'[i] → t2 = false) := hid fun h => N2.out fun e => h (by subst e; rfl)
                    have Hs := hid (List.take_succ_eq_append_getElem hix)
                    have Hs' := hid (List.take_succ_eq_append_getElem hiy)
                    rw [hB1] at Hs Hno
                    rw [hB2] at Hs' Hno
                    have Ht := hid ht
                    clear ht hT hT' hT1 hT2 hB1 hB2
                    go_wp2
                    go_region
                    all_goals
                      cases t with
                      | false =>
                        have Hd : Hid (t2 = false) := hid (Hno.out fun h => by cases h; exact eqB_no Ht.out rfl)
                        go_wp2_with (go_at_call 30; refine (Hc.out _ _ _ (by repeat (first | exact Below.refl _ _ | refine bN ?_ _ | refine bD ?_ | refine bG ?_ _ | refine bI ?_ _ _ | refine bA ?_ _)) (by simp [go_sem] <;> omega) (by simp [go_sem] <;> omega) (by simp [go_sem]) (by simp [go_sem]) (by simp [go_sem]) (by simp [go_sem]) (by simp [go_sem]) (by simp [go_sem])).mono ?_; rintro e w' ⟨rfl, hb⟩; obtain ⟨G2, rfl⟩ := bout hb; clear hb)
                        go_ret
                        have hF := Hd.out
                        exact ⟨by simp [hF], by repeat (first | exact Below.refl _ _ | refine bN ?_ _ | refine bD ?_ | refine bG ?_ _ | refine bI ?_ _ _ | refine bA ?_ _)⟩
                      | true =>
                        by_cases hs : s = s'
                        · subst hs
                          by_cases he : e = e'
                          · subst he
                            go_wp2_with (go_at_call 30; refine (Hc.out _ _ _ (by repeat (first | exact Below.refl _ _ | refine bN ?_ _ | refine bD ?_ | refine bG ?_ _ | refine bI ?_ _ _ | refine bA ?_ _)) (by simp [go_sem] <;> omega) (by simp [go_sem] <;> omega) (by simp [go_sem]) (by simp [go_sem]) (by simp [go_sem]) (by simp [go_sem]) (by simp [go_sem]) (by simp [go_sem])).mono ?_; rintro e w' ⟨rfl, hb⟩; obtain ⟨G2, rfl⟩ := bout hb; clear hb)
                            go_roundw
                            case rel => exact ⟨i + 1, _, by omega, by go_num, bout2 (by repeat (first | exact Below.refl _ _ | refine bN ?_ _ | refine bD ?_ | refine bG ?_ _ | refine bI ?_ _ _ | refine bA ?_ _)), hid (by rw [Hs.out, Hs'.out, hI.out, eqB_of Ht.out])⟩
                            case measure => simp [intOf]; omega
                          · have Hd : Hid (t2 = false) := hid (Hno.out fun h => by cases h; exact he rfl)
                            have f1 : (e != e') = true := by simp [he]
                            clear he
                            go_wp2_with (go_at_call 30; refine (Hc.out _ _ _ (by repeat (first | exact Below.refl _ _ | refine bN ?_ _ | refine bD ?_ | refine bG ?_ _ | refine bI ?_ _ _ | refine bA ?_ _)) (by simp [go_sem] <;> omega) (by simp [go_sem] <;> omega) (by simp [go_sem]) (by simp [go_sem]) (by simp [go_sem]) (by simp [go_sem]) (by simp [go_sem]) (by simp [go_sem])).mono ?_; rintro e w' ⟨rfl, hb⟩; obtain ⟨G2, rfl⟩ := bout hb; clear hb)
                            go_ret
                            have hF := Hd.out
                            exact ⟨by simp [hF], by repeat (first | exact Below.refl _ _ | refine bN ?_ _ | refine bD ?_ | refine bG ?_ _ | refine bI ?_ _ _ | refine bA ?_ _)⟩
                        · have Hd : Hid (t2 = false) := hid (Hno.out fun h => by cases h; exact hs rfl)
                          have f1 : (s != s') = true := by simp [hs]
                          clear hs
                          go_wp2_with (go_at_call 30; refine (Hc.out _ _ _ (by repeat (first | exact Below.refl _ _ | refine bN ?_ _ | refine bD ?_ | refine bG ?_ _ | refine bI ?_ _ _ | refine bA ?_ _)) (by simp [go_sem] <;> omega) (by simp [go_sem] <;> omega) (by simp [go_sem]) (by simp [go_sem]) (by simp [go_sem]) (by simp [go_sem]) (by simp [go_sem]) (by simp [go_sem])).mono ?_; rintro e w' ⟨rfl, hb⟩; obtain ⟨G2, rfl⟩ := bout hb; clear hb)
                          go_ret
                          have hF := Hd.out
                          exact ⟨by simp [hF], by repeat (first | exact Below.refl _ _ | refine bN ?_ _ | refine bD ?_ | refine bG ?_ _ | refine bI ?_ _ _ | refine bA ?_ _)⟩
                  · have hni : n1 = i := by omega
                    subst hni
                    have E1 : Hid (b = b') := hid (by
                      have h := hI.out
                      rw [List.take_of_length_le (by have := L1.out; omega), List.take_of_length_le (by have := M1.out; omega)] at h
                      exact h)
                    clear hI hi hin
                    go_wp2
                    go_ret
                    exact ⟨by simp [Y1.out E0.out, Y2.out E1.out], by repeat (first | exact Below.refl _ _ | refine bN ?_ _ | refine bD ?_ | refine bG ?_ _ | refine bI ?_ _ _ | refine bA ?_ _)⟩
      · have Hd : Hid (t2 = false) := hid (N2.out fun h => e1 (by rw [L1.out, M1.out, h]))
        have f1 : ((n1 : Int) != (r1 : Int)) = true := by simp; omega
        clear e1
        go_enter Tryd.func11, Tryd.ntmps11
        go_wp2
        go_ret
        have hF := Hd.out
        exact ⟨by simp [hF], by repeat (first | exact Below.refl _ _ | refine bN ?_ _ | refine bD ?_ | refine bG ?_ _ | refine bI ?_ _ _ | refine bA ?_ _)⟩
    · have Hd : Hid (t1 = false) := hid (N1.out fun h => e0 (by rw [L0.out, M0.out, h]))
      have f1 : ((n0 : Int) != (r0 : Int)) = true := by simp; omega
      clear e0
      go_enter Tryd.func11, Tryd.ntmps11
      go_wp2
      go_ret
      have hF := Hd.out
      exact ⟨by simp [hF], by repeat (first | exact Below.refl _ _ | refine bN ?_ _ | refine bD ?_ | refine bG ?_ _ | refine bI ?_ _ _ | refine bA ?_ _)⟩
end Go.Proofs.YtbgjanmheagilaaDoor
