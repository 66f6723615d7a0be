/- The reference's Writes, walked. Conditions: none. -/
import Derived.Test.YtjocifamacpamaaFlowWc
import Derived.Test.YtjocifamacpamaaFlowWd
namespace Go.Proofs.Ytjocifamacpamaa
open Go.RowKit
set_option linter.unusedVariables false
set_option linter.unusedSimpArgs false
theorem bA' {B : Nat} {a w : World} (h : Below B a w) (hs : B ≤ w.heap.size) (o : Obj) : Below B a (w.alloc o) := h.alloc hs o
theorem bG' {B : Nat} {a w : World} (h : Below B a w) (hs : B ≤ w.heap.size) (g : Gro) : Below B a (grow w g) := h.trans ((below_grow w g).mono hs)
def phiV (A : Value) (B a len : Nat) (L : List Int) (z : Int) (R : List Bool) : Nat → World → Value → Prop
  | 0, w, v => v = A
  | 1, w, v => v = A
  | 2, w, v => v = .int .i64 a
  | 3, w, v => Ints 0 w v L
  | 4, w, v => v = .int .i64 z
  | 5, w, v => w.ownsRow B 4 1 v (len + 1) (R.map Value.bool)
  | _, w, v => w.ownsRow B 4 1 v (len + 1) (R.map Value.bool)
theorem phiV_below {A : Value} {B a len : Nat} {L : List Int} {z : Int} {R : List Bool} : ∀ (k : Nat) (w w' : World) (v : Value), Below w.heap.size w w' → phiV A B a len L z R k w v → phiV A B a len L z R k w' v := by
  intro k w w' v hb h
  unfold phiV at *
  split at h <;> first | exact h | exact own_below h hb | exact Ints_below h hb
set_option maxRecDepth 10000 in
set_option maxHeartbeats 8000000 in
theorem refWrites_35_no (v0 v1 v3 v4 v5 : Value) (p : Option Addr) (len cap : Nat) (ws : Nat → Int) (a : Nat) (ha : a < len) (w : World) (hw : Wds w.heap.size w p len ws) (he0 : eS (ws a) = 0) (hop : opS (ws a) = 35)
    (R : List Bool) (hRl : R.length = len) (b1 : Bool) (zz : Int) (hz1 : postS (nxW len ws) len a ≠ -1) (hzz : zz = postS (nxW len ws) len a) (k0 : Nat) (hk0 : k0 ≤ 10000) (hR : refF (nxW len ws) len zz k0 (nxW len ws a) (List.replicate (len + 1) false) = some (R ++ [b1])) :
    Calls Try.prog 31 #[.agg #[v0, v1, .slice p len cap, v3, v4, v5], .int .i64 a] w fun e w' => ∃ v, e = .returned v ∧ Below w.heap.size w w' ∧ Ints 0 w' v (pickS (hasW ws R len) 256) := by
  obtain ⟨iB, hiB, zB0, zB1, zB2⟩ := info_parts Try.infoB
  have hl := hw.few
  have ha1 : (a : Int) < (len : Int) := by omega
  have ha0 : (0 : Int) ≤ (a : Int) := by omega
  obtain ⟨bp, op, rfl, hbp, hcp⟩ := hw.lie (by omega)
  have hcpa := hcp a ha
  obtain ⟨b', c', hdec, _⟩ := dec_full (ws a)
  have hda := fun w => refDec_any (ws a) (hw.wf a ha).1 (hw.wf a ha).2 w
  rw [hdec, he0, hop] at hda
  simp only [insV] at hda
  have Hda := hid hda
  have Hw := hid hw
  have HR := hid hR
  have HRl := hid hRl
  clear hw he0 hop hdec hda hcp hR hRl
  obtain ⟨RR, hRR⟩ : ∃ RR, RR = R ++ [b1] := ⟨_, rfl⟩
  have HRR := hid hRR
  clear hRR
  have Hpo : Hid (∀ w1, Below w.heap.size w w1 → Calls Try.prog 47 #[.agg #[v0, v1, .slice (some ⟨bp, op, none⟩) len cap, v3, v4, v5], .int .i64 a] w1 fun e w' => e = .returned (.int .i64 (postS (nxW len ws) len a)) ∧ Below w1.heap.size w1 w') :=
    hid fun w1 h => post_any v0 v1 v3 v4 v5 _ len cap ws a ha w1 (Hw.out.up h h.size)
  generalize postS (nxW len ws) len a = z at *
  subst hzz
  have hz2 : (zz == -1) = false := by simpa using hz1
  go_enter Try.func31, Try.ntmps31
  go_wp2_with (first
    | (go_at_call 20; refine (Hda.out _).mono ?_; rintro e w' ⟨rfl, hb⟩; obtain ⟨g1, rfl⟩ := bout hb; clear hb)
    | (go_at_call 47; refine (Hpo.out _ (by repeat (first | exact Below.refl _ _ | refine bG ?_ _ | refine bI ?_ _ _ | refine bA ?_ _))).mono ?_; rintro e w' ⟨rfl, hb⟩; obtain ⟨g2, rfl⟩ := bout hb; clear hb))
  have hB1 : Below w.heap.size w (grow ((grow (w.alloc (.cells #[v0, v1, .slice (some ⟨bp, op, none⟩) len cap, v3, v4, v5] 48)) g1).alloc (.cells #[.int .i64 35, .int .i64 (aS (ws a)), .int .i64 b', .int .i64 c', .int .i64 (fdS (ws a))] 23)) g2) := bG (bA (bG (bA (Below.refl _ _) _) _) _) _
  have hP : (grow ((grow (w.alloc (.cells #[v0, v1, .slice (some ⟨bp, op, none⟩) len cap, v3, v4, v5] 48)) g1).alloc (.cells #[.int .i64 35, .int .i64 (aS (ws a)), .int .i64 b', .int .i64 c', .int .i64 (fdS (ws a))] 23)) g2).heap[w.heap.size]? = some (.cells #[v0, v1, .slice (some ⟨bp, op, none⟩) len cap, v3, v4, v5] 48 (0, 0)) := by
    rw [heap_grow _ _ _ (by simp; omega), heap_alloc_old _ _ (by simp; omega), heap_grow _ _ _ (by simp)]; exact heap_alloc_new _ _
  generalize grow ((grow (w.alloc (.cells #[v0, v1, .slice (some ⟨bp, op, none⟩) len cap, v3, v4, v5] 48)) g1).alloc (.cells #[.int .i64 35, .int .i64 (aS (ws a)), .int .i64 b', .int .i64 c', .int .i64 (fdS (ws a))] 23)) g2 = W1 at *
  have hbs1 := hB1.size
  have hW1 := Hw.out.up hB1 hbs1
  have Hn : Hid (∀ w1, Below W1.heap.size W1 w1 → Calls Try.prog 25 #[.agg #[v0, v1, .slice (some ⟨bp, op, none⟩) len cap, v3, v4, v5], .int .i64 a] w1 fun e w' => ∃ v, e = .returned v ∧ Below w1.heap.size w1 w' ∧ Ints w1.heap.size w' v (nxW len ws a)) :=
    hid fun w1 h => (hW1.up h h.size).refNext v0 v1 v3 v4 v5 cap a ha (Nat.le_refl _)
  have Hfrom : Hid (∀ (w1 : World) (tv : Value), Below W1.heap.size W1 w1 → Ints 0 w1 tv (nxW len ws a) → Calls Try.prog 49 #[.agg #[v0, v1, .slice (some ⟨bp, op, none⟩) len cap, v3, v4, v5], tv, .int .i64 zz] w1 fun e w' => ∃ v, e = .returned v ∧ Below w1.heap.size w1 w' ∧ w'.ownsRow w1.heap.size 4 1 v (len + 1) (RR.map Value.bool)) :=
    hid fun w1 tv h hT => by
      have hw1 := hW1.below h
      obtain ⟨bq, oq, hpq, hbq, hcq⟩ := hw1.lie (by omega)
      cases hpq
      have hs1 := h.size
      exact reach_any v0 v1 v3 v4 v5 bp op len cap 0 ws hw1.wf hl w1 (by omega) hcq tv (nxW len ws a) (nextS_ne len (ws a) a) hT (nextS_in len (ws a) a) zz k0 RR (by have := nextS_len len (ws a) a; show (nextS len (ws a) a).length + k0 ≤ 100000; omega) (by rw [HRR.out]; exact HR.out)
  have HB1 := hid hB1
  have HP := hid hP
  have HW1 := hid hW1
  clear hB1 hP hW1
  generalize nxW len ws a = L at *
  refine Am.draw_phi (Φ := phiV (.agg #[v0, v1, .slice (some ⟨bp, op, none⟩) len cap, v3, v4, v5]) W1.heap.size a len L zz RR) (by kernel_rfl) (by kernel_rfl) (by kernel_rfl) phiV_below ?_ ?_
  · intro k o ca w1 ho hb hlook K hK
    have hb0 : Below W1.heap.size W1 w1 := hb.trans (Below.refl _ _)
    have hP1 : w1.heap[w.heap.size]? = some (.cells #[v0, v1, .slice (some ⟨bp, op, none⟩) len cap, v3, v4, v5] 48 (0, 0)) := (hb0.block _ (Array.getElem?_eq_some_iff.1 HP.out).1).trans HP.out
    have hfn : ∀ f, ca.eval (.func f) = .func (.func f) #[] #[] := fun _ => rfl
    have hcs : ∀ v, ca.eval (.const v) = v := fun _ => rfl
    rcases k with _ | _ | _ | _ | _ | _ | _ | k
    · cases ho
      have h2 := Am.eval_tmp (Am.look_old (t := 2) hlook (by kernel_rfl) (by kernel_rfl) rfl)
      have hc0 : w1.cell? ⟨w.heap.size, 0, none⟩ = some (v0) := by simp [World.cell?, hP1]
      have hc1 : w1.cell? ⟨w.heap.size, 1, none⟩ = some (v1) := by simp [World.cell?, hP1]
      have hc2 : w1.cell? ⟨w.heap.size, 2, none⟩ = some (.slice (some ⟨bp, op, none⟩) len cap) := by simp [World.cell?, hP1]
      have hc3 : w1.cell? ⟨w.heap.size, 3, none⟩ = some (v3) := by simp [World.cell?, hP1]
      have hc4 : w1.cell? ⟨w.heap.size, 4, none⟩ = some (v4) := by simp [World.cell?, hP1]
      have hc5 : w1.cell? ⟨w.heap.size, 5, none⟩ = some (v5) := by simp [World.cell?, hP1]
      refine Am.wpOp_run rfl rfl (Am.wp_value (v := .agg #[v0, v1, .slice (some ⟨bp, op, none⟩) len cap, v3, v4, v5]) ?_ (hK _ _ (Below.refl _ _) rfl))
      generalize ca.eval = ev at *
      simp [go_sem, execOp, hfn, hcs, h2, hc0, hc1, hc2, hc3, hc4, hc5]
    · cases ho
      have h2 := Am.eval_tmp (Am.look_old (t := 2) hlook (by kernel_rfl) (by kernel_rfl) rfl)
      have hc0 : w1.cell? ⟨w.heap.size, 0, none⟩ = some (v0) := by simp [World.cell?, hP1]
      have hc1 : w1.cell? ⟨w.heap.size, 1, none⟩ = some (v1) := by simp [World.cell?, hP1]
      have hc2 : w1.cell? ⟨w.heap.size, 2, none⟩ = some (.slice (some ⟨bp, op, none⟩) len cap) := by simp [World.cell?, hP1]
      have hc3 : w1.cell? ⟨w.heap.size, 3, none⟩ = some (v3) := by simp [World.cell?, hP1]
      have hc4 : w1.cell? ⟨w.heap.size, 4, none⟩ = some (v4) := by simp [World.cell?, hP1]
      have hc5 : w1.cell? ⟨w.heap.size, 5, none⟩ = some (v5) := by simp [World.cell?, hP1]
      refine Am.wpOp_run rfl rfl (Am.wp_value (v := .agg #[v0, v1, .slice (some ⟨bp, op, none⟩) len cap, v3, v4, v5]) ?_ (hK _ _ (Below.refl _ _) rfl))
      generalize ca.eval = ev at *
      simp [go_sem, execOp, hfn, hcs, h2, hc0, hc1, hc2, hc3, hc4, hc5]
    · cases ho
      have h1 := Am.eval_tmp (Am.look_old (t := 1) hlook (by kernel_rfl) (by kernel_rfl) rfl)
      refine Am.wpOp_run rfl rfl (Am.wp_value (v := .int .i64 a) ?_ (hK _ _ (Below.refl _ _) rfl))
      generalize ca.eval = ev at *
      simp [go_sem, execOp, hfn, hcs, h1]
    · cases ho
      have h53 : (ca.tmps.getD 53 undef) = (.agg #[v0, v1, .slice (some ⟨bp, op, none⟩) len cap, v3, v4, v5]) := Am.look_of (j := 1) hlook (by kernel_rfl) rfl rfl
      replace h53 := Am.eval_tmp h53
      have h54 : (ca.tmps.getD 54 undef) = .int .i64 a := Am.look_of (j := 2) hlook (by kernel_rfl) rfl rfl
      replace h54 := Am.eval_tmp h54
      refine Am.wpOp_run rfl rfl (Am.wp_enter (w' := w1) (f := 25) (args := #[.agg #[v0, v1, .slice (some ⟨bp, op, none⟩) len cap, v3, v4, v5], .int .i64 a]) ?_ ((Hn.out w1 hb0).mono ?_))
      · generalize ca.eval = ev at *
        simp [go_sem, execOp, hfn, hcs, h53, h54]
      · rintro e w' ⟨v, rfl, hb', hi⟩
        exact ⟨_, rfl, hK _ _ hb' (Ints_base' hi (Nat.zero_le _))⟩
    · cases ho
      have h7 := Am.eval_tmp (Am.look_old (t := 7) hlook (by kernel_rfl) (by kernel_rfl) rfl)
      refine Am.wpOp_run rfl rfl (Am.wp_value (v := .int .i64 zz) ?_ (hK _ _ (Below.refl _ _) rfl))
      generalize ca.eval = ev at *
      simp [go_sem, execOp, hfn, hcs, h7]
    · cases ho
      have h52 : (ca.tmps.getD 52 undef) = (.agg #[v0, v1, .slice (some ⟨bp, op, none⟩) len cap, v3, v4, v5]) := Am.look_of (j := 0) hlook (by kernel_rfl) rfl rfl
      replace h52 := Am.eval_tmp h52
      have h55 : Ints 0 w1 (ca.tmps.getD 55 undef) L := Am.look_of (j := 3) hlook (by kernel_rfl) rfl rfl
      have e55 : ca.eval (.tmp 55) = ca.tmps.getD 55 undef := rfl
      generalize ca.tmps.getD 55 undef = x55 at *
      have h56 : (ca.tmps.getD 56 undef) = .int .i64 zz := Am.look_of (j := 4) hlook (by kernel_rfl) rfl rfl
      replace h56 := Am.eval_tmp h56
      refine Am.wpOp_run rfl rfl (Am.wp_enter (w' := w1) (f := 49) (args := #[.agg #[v0, v1, .slice (some ⟨bp, op, none⟩) len cap, v3, v4, v5], x55, .int .i64 zz]) ?_ ((Hfrom.out w1 _ hb0 h55).mono ?_))
      · generalize ca.eval = ev at *
        simp [go_sem, execOp, hfn, hcs, h52, e55, h56]
      · rintro e w' ⟨v, rfl, hb', hi⟩
        exact ⟨_, rfl, hK _ _ hb' (own_base hi hb0.size)⟩
    · cases ho
      have h57 : w1.ownsRow W1.heap.size 4 1 (ca.tmps.getD 57 undef) (len + 1) (RR.map Value.bool) := Am.look_of (j := 5) hlook (by kernel_rfl) rfl rfl
      have e57 : ca.eval (.tmp 57) = ca.tmps.getD 57 undef := rfl
      generalize ca.tmps.getD 57 undef = x57 at *
      refine Am.wpOp_run rfl rfl (Am.wp_value (v := x57) ?_ (hK _ _ (Below.refl _ _) h57))
      generalize ca.eval = ev at *
      simp [go_sem, execOp, hfn, hcs, e57]
    · simp at ho
  · intro ca w1 hb hd hs hphi hoth
    have h51 : w1.ownsRow W1.heap.size 4 1 (ca.tmps.getD 8 undef) (len + 1) (RR.map Value.bool) := hphi 6 _ 8 rfl rfl
    have hca := frame_out hd hs hoth
    simp only [List.foldl_cons, List.foldl_nil] at hca
    generalize ca.tmps.getD 52 undef = x52 at hca
    generalize ca.tmps.getD 53 undef = x53 at hca
    generalize ca.tmps.getD 54 undef = x54 at hca
    generalize ca.tmps.getD 55 undef = x55 at hca
    generalize ca.tmps.getD 56 undef = x56 at hca
    generalize ca.tmps.getD 57 undef = x57 at hca
    generalize ca.tmps.getD 8 undef = x8 at hca h51
    subst hca
    simp only [List.setIfInBounds_toArray, List.set_cons_succ, List.set_cons_zero]
    have hb0 : Below W1.heap.size W1 w1 := hb.trans (Below.refl _ _)
    clear hb hd hs hphi hoth
    generalize w1 = W2 at *
    have hP2 := (hb0.block _ (Array.getElem?_eq_some_iff.1 HP.out).1).trans HP.out
    have hB2 : Below w.heap.size w W2 := HB1.out.trans (hb0.mono hbs1)
    have hbs2 := hB2.size
    have hs12 := hb0.size
    have hW2 := HW1.out.below hb0
    have hRRl : RR.length = len + 1 := by rw [HRR.out]; simp [HRl.out]
    obtain ⟨g, bc, rfl, _, hgl, hrow⟩ := bools_at hRRl h51
    have hrow2 : ∀ i, i < len → W2.cell? ⟨g, i, none⟩ = some (.bool (R.getD i false)) := fun i hi => by
      rw [hrow i (by omega), HRR.out]
      simp [List.getD, List.getElem?_append_left, HRl.out, hi]
    have HB2 := hid hB2
    have HP2 := hid hP2
    have HW2 := hid hW2
    have Hrow := hid hrow2
    clear hB2 hP2 hW2 h51 hrow hrow2 HP HB1 HW1 Hn Hfrom hb0 hRRl
    go_wp2_with (refine wpList_make_full _ rfl _ _ 54 rfl W2.heap.size 4 iB (.bool false) 1 Try.underlying54 hiB zB0 zB1 .i64 .i64 _ _ 256 rfl rfl rfl rfl ?_ ?_ ?_ ?_)
    · rw [zB2]; omega
    · unfold maxLen; omega
    · exact Nat.le_refl _
    intro w3 hO hG
    obtain ⟨g5, rfl⟩ := make_out hO hG (by simp)
    clear hO hG
    obtain ⟨hs0, hhs0⟩ : ∃ hs0, hs0 = hasW ws R 0 := ⟨_, rfl⟩
    have hmade : madeCells #[Value.bool false] 256 = (hs0.map Value.bool).toArray := by
      rw [hhs0]; apply Array.toList_inj.1; rw [toList_madeCells_one]
      show _ = (List.replicate 256 false).map Value.bool
      rw [List.map_replicate]
    rw [hmade]
    clear hmade
    have hb3 : Below W2.heap.size W2 (grow (W2.alloc (.cells (hs0.map Value.bool).toArray 4)) g5) := by
      repeat (first | exact Below.refl _ _ | refine bG ?_ _ | refine bI ?_ _ _ | refine bA ?_ _)
    have hO3 : (grow (W2.alloc (.cells (hs0.map Value.bool).toArray 4)) g5).heap[W2.heap.size]? = some (.cells (hs0.map Value.bool).toArray 4 (0, 0)) := by
      rw [heap_grow _ _ _ (by simp)]; exact heap_alloc_new _ _
    have hc23 : (grow (W2.alloc (.cells (hs0.map Value.bool).toArray 4)) g5).cell? ⟨w.heap.size, 2, none⟩ = some (.slice (some ⟨bp, op, none⟩) len cap) := by
      simp [World.cell?, (hb3.block _ (Array.getElem?_eq_some_iff.1 HP2.out).1).trans HP2.out]
    generalize grow (W2.alloc (.cells (hs0.map Value.bool).toArray 4)) g5 = W3 at *
    rw [hhs0] at hO3
    have Hb3 := hid hb3
    have HO3 := hid hO3
    clear hb3 hO3 hhs0
    go_wp2
    go_loopw [62] (fun i wr => ∃ k : Nat, k ≤ len ∧ i = .int .i64 k ∧ Below W2.heap.size W2 wr ∧ wr.heap[W2.heap.size]? = some (.cells ((hasW ws R k).map Value.bool).toArray 4 (0, 0))) (fun i _ => len - (intOf i).toNat)
    case atStart => exact ⟨0, by omega, rfl, Hb3.out, HO3.out⟩
    case round =>
      clear hc23
      obtain ⟨k, hk, rfl, hB, hO⟩ := hrel
      have hbs := hB.size
      by_cases hlt : k < len
      · have hk1 : (k : Int) < (len : Int) := by omega
        have hk2 : (k : Int) < (len : Int) + 1 := by omega
        have hk0' : (0 : Int) ≤ (k : Int) := by omega
        have hcb := cell_stays hB (Hrow.out k hlt)
        obtain ⟨bq, oq, hpq, hbq, hcq⟩ := (HW2.out.below (hB.mono (by omega))).lie (by omega)
        cases hpq
        have hcw := hcq k hlt
        have hbpl : bp < wr.heap.size := by omega
        have hgl2 : g < wr.heap.size := by omega
        have hOl := (Array.getElem?_eq_some_iff.1 hO).1
        obtain ⟨b2, c2, hdec, hcase⟩ := dec_full (ws k)
        have hda := fun w => refDec_any (ws k) (Hw.out.wf k hlt).1 (Hw.out.wf k hlt).2 w
        rw [hdec] at hda
        simp only [insV] at hda
        have Hdk := hid hda
        have Hcase := hid hcase
        have HB := hid hB
        have HO := hid hO
        clear hB hO hcq hdec hda hcase
        cases hRk : R.getD k false with
        | false =>
          rw [hRk] at hcb
          have Hno : Hid (hasW ws R (k + 1) = hasW ws R k) := hid (by show (if _ then _ else _) = _; rw [hRk]; simp)
          clear hRk
          go_wp2_with (go_at_call 20; refine (Hdk.out _).mono ?_; rintro e w' ⟨rfl, hb⟩; obtain ⟨g6, rfl⟩ := bout hb; clear hb)
          go_roundw
          case rel =>
            refine ⟨k + 1, by omega, by go_num, HB.out.trans ((bA (bG (Below.refl _ _) _) _).mono hbs), ?_⟩
            rw [Hno.out, heap_alloc_old _ _ (by simp; omega), heap_grow _ _ _ hOl]
            exact HO.out
          case measure => simp [intOf]; omega
        | true =>
          rw [hRk] at hcb
          rcases Hcase.out with ⟨he, hn0, hn1, ha0', ha1', _⟩ | he
          · rw [he] at Hdk
            obtain ⟨n, hn⟩ : ∃ n : Nat, opS (ws k) = n := ⟨(opS (ws k)).toNat, by omega⟩
            obtain ⟨av, hav⟩ : ∃ n : Nat, aS (ws k) = n := ⟨(aS (ws k)).toNat, by omega⟩
            have hnm := fun W => wr51_any n (by omega) W
            have hwC : wC (ws k) = wrN n := by unfold wC; rw [he, hn]; simp
            have hav2 : av < 256 := by omega
            rw [hn, hav] at Hdk
            have Hnm := hid hnm
            have HwC := hid hwC
            have Hav := hid hav
            clear hnm hwC hn he ha0' ha1' hn0 hn1 hav
            generalize wrN n = bw at *
            cases bw with
            | false =>
              have Hno : Hid (hasW ws R (k + 1) = hasW ws R k) := hid (by show (if _ then _ else _) = _; rw [hRk, HwC.out]; simp)
              clear hRk
              go_wp2_with (first
                | (go_at_call 20; refine (Hdk.out _).mono ?_; rintro e w' ⟨rfl, hb⟩; obtain ⟨g6, rfl⟩ := bout hb; clear hb)
                | (go_at_call 51; refine (Hnm.out _).mono ?_; rintro e w' ⟨rfl, hb⟩; obtain ⟨g7, rfl⟩ := bout hb; clear hb))
              go_roundw
              case rel =>
                refine ⟨k + 1, by omega, by go_num, HB.out.trans ((bG (bA (bG (Below.refl _ _) _) _) _).mono hbs), ?_⟩
                rw [Hno.out, heap_grow _ _ _ (by simp; omega), heap_alloc_old _ _ (by simp; omega), heap_grow _ _ _ hOl]
                exact HO.out
              case measure => simp [intOf]; omega
            | true =>
              have Hyes : Hid (hasW ws R (k + 1) = (hasW ws R k).set av true) := hid (by show (if _ then _ else _) = _; rw [hRk, HwC.out, Hav.out]; simp)
              have hhl := hasW_len ws R k
              have hcell : ∃ u, wr.cell? ⟨W2.heap.size, av, none⟩ = some u := by
                have : av < (hasW ws R k).length := by omega
                simp [World.cell?, HO.out, this]
              obtain ⟨u0, hco⟩ := hcell
              have hfo : wr.frozen? ⟨W2.heap.size, av, none⟩ = false := by simp [World.frozen?, HO.out]
              have hav3 : (av : Int) < 256 := by omega
              have hav4 : (0 : Int) ≤ (av : Int) := by omega
              clear hRk
              go_wp2_with (first
                | (go_at_call 20; refine (Hdk.out _).mono ?_; rintro e w' ⟨rfl, hb⟩; obtain ⟨g6, rfl⟩ := bout hb; clear hb)
                | (go_at_call 51; refine (Hnm.out _).mono ?_; rintro e w' ⟨rfl, hb⟩; obtain ⟨g7, rfl⟩ := bout hb; clear hb))
              go_roundw
              case rel =>
                have hsz : (wr.setCell ⟨W2.heap.size, av, none⟩ (.bool true)).heap.size = wr.heap.size := by simp [World.setCell]
                refine ⟨k + 1, by omega, by go_num, (HB.out.setCell (Nat.le_refl _) _).trans ((bG (bA (bG (Below.refl _ _) _) _) _).mono (by rw [hsz]; exact hbs)), ?_⟩
                rw [Hyes.out, heap_grow _ _ _ (by simp [World.setCell]; omega), heap_alloc_old _ _ (by simp [World.setCell]; omega), heap_grow _ _ _ (by rw [hsz]; exact hOl)]
                rw [List.map_set]
                exact set_heap HO.out
              case measure => simp [intOf]; omega
          · rw [he] at Hdk
            have Hno : Hid (hasW ws R (k + 1) = hasW ws R k) := hid (by show (if _ then _ else _) = _; rw [hRk]; unfold wC; rw [he]; simp)
            clear hRk he
            go_wp2_with (go_at_call 20; refine (Hdk.out _).mono ?_; rintro e w' ⟨rfl, hb⟩; obtain ⟨g6, rfl⟩ := bout hb; clear hb)
            go_roundw
            case rel =>
              refine ⟨k + 1, by omega, by go_num, HB.out.trans ((bA (bG (Below.refl _ _) _) _).mono hbs), ?_⟩
              rw [Hno.out, heap_alloc_old _ _ (by simp; omega), heap_grow _ _ _ hOl]
              exact HO.out
            case measure => simp [intOf]; omega
      · obtain rfl : k = len := by omega
        have hhl := hasW_len ws R k
        rename World => W5
        have HB := hid hB
        have HO := hid hO
        clear hB hO
        generalize hhas : hasW ws R k = has at *
        have Hhas := hid hhas
        clear hhas
        go_wp2
        go_loopw [14, 92] (fun ov i wr => ∃ q : Nat, q ≤ 256 ∧ i = .int .i64 q ∧ Below W5.heap.size W5 wr ∧ Ints W5.heap.size wr ov (pickS has q)) (fun _ i _ => 256 - (intOf i).toNat)
        case atStart => exact ⟨0, by omega, rfl, Below.refl _ _, rfl, .inl ⟨rfl, rfl⟩⟩
        case round =>
          obtain ⟨q, hq, rfl, hB, hI⟩ := hrel
          have hbq := hB.size
          have HI := hid hI
          have HBq := hid hB
          by_cases hlt2 : q < 256
          · have hcq : wr.cell? ⟨W2.heap.size, q, none⟩ = some (.bool (has.getD q false)) := by
              refine cell_stays hB ?_
              have : q < has.length := by omega
              simp [World.cell?, HO.out, this, List.getD]
            have hq1 : (q : Int) < 256 := by omega
            have hq0 : (0 : Int) ≤ (q : Int) := by omega
            have hpk : pickS has (q + 1) = if has.getD q false = true then pickS has q ++ [(q : Int)] else pickS has q := by
              unfold pickS
              rw [List.range_succ, List.filter_append, List.map_append]
              simp only [List.filter_cons, List.filter_nil]
              by_cases h : has.getD q false = true
              · rw [if_pos h, if_pos h]; rfl
              · rw [if_neg h, if_neg h]; simp
            have hpl : (pickS has q).length ≤ q := by
              unfold pickS
              rw [List.length_map]
              exact Nat.le_trans (List.length_filter_le _ _) (by simp)
            have Hpk := hid hpk
            clear hB hI hpk
            cases hv : has.getD q false with
            | false =>
              rw [hv] at hcq
              have Hv := hid hv
              clear hv
              go_wp2
              go_roundw
              case rel => exact ⟨q + 1, by omega, by go_num, HBq.out, by rw [Hpk.out, if_neg (by rw [Hv.out]; simp)]; exact HI.out⟩
              case measure => simp [intOf]; omega
            | true =>
              rw [hv] at hcq
              have Hv := hid hv
              clear hv
              go_wp2_with (at_builtin; go_loud (refine wpList_append_int rfl _ _ rfl W5.heap.size u14 (pickS has q) (q : Int) wr.heap.size 1 rfl ?aown rfl ?acell ?alen ?abase ?arest))
              case aown => exact Ints_below HI.out (bA (Below.refl _ _) _)
              case acell => exact cell_one_new wr (.int .i64 q) 3 0 _ rfl
              case alen => first | omega | (simp; omega)
              case abase => first | omega | (simp; omega)
              case arest =>
                intro v' w5 h1 h2 h3
                go_wp2
                go_roundw
                case rel =>
                  refine ⟨q + 1, by omega, by go_num, ?_, by rw [Hpk.out, if_pos Hv.out]; exact h1⟩
                  exact Below.grown (HBq.out.alloc hbq _) h2 (by simp; omega) fun g hg => HI.out.2.elim (fun h => by rw [h.1] at hg; cases hg) fun ⟨g', _, _, e, hle, _⟩ => by rw [e] at hg; cases hg; exact hle
                case measure => simp [intOf]; omega
          · obtain rfl : q = 256 := by omega
            go_wp2
            go_ret
            exact ⟨u14, rfl, HB2.out.trans ((HB.out.trans (HBq.out.mono HB.out.size)).mono hbs2), by rw [Hhas.out]; exact Ints_base' HI.out (Nat.zero_le _)⟩
set_option maxRecDepth 10000 in
set_option maxHeartbeats 8000000 in
theorem refWrites_35_is (v0 v1 v3 v4 v5 : Value) (p : Option Addr) (len cap : Nat) (ws : Nat → Int) (a : Nat) (ha : a < len) (w : World) (hw : Wds w.heap.size w p len ws) (he0 : eS (ws a) = 0) (hop : opS (ws a) = 35)
    (R : List Bool) (hRl : R.length = len) (b1 : Bool) (zz : Int) (hz1 : postS (nxW len ws) len a = -1) (hzz : zz = -2) (k0 : Nat) (hk0 : k0 ≤ 10000) (hR : refF (nxW len ws) len zz k0 (nxW len ws a) (List.replicate (len + 1) false) = some (R ++ [b1])) :
    Calls Try.prog 31 #[.agg #[v0, v1, .slice p len cap, v3, v4, v5], .int .i64 a] w fun e w' => ∃ v, e = .returned v ∧ Below w.heap.size w w' ∧ Ints 0 w' v (pickS (hasW ws R len) 256) := by
  obtain ⟨iB, hiB, zB0, zB1, zB2⟩ := info_parts Try.infoB
  have hl := hw.few
  have ha1 : (a : Int) < (len : Int) := by omega
  have ha0 : (0 : Int) ≤ (a : Int) := by omega
  obtain ⟨bp, op, rfl, hbp, hcp⟩ := hw.lie (by omega)
  have hcpa := hcp a ha
  obtain ⟨b', c', hdec, _⟩ := dec_full (ws a)
  have hda := fun w => refDec_any (ws a) (hw.wf a ha).1 (hw.wf a ha).2 w
  rw [hdec, he0, hop] at hda
  simp only [insV] at hda
  have Hda := hid hda
  have Hw := hid hw
  have HR := hid hR
  have HRl := hid hRl
  clear hw he0 hop hdec hda hcp hR hRl
  obtain ⟨RR, hRR⟩ : ∃ RR, RR = R ++ [b1] := ⟨_, rfl⟩
  have HRR := hid hRR
  clear hRR
  have Hpo : Hid (∀ w1, Below w.heap.size w w1 → Calls Try.prog 47 #[.agg #[v0, v1, .slice (some ⟨bp, op, none⟩) len cap, v3, v4, v5], .int .i64 a] w1 fun e w' => e = .returned (.int .i64 (postS (nxW len ws) len a)) ∧ Below w1.heap.size w1 w') :=
    hid fun w1 h => post_any v0 v1 v3 v4 v5 _ len cap ws a ha w1 (Hw.out.up h h.size)
  generalize postS (nxW len ws) len a = z at *
  subst hz1 hzz
  go_enter Try.func31, Try.ntmps31
  go_wp2_with (first
    | (go_at_call 20; refine (Hda.out _).mono ?_; rintro e w' ⟨rfl, hb⟩; obtain ⟨g1, rfl⟩ := bout hb; clear hb)
    | (go_at_call 47; refine (Hpo.out _ (by repeat (first | exact Below.refl _ _ | refine bG ?_ _ | refine bI ?_ _ _ | refine bA ?_ _))).mono ?_; rintro e w' ⟨rfl, hb⟩; obtain ⟨g2, rfl⟩ := bout hb; clear hb))
  have hB1 : Below w.heap.size w (grow ((grow (w.alloc (.cells #[v0, v1, .slice (some ⟨bp, op, none⟩) len cap, v3, v4, v5] 48)) g1).alloc (.cells #[.int .i64 35, .int .i64 (aS (ws a)), .int .i64 b', .int .i64 c', .int .i64 (fdS (ws a))] 23)) g2) := bG (bA (bG (bA (Below.refl _ _) _) _) _) _
  have hP : (grow ((grow (w.alloc (.cells #[v0, v1, .slice (some ⟨bp, op, none⟩) len cap, v3, v4, v5] 48)) g1).alloc (.cells #[.int .i64 35, .int .i64 (aS (ws a)), .int .i64 b', .int .i64 c', .int .i64 (fdS (ws a))] 23)) g2).heap[w.heap.size]? = some (.cells #[v0, v1, .slice (some ⟨bp, op, none⟩) len cap, v3, v4, v5] 48 (0, 0)) := by
    rw [heap_grow _ _ _ (by simp; omega), heap_alloc_old _ _ (by simp; omega), heap_grow _ _ _ (by simp)]; exact heap_alloc_new _ _
  generalize grow ((grow (w.alloc (.cells #[v0, v1, .slice (some ⟨bp, op, none⟩) len cap, v3, v4, v5] 48)) g1).alloc (.cells #[.int .i64 35, .int .i64 (aS (ws a)), .int .i64 b', .int .i64 c', .int .i64 (fdS (ws a))] 23)) g2 = W1 at *
  have hbs1 := hB1.size
  have hW1 := Hw.out.up hB1 hbs1
  have Hn : Hid (∀ w1, Below W1.heap.size W1 w1 → Calls Try.prog 25 #[.agg #[v0, v1, .slice (some ⟨bp, op, none⟩) len cap, v3, v4, v5], .int .i64 a] w1 fun e w' => ∃ v, e = .returned v ∧ Below w1.heap.size w1 w' ∧ Ints w1.heap.size w' v (nxW len ws a)) :=
    hid fun w1 h => (hW1.up h h.size).refNext v0 v1 v3 v4 v5 cap a ha (Nat.le_refl _)
  have Hfrom : Hid (∀ (w1 : World) (tv : Value), Below W1.heap.size W1 w1 → Ints 0 w1 tv (nxW len ws a) → Calls Try.prog 49 #[.agg #[v0, v1, .slice (some ⟨bp, op, none⟩) len cap, v3, v4, v5], tv, .int .i64 (-2)] w1 fun e w' => ∃ v, e = .returned v ∧ Below w1.heap.size w1 w' ∧ w'.ownsRow w1.heap.size 4 1 v (len + 1) (RR.map Value.bool)) :=
    hid fun w1 tv h hT => by
      have hw1 := hW1.below h
      obtain ⟨bq, oq, hpq, hbq, hcq⟩ := hw1.lie (by omega)
      cases hpq
      have hs1 := h.size
      exact reach_any v0 v1 v3 v4 v5 bp op len cap 0 ws hw1.wf hl w1 (by omega) hcq tv (nxW len ws a) (nextS_ne len (ws a) a) hT (nextS_in len (ws a) a) (-2) k0 RR (by have := nextS_len len (ws a) a; show (nextS len (ws a) a).length + k0 ≤ 100000; omega) (by rw [HRR.out]; exact HR.out)
  have HB1 := hid hB1
  have HP := hid hP
  have HW1 := hid hW1
  clear hB1 hP hW1
  generalize nxW len ws a = L at *
  refine Am.draw_phi (Φ := phiV (.agg #[v0, v1, .slice (some ⟨bp, op, none⟩) len cap, v3, v4, v5]) W1.heap.size a len L (-2) RR) (by kernel_rfl) (by kernel_rfl) (by kernel_rfl) phiV_below ?_ ?_
  · intro k o ca w1 ho hb hlook K hK
    have hb0 : Below W1.heap.size W1 w1 := hb.trans (Below.refl _ _)
    have hP1 : w1.heap[w.heap.size]? = some (.cells #[v0, v1, .slice (some ⟨bp, op, none⟩) len cap, v3, v4, v5] 48 (0, 0)) := (hb0.block _ (Array.getElem?_eq_some_iff.1 HP.out).1).trans HP.out
    have hfn : ∀ f, ca.eval (.func f) = .func (.func f) #[] #[] := fun _ => rfl
    have hcs : ∀ v, ca.eval (.const v) = v := fun _ => rfl
    rcases k with _ | _ | _ | _ | _ | _ | _ | k
    · cases ho
      have h2 := Am.eval_tmp (Am.look_old (t := 2) hlook (by kernel_rfl) (by kernel_rfl) rfl)
      have hc0 : w1.cell? ⟨w.heap.size, 0, none⟩ = some (v0) := by simp [World.cell?, hP1]
      have hc1 : w1.cell? ⟨w.heap.size, 1, none⟩ = some (v1) := by simp [World.cell?, hP1]
      have hc2 : w1.cell? ⟨w.heap.size, 2, none⟩ = some (.slice (some ⟨bp, op, none⟩) len cap) := by simp [World.cell?, hP1]
      have hc3 : w1.cell? ⟨w.heap.size, 3, none⟩ = some (v3) := by simp [World.cell?, hP1]
      have hc4 : w1.cell? ⟨w.heap.size, 4, none⟩ = some (v4) := by simp [World.cell?, hP1]
      have hc5 : w1.cell? ⟨w.heap.size, 5, none⟩ = some (v5) := by simp [World.cell?, hP1]
      refine Am.wpOp_run rfl rfl (Am.wp_value (v := .agg #[v0, v1, .slice (some ⟨bp, op, none⟩) len cap, v3, v4, v5]) ?_ (hK _ _ (Below.refl _ _) rfl))
      generalize ca.eval = ev at *
      simp [go_sem, execOp, hfn, hcs, h2, hc0, hc1, hc2, hc3, hc4, hc5]
    · cases ho
      have h2 := Am.eval_tmp (Am.look_old (t := 2) hlook (by kernel_rfl) (by kernel_rfl) rfl)
      have hc0 : w1.cell? ⟨w.heap.size, 0, none⟩ = some (v0) := by simp [World.cell?, hP1]
      have hc1 : w1.cell? ⟨w.heap.size, 1, none⟩ = some (v1) := by simp [World.cell?, hP1]
      have hc2 : w1.cell? ⟨w.heap.size, 2, none⟩ = some (.slice (some ⟨bp, op, none⟩) len cap) := by simp [World.cell?, hP1]
      have hc3 : w1.cell? ⟨w.heap.size, 3, none⟩ = some (v3) := by simp [World.cell?, hP1]
      have hc4 : w1.cell? ⟨w.heap.size, 4, none⟩ = some (v4) := by simp [World.cell?, hP1]
      have hc5 : w1.cell? ⟨w.heap.size, 5, none⟩ = some (v5) := by simp [World.cell?, hP1]
      refine Am.wpOp_run rfl rfl (Am.wp_value (v := .agg #[v0, v1, .slice (some ⟨bp, op, none⟩) len cap, v3, v4, v5]) ?_ (hK _ _ (Below.refl _ _) rfl))
      generalize ca.eval = ev at *
      simp [go_sem, execOp, hfn, hcs, h2, hc0, hc1, hc2, hc3, hc4, hc5]
    · cases ho
      have h1 := Am.eval_tmp (Am.look_old (t := 1) hlook (by kernel_rfl) (by kernel_rfl) rfl)
      refine Am.wpOp_run rfl rfl (Am.wp_value (v := .int .i64 a) ?_ (hK _ _ (Below.refl _ _) rfl))
      generalize ca.eval = ev at *
      simp [go_sem, execOp, hfn, hcs, h1]
    · cases ho
      have h53 : (ca.tmps.getD 53 undef) = (.agg #[v0, v1, .slice (some ⟨bp, op, none⟩) len cap, v3, v4, v5]) := Am.look_of (j := 1) hlook (by kernel_rfl) rfl rfl
      replace h53 := Am.eval_tmp h53
      have h54 : (ca.tmps.getD 54 undef) = .int .i64 a := Am.look_of (j := 2) hlook (by kernel_rfl) rfl rfl
      replace h54 := Am.eval_tmp h54
      refine Am.wpOp_run rfl rfl (Am.wp_enter (w' := w1) (f := 25) (args := #[.agg #[v0, v1, .slice (some ⟨bp, op, none⟩) len cap, v3, v4, v5], .int .i64 a]) ?_ ((Hn.out w1 hb0).mono ?_))
      · generalize ca.eval = ev at *
        simp [go_sem, execOp, hfn, hcs, h53, h54]
      · rintro e w' ⟨v, rfl, hb', hi⟩
        exact ⟨_, rfl, hK _ _ hb' (Ints_base' hi (Nat.zero_le _))⟩
    · cases ho
      have h7 := Am.eval_tmp (Am.look_old (t := 7) hlook (by kernel_rfl) (by kernel_rfl) rfl)
      refine Am.wpOp_run rfl rfl (Am.wp_value (v := .int .i64 (-2)) ?_ (hK _ _ (Below.refl _ _) rfl))
      generalize ca.eval = ev at *
      simp [go_sem, execOp, hfn, hcs, h7]
    · cases ho
      have h52 : (ca.tmps.getD 52 undef) = (.agg #[v0, v1, .slice (some ⟨bp, op, none⟩) len cap, v3, v4, v5]) := Am.look_of (j := 0) hlook (by kernel_rfl) rfl rfl
      replace h52 := Am.eval_tmp h52
      have h55 : Ints 0 w1 (ca.tmps.getD 55 undef) L := Am.look_of (j := 3) hlook (by kernel_rfl) rfl rfl
      have e55 : ca.eval (.tmp 55) = ca.tmps.getD 55 undef := rfl
      generalize ca.tmps.getD 55 undef = x55 at *
      have h56 : (ca.tmps.getD 56 undef) = .int .i64 (-2) := Am.look_of (j := 4) hlook (by kernel_rfl) rfl rfl
      replace h56 := Am.eval_tmp h56
      refine Am.wpOp_run rfl rfl (Am.wp_enter (w' := w1) (f := 49) (args := #[.agg #[v0, v1, .slice (some ⟨bp, op, none⟩) len cap, v3, v4, v5], x55, .int .i64 (-2)]) ?_ ((Hfrom.out w1 _ hb0 h55).mono ?_))
      · generalize ca.eval = ev at *
        simp [go_sem, execOp, hfn, hcs, h52, e55, h56]
      · rintro e w' ⟨v, rfl, hb', hi⟩
        exact ⟨_, rfl, hK _ _ hb' (own_base hi hb0.size)⟩
    · cases ho
      have h57 : w1.ownsRow W1.heap.size 4 1 (ca.tmps.getD 57 undef) (len + 1) (RR.map Value.bool) := Am.look_of (j := 5) hlook (by kernel_rfl) rfl rfl
      have e57 : ca.eval (.tmp 57) = ca.tmps.getD 57 undef := rfl
      generalize ca.tmps.getD 57 undef = x57 at *
      refine Am.wpOp_run rfl rfl (Am.wp_value (v := x57) ?_ (hK _ _ (Below.refl _ _) h57))
      generalize ca.eval = ev at *
      simp [go_sem, execOp, hfn, hcs, e57]
    · simp at ho
  · intro ca w1 hb hd hs hphi hoth
    have h51 : w1.ownsRow W1.heap.size 4 1 (ca.tmps.getD 8 undef) (len + 1) (RR.map Value.bool) := hphi 6 _ 8 rfl rfl
    have hca := frame_out hd hs hoth
    simp only [List.foldl_cons, List.foldl_nil] at hca
    generalize ca.tmps.getD 52 undef = x52 at hca
    generalize ca.tmps.getD 53 undef = x53 at hca
    generalize ca.tmps.getD 54 undef = x54 at hca
    generalize ca.tmps.getD 55 undef = x55 at hca
    generalize ca.tmps.getD 56 undef = x56 at hca
    generalize ca.tmps.getD 57 undef = x57 at hca
    generalize ca.tmps.getD 8 undef = x8 at hca h51
    subst hca
    simp only [List.setIfInBounds_toArray, List.set_cons_succ, List.set_cons_zero]
    have hb0 : Below W1.heap.size W1 w1 := hb.trans (Below.refl _ _)
    clear hb hd hs hphi hoth
    generalize w1 = W2 at *
    have hP2 := (hb0.block _ (Array.getElem?_eq_some_iff.1 HP.out).1).trans HP.out
    have hB2 : Below w.heap.size w W2 := HB1.out.trans (hb0.mono hbs1)
    have hbs2 := hB2.size
    have hs12 := hb0.size
    have hW2 := HW1.out.below hb0
    have hRRl : RR.length = len + 1 := by rw [HRR.out]; simp [HRl.out]
    obtain ⟨g, bc, rfl, _, hgl, hrow⟩ := bools_at hRRl h51
    have hrow2 : ∀ i, i < len → W2.cell? ⟨g, i, none⟩ = some (.bool (R.getD i false)) := fun i hi => by
      rw [hrow i (by omega), HRR.out]
      simp [List.getD, List.getElem?_append_left, HRl.out, hi]
    have HB2 := hid hB2
    have HP2 := hid hP2
    have HW2 := hid hW2
    have Hrow := hid hrow2
    clear hB2 hP2 hW2 h51 hrow hrow2 HP HB1 HW1 Hn Hfrom hb0 hRRl
    go_wp2_with (refine wpList_make_full _ rfl _ _ 54 rfl W2.heap.size 4 iB (.bool false) 1 Try.underlying54 hiB zB0 zB1 .i64 .i64 _ _ 256 rfl rfl rfl rfl ?_ ?_ ?_ ?_)
    · rw [zB2]; omega
    · unfold maxLen; omega
    · exact Nat.le_refl _
    intro w3 hO hG
    obtain ⟨g5, rfl⟩ := make_out hO hG (by simp)
    clear hO hG
    obtain ⟨hs0, hhs0⟩ : ∃ hs0, hs0 = hasW ws R 0 := ⟨_, rfl⟩
    have hmade : madeCells #[Value.bool false] 256 = (hs0.map Value.bool).toArray := by
      rw [hhs0]; apply Array.toList_inj.1; rw [toList_madeCells_one]
      show _ = (List.replicate 256 false).map Value.bool
      rw [List.map_replicate]
    rw [hmade]
    clear hmade
    have hb3 : Below W2.heap.size W2 (grow (W2.alloc (.cells (hs0.map Value.bool).toArray 4)) g5) := by
      repeat (first | exact Below.refl _ _ | refine bG ?_ _ | refine bI ?_ _ _ | refine bA ?_ _)
    have hO3 : (grow (W2.alloc (.cells (hs0.map Value.bool).toArray 4)) g5).heap[W2.heap.size]? = some (.cells (hs0.map Value.bool).toArray 4 (0, 0)) := by
      rw [heap_grow _ _ _ (by simp)]; exact heap_alloc_new _ _
    have hc23 : (grow (W2.alloc (.cells (hs0.map Value.bool).toArray 4)) g5).cell? ⟨w.heap.size, 2, none⟩ = some (.slice (some ⟨bp, op, none⟩) len cap) := by
      simp [World.cell?, (hb3.block _ (Array.getElem?_eq_some_iff.1 HP2.out).1).trans HP2.out]
    generalize grow (W2.alloc (.cells (hs0.map Value.bool).toArray 4)) g5 = W3 at *
    rw [hhs0] at hO3
    have Hb3 := hid hb3
    have HO3 := hid hO3
    clear hb3 hO3 hhs0
    go_wp2
    go_loopw [62] (fun i wr => ∃ k : Nat, k ≤ len ∧ i = .int .i64 k ∧ Below W2.heap.size W2 wr ∧ wr.heap[W2.heap.size]? = some (.cells ((hasW ws R k).map Value.bool).toArray 4 (0, 0))) (fun i _ => len - (intOf i).toNat)
    case atStart => exact ⟨0, by omega, rfl, Hb3.out, HO3.out⟩
    case round =>
      clear hc23
      obtain ⟨k, hk, rfl, hB, hO⟩ := hrel
      have hbs := hB.size
      by_cases hlt : k < len
      · have hk1 : (k : Int) < (len : Int) := by omega
        have hk2 : (k : Int) < (len : Int) + 1 := by omega
        have hk0' : (0 : Int) ≤ (k : Int) := by omega
        have hcb := cell_stays hB (Hrow.out k hlt)
        obtain ⟨bq, oq, hpq, hbq, hcq⟩ := (HW2.out.below (hB.mono (by omega))).lie (by omega)
        cases hpq
        have hcw := hcq k hlt
        have hbpl : bp < wr.heap.size := by omega
        have hgl2 : g < wr.heap.size := by omega
        have hOl := (Array.getElem?_eq_some_iff.1 hO).1
        obtain ⟨b2, c2, hdec, hcase⟩ := dec_full (ws k)
        have hda := fun w => refDec_any (ws k) (Hw.out.wf k hlt).1 (Hw.out.wf k hlt).2 w
        rw [hdec] at hda
        simp only [insV] at hda
        have Hdk := hid hda
        have Hcase := hid hcase
        have HB := hid hB
        have HO := hid hO
        clear hB hO hcq hdec hda hcase
        cases hRk : R.getD k false with
        | false =>
          rw [hRk] at hcb
          have Hno : Hid (hasW ws R (k + 1) = hasW ws R k) := hid (by show (if _ then _ else _) = _; rw [hRk]; simp)
          clear hRk
          go_wp2_with (go_at_call 20; refine (Hdk.out _).mono ?_; rintro e w' ⟨rfl, hb⟩; obtain ⟨g6, rfl⟩ := bout hb; clear hb)
          go_roundw
          case rel =>
            refine ⟨k + 1, by omega, by go_num, HB.out.trans ((bA (bG (Below.refl _ _) _) _).mono hbs), ?_⟩
            rw [Hno.out, heap_alloc_old _ _ (by simp; omega), heap_grow _ _ _ hOl]
            exact HO.out
          case measure => simp [intOf]; omega
        | true =>
          rw [hRk] at hcb
          rcases Hcase.out with ⟨he, hn0, hn1, ha0', ha1', _⟩ | he
          · rw [he] at Hdk
            obtain ⟨n, hn⟩ : ∃ n : Nat, opS (ws k) = n := ⟨(opS (ws k)).toNat, by omega⟩
            obtain ⟨av, hav⟩ : ∃ n : Nat, aS (ws k) = n := ⟨(aS (ws k)).toNat, by omega⟩
            have hnm := fun W => wr51_any n (by omega) W
            have hwC : wC (ws k) = wrN n := by unfold wC; rw [he, hn]; simp
            have hav2 : av < 256 := by omega
            rw [hn, hav] at Hdk
            have Hnm := hid hnm
            have HwC := hid hwC
            have Hav := hid hav
            clear hnm hwC hn he ha0' ha1' hn0 hn1 hav
            generalize wrN n = bw at *
            cases bw with
            | false =>
              have Hno : Hid (hasW ws R (k + 1) = hasW ws R k) := hid (by show (if _ then _ else _) = _; rw [hRk, HwC.out]; simp)
              clear hRk
              go_wp2_with (first
                | (go_at_call 20; refine (Hdk.out _).mono ?_; rintro e w' ⟨rfl, hb⟩; obtain ⟨g6, rfl⟩ := bout hb; clear hb)
                | (go_at_call 51; refine (Hnm.out _).mono ?_; rintro e w' ⟨rfl, hb⟩; obtain ⟨g7, rfl⟩ := bout hb; clear hb))
              go_roundw
              case rel =>
                refine ⟨k + 1, by omega, by go_num, HB.out.trans ((bG (bA (bG (Below.refl _ _) _) _) _).mono hbs), ?_⟩
                rw [Hno.out, heap_grow _ _ _ (by simp; omega), heap_alloc_old _ _ (by simp; omega), heap_grow _ _ _ hOl]
                exact HO.out
              case measure => simp [intOf]; omega
            | true =>
              have Hyes : Hid (hasW ws R (k + 1) = (hasW ws R k).set av true) := hid (by show (if _ then _ else _) = _; rw [hRk, HwC.out, Hav.out]; simp)
              have hhl := hasW_len ws R k
              have hcell : ∃ u, wr.cell? ⟨W2.heap.size, av, none⟩ = some u := by
                have : av < (hasW ws R k).length := by omega
                simp [World.cell?, HO.out, this]
              obtain ⟨u0, hco⟩ := hcell
              have hfo : wr.frozen? ⟨W2.heap.size, av, none⟩ = false := by simp [World.frozen?, HO.out]
              have hav3 : (av : Int) < 256 := by omega
              have hav4 : (0 : Int) ≤ (av : Int) := by omega
              clear hRk
              go_wp2_with (first
                | (go_at_call 20; refine (Hdk.out _).mono ?_; rintro e w' ⟨rfl, hb⟩; obtain ⟨g6, rfl⟩ := bout hb; clear hb)
                | (go_at_call 51; refine (Hnm.out _).mono ?_; rintro e w' ⟨rfl, hb⟩; obtain ⟨g7, rfl⟩ := bout hb; clear hb))
              go_roundw
              case rel =>
                have hsz : (wr.setCell ⟨W2.heap.size, av, none⟩ (.bool true)).heap.size = wr.heap.size := by simp [World.setCell]
                refine ⟨k + 1, by omega, by go_num, (HB.out.setCell (Nat.le_refl _) _).trans ((bG (bA (bG (Below.refl _ _) _) _) _).mono (by rw [hsz]; exact hbs)), ?_⟩
                rw [Hyes.out, heap_grow _ _ _ (by simp [World.setCell]; omega), heap_alloc_old _ _ (by simp [World.setCell]; omega), heap_grow _ _ _ (by rw [hsz]; exact hOl)]
                rw [List.map_set]
                exact set_heap HO.out
              case measure => simp [intOf]; omega
          · rw [he] at Hdk
            have Hno : Hid (hasW ws R (k + 1) = hasW ws R k) := hid (by show (if _ then _ else _) = _; rw [hRk]; unfold wC; rw [he]; simp)
            clear hRk he
            go_wp2_with (go_at_call 20; refine (Hdk.out _).mono ?_; rintro e w' ⟨rfl, hb⟩; obtain ⟨g6, rfl⟩ := bout hb; clear hb)
            go_roundw
            case rel =>
              refine ⟨k + 1, by omega, by go_num, HB.out.trans ((bA (bG (Below.refl _ _) _) _).mono hbs), ?_⟩
              rw [Hno.out, heap_alloc_old _ _ (by simp; omega), heap_grow _ _ _ hOl]
              exact HO.out
            case measure => simp [intOf]; omega
      · obtain rfl : k = len := by omega
        have hhl := hasW_len ws R k
        rename World => W5
        have HB := hid hB
        have HO := hid hO
        clear hB hO
        generalize hhas : hasW ws R k = has at *
        have Hhas := hid hhas
        clear hhas
        go_wp2
        go_loopw [14, 92] (fun ov i wr => ∃ q : Nat, q ≤ 256 ∧ i = .int .i64 q ∧ Below W5.heap.size W5 wr ∧ Ints W5.heap.size wr ov (pickS has q)) (fun _ i _ => 256 - (intOf i).toNat)
        case atStart => exact ⟨0, by omega, rfl, Below.refl _ _, rfl, .inl ⟨rfl, rfl⟩⟩
        case round =>
          obtain ⟨q, hq, rfl, hB, hI⟩ := hrel
          have hbq := hB.size
          have HI := hid hI
          have HBq := hid hB
          by_cases hlt2 : q < 256
          · have hcq : wr.cell? ⟨W2.heap.size, q, none⟩ = some (.bool (has.getD q false)) := by
              refine cell_stays hB ?_
              have : q < has.length := by omega
              simp [World.cell?, HO.out, this, List.getD]
            have hq1 : (q : Int) < 256 := by omega
            have hq0 : (0 : Int) ≤ (q : Int) := by omega
            have hpk : pickS has (q + 1) = if has.getD q false = true then pickS has q ++ [(q : Int)] else pickS has q := by
              unfold pickS
              rw [List.range_succ, List.filter_append, List.map_append]
              simp only [List.filter_cons, List.filter_nil]
              by_cases h : has.getD q false = true
              · rw [if_pos h, if_pos h]; rfl
              · rw [if_neg h, if_neg h]; simp
            have hpl : (pickS has q).length ≤ q := by
              unfold pickS
              rw [List.length_map]
              exact Nat.le_trans (List.length_filter_le _ _) (by simp)
            have Hpk := hid hpk
            clear hB hI hpk
            cases hv : has.getD q false with
            | false =>
              rw [hv] at hcq
              have Hv := hid hv
              clear hv
              go_wp2
              go_roundw
              case rel => exact ⟨q + 1, by omega, by go_num, HBq.out, by rw [Hpk.out, if_neg (by rw [Hv.out]; simp)]; exact HI.out⟩
              case measure => simp [intOf]; omega
            | true =>
              rw [hv] at hcq
              have Hv := hid hv
              clear hv
              go_wp2_with (at_builtin; go_loud (refine wpList_append_int rfl _ _ rfl W5.heap.size u14 (pickS has q) (q : Int) wr.heap.size 1 rfl ?aown rfl ?acell ?alen ?abase ?arest))
              case aown => exact Ints_below HI.out (bA (Below.refl _ _) _)
              case acell => exact cell_one_new wr (.int .i64 q) 3 0 _ rfl
              case alen => first | omega | (simp; omega)
              case abase => first | omega | (simp; omega)
              case arest =>
                intro v' w5 h1 h2 h3
                go_wp2
                go_roundw
                case rel =>
                  refine ⟨q + 1, by omega, by go_num, ?_, by rw [Hpk.out, if_pos Hv.out]; exact h1⟩
                  exact Below.grown (HBq.out.alloc hbq _) h2 (by simp; omega) fun g hg => HI.out.2.elim (fun h => by rw [h.1] at hg; cases hg) fun ⟨g', _, _, e, hle, _⟩ => by rw [e] at hg; cases hg; exact hle
                case measure => simp [intOf]; omega
          · obtain rfl : q = 256 := by omega
            go_wp2
            go_ret
            exact ⟨u14, rfl, HB2.out.trans ((HB.out.trans (HBq.out.mono HB.out.size)).mono hbs2), by rw [Hhas.out]; exact Ints_base' HI.out (Nat.zero_le _)⟩
set_option maxRecDepth 10000 in
set_option maxHeartbeats 8000000 in
theorem refWrites_36_no (v0 v1 v3 v4 v5 : Value) (p : Option Addr) (len cap : Nat) (ws : Nat → Int) (a : Nat) (ha : a < len) (w : World) (hw : Wds w.heap.size w p len ws) (he0 : eS (ws a) = 0) (hop : opS (ws a) = 36)
    (R : List Bool) (hRl : R.length = len) (b1 : Bool) (zz : Int) (hz1 : postS (nxW len ws) len a ≠ -1) (hzz : zz = postS (nxW len ws) len a) (k0 : Nat) (hk0 : k0 ≤ 10000) (hR : refF (nxW len ws) len zz k0 (nxW len ws a) (List.replicate (len + 1) false) = some (R ++ [b1])) :
    Calls Try.prog 31 #[.agg #[v0, v1, .slice p len cap, v3, v4, v5], .int .i64 a] w fun e w' => ∃ v, e = .returned v ∧ Below w.heap.size w w' ∧ Ints 0 w' v (pickS (hasW ws R len) 256) := by
  obtain ⟨iB, hiB, zB0, zB1, zB2⟩ := info_parts Try.infoB
  have hl := hw.few
  have ha1 : (a : Int) < (len : Int) := by omega
  have ha0 : (0 : Int) ≤ (a : Int) := by omega
  obtain ⟨bp, op, rfl, hbp, hcp⟩ := hw.lie (by omega)
  have hcpa := hcp a ha
  obtain ⟨b', c', hdec, _⟩ := dec_full (ws a)
  have hda := fun w => refDec_any (ws a) (hw.wf a ha).1 (hw.wf a ha).2 w
  rw [hdec, he0, hop] at hda
  simp only [insV] at hda
  have Hda := hid hda
  have Hw := hid hw
  have HR := hid hR
  have HRl := hid hRl
  clear hw he0 hop hdec hda hcp hR hRl
  obtain ⟨RR, hRR⟩ : ∃ RR, RR = R ++ [b1] := ⟨_, rfl⟩
  have HRR := hid hRR
  clear hRR
  have Hpo : Hid (∀ w1, Below w.heap.size w w1 → Calls Try.prog 47 #[.agg #[v0, v1, .slice (some ⟨bp, op, none⟩) len cap, v3, v4, v5], .int .i64 a] w1 fun e w' => e = .returned (.int .i64 (postS (nxW len ws) len a)) ∧ Below w1.heap.size w1 w') :=
    hid fun w1 h => post_any v0 v1 v3 v4 v5 _ len cap ws a ha w1 (Hw.out.up h h.size)
  generalize postS (nxW len ws) len a = z at *
  subst hzz
  have hz2 : (zz == -1) = false := by simpa using hz1
  go_enter Try.func31, Try.ntmps31
  go_wp2_with (first
    | (go_at_call 20; refine (Hda.out _).mono ?_; rintro e w' ⟨rfl, hb⟩; obtain ⟨g1, rfl⟩ := bout hb; clear hb)
    | (go_at_call 47; refine (Hpo.out _ (by repeat (first | exact Below.refl _ _ | refine bG ?_ _ | refine bI ?_ _ _ | refine bA ?_ _))).mono ?_; rintro e w' ⟨rfl, hb⟩; obtain ⟨g2, rfl⟩ := bout hb; clear hb))
  have hB1 : Below w.heap.size w (grow ((grow (w.alloc (.cells #[v0, v1, .slice (some ⟨bp, op, none⟩) len cap, v3, v4, v5] 48)) g1).alloc (.cells #[.int .i64 36, .int .i64 (aS (ws a)), .int .i64 b', .int .i64 c', .int .i64 (fdS (ws a))] 23)) g2) := bG (bA (bG (bA (Below.refl _ _) _) _) _) _
  have hP : (grow ((grow (w.alloc (.cells #[v0, v1, .slice (some ⟨bp, op, none⟩) len cap, v3, v4, v5] 48)) g1).alloc (.cells #[.int .i64 36, .int .i64 (aS (ws a)), .int .i64 b', .int .i64 c', .int .i64 (fdS (ws a))] 23)) g2).heap[w.heap.size]? = some (.cells #[v0, v1, .slice (some ⟨bp, op, none⟩) len cap, v3, v4, v5] 48 (0, 0)) := by
    rw [heap_grow _ _ _ (by simp; omega), heap_alloc_old _ _ (by simp; omega), heap_grow _ _ _ (by simp)]; exact heap_alloc_new _ _
  generalize grow ((grow (w.alloc (.cells #[v0, v1, .slice (some ⟨bp, op, none⟩) len cap, v3, v4, v5] 48)) g1).alloc (.cells #[.int .i64 36, .int .i64 (aS (ws a)), .int .i64 b', .int .i64 c', .int .i64 (fdS (ws a))] 23)) g2 = W1 at *
  have hbs1 := hB1.size
  have hW1 := Hw.out.up hB1 hbs1
  have Hn : Hid (∀ w1, Below W1.heap.size W1 w1 → Calls Try.prog 25 #[.agg #[v0, v1, .slice (some ⟨bp, op, none⟩) len cap, v3, v4, v5], .int .i64 a] w1 fun e w' => ∃ v, e = .returned v ∧ Below w1.heap.size w1 w' ∧ Ints w1.heap.size w' v (nxW len ws a)) :=
    hid fun w1 h => (hW1.up h h.size).refNext v0 v1 v3 v4 v5 cap a ha (Nat.le_refl _)
  have Hfrom : Hid (∀ (w1 : World) (tv : Value), Below W1.heap.size W1 w1 → Ints 0 w1 tv (nxW len ws a) → Calls Try.prog 49 #[.agg #[v0, v1, .slice (some ⟨bp, op, none⟩) len cap, v3, v4, v5], tv, .int .i64 zz] w1 fun e w' => ∃ v, e = .returned v ∧ Below w1.heap.size w1 w' ∧ w'.ownsRow w1.heap.size 4 1 v (len + 1) (RR.map Value.bool)) :=
    hid fun w1 tv h hT => by
      have hw1 := hW1.below h
      obtain ⟨bq, oq, hpq, hbq, hcq⟩ := hw1.lie (by omega)
      cases hpq
      have hs1 := h.size
      exact reach_any v0 v1 v3 v4 v5 bp op len cap 0 ws hw1.wf hl w1 (by omega) hcq tv (nxW len ws a) (nextS_ne len (ws a) a) hT (nextS_in len (ws a) a) zz k0 RR (by have := nextS_len len (ws a) a; show (nextS len (ws a) a).length + k0 ≤ 100000; omega) (by rw [HRR.out]; exact HR.out)
  have HB1 := hid hB1
  have HP := hid hP
  have HW1 := hid hW1
  clear hB1 hP hW1
  generalize nxW len ws a = L at *
  refine Am.draw_phi (Φ := phiV (.agg #[v0, v1, .slice (some ⟨bp, op, none⟩) len cap, v3, v4, v5]) W1.heap.size a len L zz RR) (by kernel_rfl) (by kernel_rfl) (by kernel_rfl) phiV_below ?_ ?_
  · intro k o ca w1 ho hb hlook K hK
    have hb0 : Below W1.heap.size W1 w1 := hb.trans (Below.refl _ _)
    have hP1 : w1.heap[w.heap.size]? = some (.cells #[v0, v1, .slice (some ⟨bp, op, none⟩) len cap, v3, v4, v5] 48 (0, 0)) := (hb0.block _ (Array.getElem?_eq_some_iff.1 HP.out).1).trans HP.out
    have hfn : ∀ f, ca.eval (.func f) = .func (.func f) #[] #[] := fun _ => rfl
    have hcs : ∀ v, ca.eval (.const v) = v := fun _ => rfl
    rcases k with _ | _ | _ | _ | _ | _ | _ | k
    · cases ho
      have h2 := Am.eval_tmp (Am.look_old (t := 2) hlook (by kernel_rfl) (by kernel_rfl) rfl)
      have hc0 : w1.cell? ⟨w.heap.size, 0, none⟩ = some (v0) := by simp [World.cell?, hP1]
      have hc1 : w1.cell? ⟨w.heap.size, 1, none⟩ = some (v1) := by simp [World.cell?, hP1]
      have hc2 : w1.cell? ⟨w.heap.size, 2, none⟩ = some (.slice (some ⟨bp, op, none⟩) len cap) := by simp [World.cell?, hP1]
      have hc3 : w1.cell? ⟨w.heap.size, 3, none⟩ = some (v3) := by simp [World.cell?, hP1]
      have hc4 : w1.cell? ⟨w.heap.size, 4, none⟩ = some (v4) := by simp [World.cell?, hP1]
      have hc5 : w1.cell? ⟨w.heap.size, 5, none⟩ = some (v5) := by simp [World.cell?, hP1]
      refine Am.wpOp_run rfl rfl (Am.wp_value (v := .agg #[v0, v1, .slice (some ⟨bp, op, none⟩) len cap, v3, v4, v5]) ?_ (hK _ _ (Below.refl _ _) rfl))
      generalize ca.eval = ev at *
      simp [go_sem, execOp, hfn, hcs, h2, hc0, hc1, hc2, hc3, hc4, hc5]
    · cases ho
      have h2 := Am.eval_tmp (Am.look_old (t := 2) hlook (by kernel_rfl) (by kernel_rfl) rfl)
      have hc0 : w1.cell? ⟨w.heap.size, 0, none⟩ = some (v0) := by simp [World.cell?, hP1]
      have hc1 : w1.cell? ⟨w.heap.size, 1, none⟩ = some (v1) := by simp [World.cell?, hP1]
      have hc2 : w1.cell? ⟨w.heap.size, 2, none⟩ = some (.slice (some ⟨bp, op, none⟩) len cap) := by simp [World.cell?, hP1]
      have hc3 : w1.cell? ⟨w.heap.size, 3, none⟩ = some (v3) := by simp [World.cell?, hP1]
      have hc4 : w1.cell? ⟨w.heap.size, 4, none⟩ = some (v4) := by simp [World.cell?, hP1]
      have hc5 : w1.cell? ⟨w.heap.size, 5, none⟩ = some (v5) := by simp [World.cell?, hP1]
      refine Am.wpOp_run rfl rfl (Am.wp_value (v := .agg #[v0, v1, .slice (some ⟨bp, op, none⟩) len cap, v3, v4, v5]) ?_ (hK _ _ (Below.refl _ _) rfl))
      generalize ca.eval = ev at *
      simp [go_sem, execOp, hfn, hcs, h2, hc0, hc1, hc2, hc3, hc4, hc5]
    · cases ho
      have h1 := Am.eval_tmp (Am.look_old (t := 1) hlook (by kernel_rfl) (by kernel_rfl) rfl)
      refine Am.wpOp_run rfl rfl (Am.wp_value (v := .int .i64 a) ?_ (hK _ _ (Below.refl _ _) rfl))
      generalize ca.eval = ev at *
      simp [go_sem, execOp, hfn, hcs, h1]
    · cases ho
      have h53 : (ca.tmps.getD 53 undef) = (.agg #[v0, v1, .slice (some ⟨bp, op, none⟩) len cap, v3, v4, v5]) := Am.look_of (j := 1) hlook (by kernel_rfl) rfl rfl
      replace h53 := Am.eval_tmp h53
      have h54 : (ca.tmps.getD 54 undef) = .int .i64 a := Am.look_of (j := 2) hlook (by kernel_rfl) rfl rfl
      replace h54 := Am.eval_tmp h54
      refine Am.wpOp_run rfl rfl (Am.wp_enter (w' := w1) (f := 25) (args := #[.agg #[v0, v1, .slice (some ⟨bp, op, none⟩) len cap, v3, v4, v5], .int .i64 a]) ?_ ((Hn.out w1 hb0).mono ?_))
      · generalize ca.eval = ev at *
        simp [go_sem, execOp, hfn, hcs, h53, h54]
      · rintro e w' ⟨v, rfl, hb', hi⟩
        exact ⟨_, rfl, hK _ _ hb' (Ints_base' hi (Nat.zero_le _))⟩
    · cases ho
      have h7 := Am.eval_tmp (Am.look_old (t := 7) hlook (by kernel_rfl) (by kernel_rfl) rfl)
      refine Am.wpOp_run rfl rfl (Am.wp_value (v := .int .i64 zz) ?_ (hK _ _ (Below.refl _ _) rfl))
      generalize ca.eval = ev at *
      simp [go_sem, execOp, hfn, hcs, h7]
    · cases ho
      have h52 : (ca.tmps.getD 52 undef) = (.agg #[v0, v1, .slice (some ⟨bp, op, none⟩) len cap, v3, v4, v5]) := Am.look_of (j := 0) hlook (by kernel_rfl) rfl rfl
      replace h52 := Am.eval_tmp h52
      have h55 : Ints 0 w1 (ca.tmps.getD 55 undef) L := Am.look_of (j := 3) hlook (by kernel_rfl) rfl rfl
      have e55 : ca.eval (.tmp 55) = ca.tmps.getD 55 undef := rfl
      generalize ca.tmps.getD 55 undef = x55 at *
      have h56 : (ca.tmps.getD 56 undef) = .int .i64 zz := Am.look_of (j := 4) hlook (by kernel_rfl) rfl rfl
      replace h56 := Am.eval_tmp h56
      refine Am.wpOp_run rfl rfl (Am.wp_enter (w' := w1) (f := 49) (args := #[.agg #[v0, v1, .slice (some ⟨bp, op, none⟩) len cap, v3, v4, v5], x55, .int .i64 zz]) ?_ ((Hfrom.out w1 _ hb0 h55).mono ?_))
      · generalize ca.eval = ev at *
        simp [go_sem, execOp, hfn, hcs, h52, e55, h56]
      · rintro e w' ⟨v, rfl, hb', hi⟩
        exact ⟨_, rfl, hK _ _ hb' (own_base hi hb0.size)⟩
    · cases ho
      have h57 : w1.ownsRow W1.heap.size 4 1 (ca.tmps.getD 57 undef) (len + 1) (RR.map Value.bool) := Am.look_of (j := 5) hlook (by kernel_rfl) rfl rfl
      have e57 : ca.eval (.tmp 57) = ca.tmps.getD 57 undef := rfl
      generalize ca.tmps.getD 57 undef = x57 at *
      refine Am.wpOp_run rfl rfl (Am.wp_value (v := x57) ?_ (hK _ _ (Below.refl _ _) h57))
      generalize ca.eval = ev at *
      simp [go_sem, execOp, hfn, hcs, e57]
    · simp at ho
  · intro ca w1 hb hd hs hphi hoth
    have h51 : w1.ownsRow W1.heap.size 4 1 (ca.tmps.getD 8 undef) (len + 1) (RR.map Value.bool) := hphi 6 _ 8 rfl rfl
    have hca := frame_out hd hs hoth
    simp only [List.foldl_cons, List.foldl_nil] at hca
    generalize ca.tmps.getD 52 undef = x52 at hca
    generalize ca.tmps.getD 53 undef = x53 at hca
    generalize ca.tmps.getD 54 undef = x54 at hca
    generalize ca.tmps.getD 55 undef = x55 at hca
    generalize ca.tmps.getD 56 undef = x56 at hca
    generalize ca.tmps.getD 57 undef = x57 at hca
    generalize ca.tmps.getD 8 undef = x8 at hca h51
    subst hca
    simp only [List.setIfInBounds_toArray, List.set_cons_succ, List.set_cons_zero]
    have hb0 : Below W1.heap.size W1 w1 := hb.trans (Below.refl _ _)
    clear hb hd hs hphi hoth
    generalize w1 = W2 at *
    have hP2 := (hb0.block _ (Array.getElem?_eq_some_iff.1 HP.out).1).trans HP.out
    have hB2 : Below w.heap.size w W2 := HB1.out.trans (hb0.mono hbs1)
    have hbs2 := hB2.size
    have hs12 := hb0.size
    have hW2 := HW1.out.below hb0
    have hRRl : RR.length = len + 1 := by rw [HRR.out]; simp [HRl.out]
    obtain ⟨g, bc, rfl, _, hgl, hrow⟩ := bools_at hRRl h51
    have hrow2 : ∀ i, i < len → W2.cell? ⟨g, i, none⟩ = some (.bool (R.getD i false)) := fun i hi => by
      rw [hrow i (by omega), HRR.out]
      simp [List.getD, List.getElem?_append_left, HRl.out, hi]
    have HB2 := hid hB2
    have HP2 := hid hP2
    have HW2 := hid hW2
    have Hrow := hid hrow2
    clear hB2 hP2 hW2 h51 hrow hrow2 HP HB1 HW1 Hn Hfrom hb0 hRRl
    go_wp2_with (refine wpList_make_full _ rfl _ _ 54 rfl W2.heap.size 4 iB (.bool false) 1 Try.underlying54 hiB zB0 zB1 .i64 .i64 _ _ 256 rfl rfl rfl rfl ?_ ?_ ?_ ?_)
    · rw [zB2]; omega
    · unfold maxLen; omega
    · exact Nat.le_refl _
    intro w3 hO hG
    obtain ⟨g5, rfl⟩ := make_out hO hG (by simp)
    clear hO hG
    obtain ⟨hs0, hhs0⟩ : ∃ hs0, hs0 = hasW ws R 0 := ⟨_, rfl⟩
    have hmade : madeCells #[Value.bool false] 256 = (hs0.map Value.bool).toArray := by
      rw [hhs0]; apply Array.toList_inj.1; rw [toList_madeCells_one]
      show _ = (List.replicate 256 false).map Value.bool
      rw [List.map_replicate]
    rw [hmade]
    clear hmade
    have hb3 : Below W2.heap.size W2 (grow (W2.alloc (.cells (hs0.map Value.bool).toArray 4)) g5) := by
      repeat (first | exact Below.refl _ _ | refine bG ?_ _ | refine bI ?_ _ _ | refine bA ?_ _)
    have hO3 : (grow (W2.alloc (.cells (hs0.map Value.bool).toArray 4)) g5).heap[W2.heap.size]? = some (.cells (hs0.map Value.bool).toArray 4 (0, 0)) := by
      rw [heap_grow _ _ _ (by simp)]; exact heap_alloc_new _ _
    have hc23 : (grow (W2.alloc (.cells (hs0.map Value.bool).toArray 4)) g5).cell? ⟨w.heap.size, 2, none⟩ = some (.slice (some ⟨bp, op, none⟩) len cap) := by
      simp [World.cell?, (hb3.block _ (Array.getElem?_eq_some_iff.1 HP2.out).1).trans HP2.out]
    generalize grow (W2.alloc (.cells (hs0.map Value.bool).toArray 4)) g5 = W3 at *
    rw [hhs0] at hO3
    have Hb3 := hid hb3
    have HO3 := hid hO3
    clear hb3 hO3 hhs0
    go_wp2
    go_loopw [62] (fun i wr => ∃ k : Nat, k ≤ len ∧ i = .int .i64 k ∧ Below W2.heap.size W2 wr ∧ wr.heap[W2.heap.size]? = some (.cells ((hasW ws R k).map Value.bool).toArray 4 (0, 0))) (fun i _ => len - (intOf i).toNat)
    case atStart => exact ⟨0, by omega, rfl, Hb3.out, HO3.out⟩
    case round =>
      clear hc23
      obtain ⟨k, hk, rfl, hB, hO⟩ := hrel
      have hbs := hB.size
      by_cases hlt : k < len
      · have hk1 : (k : Int) < (len : Int) := by omega
        have hk2 : (k : Int) < (len : Int) + 1 := by omega
        have hk0' : (0 : Int) ≤ (k : Int) := by omega
        have hcb := cell_stays hB (Hrow.out k hlt)
        obtain ⟨bq, oq, hpq, hbq, hcq⟩ := (HW2.out.below (hB.mono (by omega))).lie (by omega)
        cases hpq
        have hcw := hcq k hlt
        have hbpl : bp < wr.heap.size := by omega
        have hgl2 : g < wr.heap.size := by omega
        have hOl := (Array.getElem?_eq_some_iff.1 hO).1
        obtain ⟨b2, c2, hdec, hcase⟩ := dec_full (ws k)
        have hda := fun w => refDec_any (ws k) (Hw.out.wf k hlt).1 (Hw.out.wf k hlt).2 w
        rw [hdec] at hda
        simp only [insV] at hda
        have Hdk := hid hda
        have Hcase := hid hcase
        have HB := hid hB
        have HO := hid hO
        clear hB hO hcq hdec hda hcase
        cases hRk : R.getD k false with
        | false =>
          rw [hRk] at hcb
          have Hno : Hid (hasW ws R (k + 1) = hasW ws R k) := hid (by show (if _ then _ else _) = _; rw [hRk]; simp)
          clear hRk
          go_wp2_with (go_at_call 20; refine (Hdk.out _).mono ?_; rintro e w' ⟨rfl, hb⟩; obtain ⟨g6, rfl⟩ := bout hb; clear hb)
          go_roundw
          case rel =>
            refine ⟨k + 1, by omega, by go_num, HB.out.trans ((bA (bG (Below.refl _ _) _) _).mono hbs), ?_⟩
            rw [Hno.out, heap_alloc_old _ _ (by simp; omega), heap_grow _ _ _ hOl]
            exact HO.out
          case measure => simp [intOf]; omega
        | true =>
          rw [hRk] at hcb
          rcases Hcase.out with ⟨he, hn0, hn1, ha0', ha1', _⟩ | he
          · rw [he] at Hdk
            obtain ⟨n, hn⟩ : ∃ n : Nat, opS (ws k) = n := ⟨(opS (ws k)).toNat, by omega⟩
            obtain ⟨av, hav⟩ : ∃ n : Nat, aS (ws k) = n := ⟨(aS (ws k)).toNat, by omega⟩
            have hnm := fun W => wr51_any n (by omega) W
            have hwC : wC (ws k) = wrN n := by unfold wC; rw [he, hn]; simp
            have hav2 : av < 256 := by omega
            rw [hn, hav] at Hdk
            have Hnm := hid hnm
            have HwC := hid hwC
            have Hav := hid hav
            clear hnm hwC hn he ha0' ha1' hn0 hn1 hav
            generalize wrN n = bw at *
            cases bw with
            | false =>
              have Hno : Hid (hasW ws R (k + 1) = hasW ws R k) := hid (by show (if _ then _ else _) = _; rw [hRk, HwC.out]; simp)
              clear hRk
              go_wp2_with (first
                | (go_at_call 20; refine (Hdk.out _).mono ?_; rintro e w' ⟨rfl, hb⟩; obtain ⟨g6, rfl⟩ := bout hb; clear hb)
                | (go_at_call 51; refine (Hnm.out _).mono ?_; rintro e w' ⟨rfl, hb⟩; obtain ⟨g7, rfl⟩ := bout hb; clear hb))
              go_roundw
              case rel =>
                refine ⟨k + 1, by omega, by go_num, HB.out.trans ((bG (bA (bG (Below.refl _ _) _) _) _).mono hbs), ?_⟩
                rw [Hno.out, heap_grow _ _ _ (by simp; omega), heap_alloc_old _ _ (by simp; omega), heap_grow _ _ _ hOl]
                exact HO.out
              case measure => simp [intOf]; omega
            | true =>
              have Hyes : Hid (hasW ws R (k + 1) = (hasW ws R k).set av true) := hid (by show (if _ then _ else _) = _; rw [hRk, HwC.out, Hav.out]; simp)
              have hhl := hasW_len ws R k
              have hcell : ∃ u, wr.cell? ⟨W2.heap.size, av, none⟩ = some u := by
                have : av < (hasW ws R k).length := by omega
                simp [World.cell?, HO.out, this]
              obtain ⟨u0, hco⟩ := hcell
              have hfo : wr.frozen? ⟨W2.heap.size, av, none⟩ = false := by simp [World.frozen?, HO.out]
              have hav3 : (av : Int) < 256 := by omega
              have hav4 : (0 : Int) ≤ (av : Int) := by omega
              clear hRk
              go_wp2_with (first
                | (go_at_call 20; refine (Hdk.out _).mono ?_; rintro e w' ⟨rfl, hb⟩; obtain ⟨g6, rfl⟩ := bout hb; clear hb)
                | (go_at_call 51; refine (Hnm.out _).mono ?_; rintro e w' ⟨rfl, hb⟩; obtain ⟨g7, rfl⟩ := bout hb; clear hb))
              go_roundw
              case rel =>
                have hsz : (wr.setCell ⟨W2.heap.size, av, none⟩ (.bool true)).heap.size = wr.heap.size := by simp [World.setCell]
                refine ⟨k + 1, by omega, by go_num, (HB.out.setCell (Nat.le_refl _) _).trans ((bG (bA (bG (Below.refl _ _) _) _) _).mono (by rw [hsz]; exact hbs)), ?_⟩
                rw [Hyes.out, heap_grow _ _ _ (by simp [World.setCell]; omega), heap_alloc_old _ _ (by simp [World.setCell]; omega), heap_grow _ _ _ (by rw [hsz]; exact hOl)]
                rw [List.map_set]
                exact set_heap HO.out
              case measure => simp [intOf]; omega
          · rw [he] at Hdk
            have Hno : Hid (hasW ws R (k + 1) = hasW ws R k) := hid (by show (if _ then _ else _) = _; rw [hRk]; unfold wC; rw [he]; simp)
            clear hRk he
            go_wp2_with (go_at_call 20; refine (Hdk.out _).mono ?_; rintro e w' ⟨rfl, hb⟩; obtain ⟨g6, rfl⟩ := bout hb; clear hb)
            go_roundw
            case rel =>
              refine ⟨k + 1, by omega, by go_num, HB.out.trans ((bA (bG (Below.refl _ _) _) _).mono hbs), ?_⟩
              rw [Hno.out, heap_alloc_old _ _ (by simp; omega), heap_grow _ _ _ hOl]
              exact HO.out
            case measure => simp [intOf]; omega
      · obtain rfl : k = len := by omega
        have hhl := hasW_len ws R k
        rename World => W5
        have HB := hid hB
        have HO := hid hO
        clear hB hO
        generalize hhas : hasW ws R k = has at *
        have Hhas := hid hhas
        clear hhas
        go_wp2
        go_loopw [14, 92] (fun ov i wr => ∃ q : Nat, q ≤ 256 ∧ i = .int .i64 q ∧ Below W5.heap.size W5 wr ∧ Ints W5.heap.size wr ov (pickS has q)) (fun _ i _ => 256 - (intOf i).toNat)
        case atStart => exact ⟨0, by omega, rfl, Below.refl _ _, rfl, .inl ⟨rfl, rfl⟩⟩
        case round =>
          obtain ⟨q, hq, rfl, hB, hI⟩ := hrel
          have hbq := hB.size
          have HI := hid hI
          have HBq := hid hB
          by_cases hlt2 : q < 256
          · have hcq : wr.cell? ⟨W2.heap.size, q, none⟩ = some (.bool (has.getD q false)) := by
              refine cell_stays hB ?_
              have : q < has.length := by omega
              simp [World.cell?, HO.out, this, List.getD]
            have hq1 : (q : Int) < 256 := by omega
            have hq0 : (0 : Int) ≤ (q : Int) := by omega
            have hpk : pickS has (q + 1) = if has.getD q false = true then pickS has q ++ [(q : Int)] else pickS has q := by
              unfold pickS
              rw [List.range_succ, List.filter_append, List.map_append]
              simp only [List.filter_cons, List.filter_nil]
              by_cases h : has.getD q false = true
              · rw [if_pos h, if_pos h]; rfl
              · rw [if_neg h, if_neg h]; simp
            have hpl : (pickS has q).length ≤ q := by
              unfold pickS
              rw [List.length_map]
              exact Nat.le_trans (List.length_filter_le _ _) (by simp)
            have Hpk := hid hpk
            clear hB hI hpk
            cases hv : has.getD q false with
            | false =>
              rw [hv] at hcq
              have Hv := hid hv
              clear hv
              go_wp2
              go_roundw
              case rel => exact ⟨q + 1, by omega, by go_num, HBq.out, by rw [Hpk.out, if_neg (by rw [Hv.out]; simp)]; exact HI.out⟩
              case measure => simp [intOf]; omega
            | true =>
              rw [hv] at hcq
              have Hv := hid hv
              clear hv
              go_wp2_with (at_builtin; go_loud (refine wpList_append_int rfl _ _ rfl W5.heap.size u14 (pickS has q) (q : Int) wr.heap.size 1 rfl ?aown rfl ?acell ?alen ?abase ?arest))
              case aown => exact Ints_below HI.out (bA (Below.refl _ _) _)
              case acell => exact cell_one_new wr (.int .i64 q) 3 0 _ rfl
              case alen => first | omega | (simp; omega)
              case abase => first | omega | (simp; omega)
              case arest =>
                intro v' w5 h1 h2 h3
                go_wp2
                go_roundw
                case rel =>
                  refine ⟨q + 1, by omega, by go_num, ?_, by rw [Hpk.out, if_pos Hv.out]; exact h1⟩
                  exact Below.grown (HBq.out.alloc hbq _) h2 (by simp; omega) fun g hg => HI.out.2.elim (fun h => by rw [h.1] at hg; cases hg) fun ⟨g', _, _, e, hle, _⟩ => by rw [e] at hg; cases hg; exact hle
                case measure => simp [intOf]; omega
          · obtain rfl : q = 256 := by omega
            go_wp2
            go_ret
            exact ⟨u14, rfl, HB2.out.trans ((HB.out.trans (HBq.out.mono HB.out.size)).mono hbs2), by rw [Hhas.out]; exact Ints_base' HI.out (Nat.zero_le _)⟩
set_option maxRecDepth 10000 in
set_option maxHeartbeats 8000000 in
theorem refWrites_36_is (v0 v1 v3 v4 v5 : Value) (p : Option Addr) (len cap : Nat) (ws : Nat → Int) (a : Nat) (ha : a < len) (w : World) (hw : Wds w.heap.size w p len ws) (he0 : eS (ws a) = 0) (hop : opS (ws a) = 36)
    (R : List Bool) (hRl : R.length = len) (b1 : Bool) (zz : Int) (hz1 : postS (nxW len ws) len a = -1) (hzz : zz = -2) (k0 : Nat) (hk0 : k0 ≤ 10000) (hR : refF (nxW len ws) len zz k0 (nxW len ws a) (List.replicate (len + 1) false) = some (R ++ [b1])) :
    Calls Try.prog 31 #[.agg #[v0, v1, .slice p len cap, v3, v4, v5], .int .i64 a] w fun e w' => ∃ v, e = .returned v ∧ Below w.heap.size w w' ∧ Ints 0 w' v (pickS (hasW ws R len) 256) := by
  obtain ⟨iB, hiB, zB0, zB1, zB2⟩ := info_parts Try.infoB
  have hl := hw.few
  have ha1 : (a : Int) < (len : Int) := by omega
  have ha0 : (0 : Int) ≤ (a : Int) := by omega
  obtain ⟨bp, op, rfl, hbp, hcp⟩ := hw.lie (by omega)
  have hcpa := hcp a ha
  obtain ⟨b', c', hdec, _⟩ := dec_full (ws a)
  have hda := fun w => refDec_any (ws a) (hw.wf a ha).1 (hw.wf a ha).2 w
  rw [hdec, he0, hop] at hda
  simp only [insV] at hda
  have Hda := hid hda
  have Hw := hid hw
  have HR := hid hR
  have HRl := hid hRl
  clear hw he0 hop hdec hda hcp hR hRl
  obtain ⟨RR, hRR⟩ : ∃ RR, RR = R ++ [b1] := ⟨_, rfl⟩
  have HRR := hid hRR
  clear hRR
  have Hpo : Hid (∀ w1, Below w.heap.size w w1 → Calls Try.prog 47 #[.agg #[v0, v1, .slice (some ⟨bp, op, none⟩) len cap, v3, v4, v5], .int .i64 a] w1 fun e w' => e = .returned (.int .i64 (postS (nxW len ws) len a)) ∧ Below w1.heap.size w1 w') :=
    hid fun w1 h => post_any v0 v1 v3 v4 v5 _ len cap ws a ha w1 (Hw.out.up h h.size)
  generalize postS (nxW len ws) len a = z at *
  subst hz1 hzz
  go_enter Try.func31, Try.ntmps31
  go_wp2_with (first
    | (go_at_call 20; refine (Hda.out _).mono ?_; rintro e w' ⟨rfl, hb⟩; obtain ⟨g1, rfl⟩ := bout hb; clear hb)
    | (go_at_call 47; refine (Hpo.out _ (by repeat (first | exact Below.refl _ _ | refine bG ?_ _ | refine bI ?_ _ _ | refine bA ?_ _))).mono ?_; rintro e w' ⟨rfl, hb⟩; obtain ⟨g2, rfl⟩ := bout hb; clear hb))
  have hB1 : Below w.heap.size w (grow ((grow (w.alloc (.cells #[v0, v1, .slice (some ⟨bp, op, none⟩) len cap, v3, v4, v5] 48)) g1).alloc (.cells #[.int .i64 36, .int .i64 (aS (ws a)), .int .i64 b', .int .i64 c', .int .i64 (fdS (ws a))] 23)) g2) := bG (bA (bG (bA (Below.refl _ _) _) _) _) _
  have hP : (grow ((grow (w.alloc (.cells #[v0, v1, .slice (some ⟨bp, op, none⟩) len cap, v3, v4, v5] 48)) g1).alloc (.cells #[.int .i64 36, .int .i64 (aS (ws a)), .int .i64 b', .int .i64 c', .int .i64 (fdS (ws a))] 23)) g2).heap[w.heap.size]? = some (.cells #[v0, v1, .slice (some ⟨bp, op, none⟩) len cap, v3, v4, v5] 48 (0, 0)) := by
    rw [heap_grow _ _ _ (by simp; omega), heap_alloc_old _ _ (by simp; omega), heap_grow _ _ _ (by simp)]; exact heap_alloc_new _ _
  generalize grow ((grow (w.alloc (.cells #[v0, v1, .slice (some ⟨bp, op, none⟩) len cap, v3, v4, v5] 48)) g1).alloc (.cells #[.int .i64 36, .int .i64 (aS (ws a)), .int .i64 b', .int .i64 c', .int .i64 (fdS (ws a))] 23)) g2 = W1 at *
  have hbs1 := hB1.size
  have hW1 := Hw.out.up hB1 hbs1
  have Hn : Hid (∀ w1, Below W1.heap.size W1 w1 → Calls Try.prog 25 #[.agg #[v0, v1, .slice (some ⟨bp, op, none⟩) len cap, v3, v4, v5], .int .i64 a] w1 fun e w' => ∃ v, e = .returned v ∧ Below w1.heap.size w1 w' ∧ Ints w1.heap.size w' v (nxW len ws a)) :=
    hid fun w1 h => (hW1.up h h.size).refNext v0 v1 v3 v4 v5 cap a ha (Nat.le_refl _)
  have Hfrom : Hid (∀ (w1 : World) (tv : Value), Below W1.heap.size W1 w1 → Ints 0 w1 tv (nxW len ws a) → Calls Try.prog 49 #[.agg #[v0, v1, .slice (some ⟨bp, op, none⟩) len cap, v3, v4, v5], tv, .int .i64 (-2)] w1 fun e w' => ∃ v, e = .returned v ∧ Below w1.heap.size w1 w' ∧ w'.ownsRow w1.heap.size 4 1 v (len + 1) (RR.map Value.bool)) :=
    hid fun w1 tv h hT => by
      have hw1 := hW1.below h
      obtain ⟨bq, oq, hpq, hbq, hcq⟩ := hw1.lie (by omega)
      cases hpq
      have hs1 := h.size
      exact reach_any v0 v1 v3 v4 v5 bp op len cap 0 ws hw1.wf hl w1 (by omega) hcq tv (nxW len ws a) (nextS_ne len (ws a) a) hT (nextS_in len (ws a) a) (-2) k0 RR (by have := nextS_len len (ws a) a; show (nextS len (ws a) a).length + k0 ≤ 100000; omega) (by rw [HRR.out]; exact HR.out)
  have HB1 := hid hB1
  have HP := hid hP
  have HW1 := hid hW1
  clear hB1 hP hW1
  generalize nxW len ws a = L at *
  refine Am.draw_phi (Φ := phiV (.agg #[v0, v1, .slice (some ⟨bp, op, none⟩) len cap, v3, v4, v5]) W1.heap.size a len L (-2) RR) (by kernel_rfl) (by kernel_rfl) (by kernel_rfl) phiV_below ?_ ?_
  · intro k o ca w1 ho hb hlook K hK
    have hb0 : Below W1.heap.size W1 w1 := hb.trans (Below.refl _ _)
    have hP1 : w1.heap[w.heap.size]? = some (.cells #[v0, v1, .slice (some ⟨bp, op, none⟩) len cap, v3, v4, v5] 48 (0, 0)) := (hb0.block _ (Array.getElem?_eq_some_iff.1 HP.out).1).trans HP.out
    have hfn : ∀ f, ca.eval (.func f) = .func (.func f) #[] #[] := fun _ => rfl
    have hcs : ∀ v, ca.eval (.const v) = v := fun _ => rfl
    rcases k with _ | _ | _ | _ | _ | _ | _ | k
    · cases ho
      have h2 := Am.eval_tmp (Am.look_old (t := 2) hlook (by kernel_rfl) (by kernel_rfl) rfl)
      have hc0 : w1.cell? ⟨w.heap.size, 0, none⟩ = some (v0) := by simp [World.cell?, hP1]
      have hc1 : w1.cell? ⟨w.heap.size, 1, none⟩ = some (v1) := by simp [World.cell?, hP1]
      have hc2 : w1.cell? ⟨w.heap.size, 2, none⟩ = some (.slice (some ⟨bp, op, none⟩) len cap) := by simp [World.cell?, hP1]
      have hc3 : w1.cell? ⟨w.heap.size, 3, none⟩ = some (v3) := by simp [World.cell?, hP1]
      have hc4 : w1.cell? ⟨w.heap.size, 4, none⟩ = some (v4) := by simp [World.cell?, hP1]
      have hc5 : w1.cell? ⟨w.heap.size, 5, none⟩ = some (v5) := by simp [World.cell?, hP1]
      refine Am.wpOp_run rfl rfl (Am.wp_value (v := .agg #[v0, v1, .slice (some ⟨bp, op, none⟩) len cap, v3, v4, v5]) ?_ (hK _ _ (Below.refl _ _) rfl))
      generalize ca.eval = ev at *
      simp [go_sem, execOp, hfn, hcs, h2, hc0, hc1, hc2, hc3, hc4, hc5]
    · cases ho
      have h2 := Am.eval_tmp (Am.look_old (t := 2) hlook (by kernel_rfl) (by kernel_rfl) rfl)
      have hc0 : w1.cell? ⟨w.heap.size, 0, none⟩ = some (v0) := by simp [World.cell?, hP1]
      have hc1 : w1.cell? ⟨w.heap.size, 1, none⟩ = some (v1) := by simp [World.cell?, hP1]
      have hc2 : w1.cell? ⟨w.heap.size, 2, none⟩ = some (.slice (some ⟨bp, op, none⟩) len cap) := by simp [World.cell?, hP1]
      have hc3 : w1.cell? ⟨w.heap.size, 3, none⟩ = some (v3) := by simp [World.cell?, hP1]
      have hc4 : w1.cell? ⟨w.heap.size, 4, none⟩ = some (v4) := by simp [World.cell?, hP1]
      have hc5 : w1.cell? ⟨w.heap.size, 5, none⟩ = some (v5) := by simp [World.cell?, hP1]
      refine Am.wpOp_run rfl rfl (Am.wp_value (v := .agg #[v0, v1, .slice (some ⟨bp, op, none⟩) len cap, v3, v4, v5]) ?_ (hK _ _ (Below.refl _ _) rfl))
      generalize ca.eval = ev at *
      simp [go_sem, execOp, hfn, hcs, h2, hc0, hc1, hc2, hc3, hc4, hc5]
    · cases ho
      have h1 := Am.eval_tmp (Am.look_old (t := 1) hlook (by kernel_rfl) (by kernel_rfl) rfl)
      refine Am.wpOp_run rfl rfl (Am.wp_value (v := .int .i64 a) ?_ (hK _ _ (Below.refl _ _) rfl))
      generalize ca.eval = ev at *
      simp [go_sem, execOp, hfn, hcs, h1]
    · cases ho
      have h53 : (ca.tmps.getD 53 undef) = (.agg #[v0, v1, .slice (some ⟨bp, op, none⟩) len cap, v3, v4, v5]) := Am.look_of (j := 1) hlook (by kernel_rfl) rfl rfl
      replace h53 := Am.eval_tmp h53
      have h54 : (ca.tmps.getD 54 undef) = .int .i64 a := Am.look_of (j := 2) hlook (by kernel_rfl) rfl rfl
      replace h54 := Am.eval_tmp h54
      refine Am.wpOp_run rfl rfl (Am.wp_enter (w' := w1) (f := 25) (args := #[.agg #[v0, v1, .slice (some ⟨bp, op, none⟩) len cap, v3, v4, v5], .int .i64 a]) ?_ ((Hn.out w1 hb0).mono ?_))
      · generalize ca.eval = ev at *
        simp [go_sem, execOp, hfn, hcs, h53, h54]
      · rintro e w' ⟨v, rfl, hb', hi⟩
        exact ⟨_, rfl, hK _ _ hb' (Ints_base' hi (Nat.zero_le _))⟩
    · cases ho
      have h7 := Am.eval_tmp (Am.look_old (t := 7) hlook (by kernel_rfl) (by kernel_rfl) rfl)
      refine Am.wpOp_run rfl rfl (Am.wp_value (v := .int .i64 (-2)) ?_ (hK _ _ (Below.refl _ _) rfl))
      generalize ca.eval = ev at *
      simp [go_sem, execOp, hfn, hcs, h7]
    · cases ho
      have h52 : (ca.tmps.getD 52 undef) = (.agg #[v0, v1, .slice (some ⟨bp, op, none⟩) len cap, v3, v4, v5]) := Am.look_of (j := 0) hlook (by kernel_rfl) rfl rfl
      replace h52 := Am.eval_tmp h52
      have h55 : Ints 0 w1 (ca.tmps.getD 55 undef) L := Am.look_of (j := 3) hlook (by kernel_rfl) rfl rfl
      have e55 : ca.eval (.tmp 55) = ca.tmps.getD 55 undef := rfl
      generalize ca.tmps.getD 55 undef = x55 at *
      have h56 : (ca.tmps.getD 56 undef) = .int .i64 (-2) := Am.look_of (j := 4) hlook (by kernel_rfl) rfl rfl
      replace h56 := Am.eval_tmp h56
      refine Am.wpOp_run rfl rfl (Am.wp_enter (w' := w1) (f := 49) (args := #[.agg #[v0, v1, .slice (some ⟨bp, op, none⟩) len cap, v3, v4, v5], x55, .int .i64 (-2)]) ?_ ((Hfrom.out w1 _ hb0 h55).mono ?_))
      · generalize ca.eval = ev at *
        simp [go_sem, execOp, hfn, hcs, h52, e55, h56]
      · rintro e w' ⟨v, rfl, hb', hi⟩
        exact ⟨_, rfl, hK _ _ hb' (own_base hi hb0.size)⟩
    · cases ho
      have h57 : w1.ownsRow W1.heap.size 4 1 (ca.tmps.getD 57 undef) (len + 1) (RR.map Value.bool) := Am.look_of (j := 5) hlook (by kernel_rfl) rfl rfl
      have e57 : ca.eval (.tmp 57) = ca.tmps.getD 57 undef := rfl
      generalize ca.tmps.getD 57 undef = x57 at *
      refine Am.wpOp_run rfl rfl (Am.wp_value (v := x57) ?_ (hK _ _ (Below.refl _ _) h57))
      generalize ca.eval = ev at *
      simp [go_sem, execOp, hfn, hcs, e57]
    · simp at ho
  · intro ca w1 hb hd hs hphi hoth
    have h51 : w1.ownsRow W1.heap.size 4 1 (ca.tmps.getD 8 undef) (len + 1) (RR.map Value.bool) := hphi 6 _ 8 rfl rfl
    have hca := frame_out hd hs hoth
    simp only [List.foldl_cons, List.foldl_nil] at hca
    generalize ca.tmps.getD 52 undef = x52 at hca
    generalize ca.tmps.getD 53 undef = x53 at hca
    generalize ca.tmps.getD 54 undef = x54 at hca
    generalize ca.tmps.getD 55 undef = x55 at hca
    generalize ca.tmps.getD 56 undef = x56 at hca
    generalize ca.tmps.getD 57 undef = x57 at hca
    generalize ca.tmps.getD 8 undef = x8 at hca h51
    subst hca
    simp only [List.setIfInBounds_toArray, List.set_cons_succ, List.set_cons_zero]
    have hb0 : Below W1.heap.size W1 w1 := hb.trans (Below.refl _ _)
    clear hb hd hs hphi hoth
    generalize w1 = W2 at *
    have hP2 := (hb0.block _ (Array.getElem?_eq_some_iff.1 HP.out).1).trans HP.out
    have hB2 : Below w.heap.size w W2 := HB1.out.trans (hb0.mono hbs1)
    have hbs2 := hB2.size
    have hs12 := hb0.size
    have hW2 := HW1.out.below hb0
    have hRRl : RR.length = len + 1 := by rw [HRR.out]; simp [HRl.out]
    obtain ⟨g, bc, rfl, _, hgl, hrow⟩ := bools_at hRRl h51
    have hrow2 : ∀ i, i < len → W2.cell? ⟨g, i, none⟩ = some (.bool (R.getD i false)) := fun i hi => by
      rw [hrow i (by omega), HRR.out]
      simp [List.getD, List.getElem?_append_left, HRl.out, hi]
    have HB2 := hid hB2
    have HP2 := hid hP2
    have HW2 := hid hW2
    have Hrow := hid hrow2
    clear hB2 hP2 hW2 h51 hrow hrow2 HP HB1 HW1 Hn Hfrom hb0 hRRl
    go_wp2_with (refine wpList_make_full _ rfl _ _ 54 rfl W2.heap.size 4 iB (.bool false) 1 Try.underlying54 hiB zB0 zB1 .i64 .i64 _ _ 256 rfl rfl rfl rfl ?_ ?_ ?_ ?_)
    · rw [zB2]; omega
    · unfold maxLen; omega
    · exact Nat.le_refl _
    intro w3 hO hG
    obtain ⟨g5, rfl⟩ := make_out hO hG (by simp)
    clear hO hG
    obtain ⟨hs0, hhs0⟩ : ∃ hs0, hs0 = hasW ws R 0 := ⟨_, rfl⟩
    have hmade : madeCells #[Value.bool false] 256 = (hs0.map Value.bool).toArray := by
      rw [hhs0]; apply Array.toList_inj.1; rw [toList_madeCells_one]
      show _ = (List.replicate 256 false).map Value.bool
      rw [List.map_replicate]
    rw [hmade]
    clear hmade
    have hb3 : Below W2.heap.size W2 (grow (W2.alloc (.cells (hs0.map Value.bool).toArray 4)) g5) := by
      repeat (first | exact Below.refl _ _ | refine bG ?_ _ | refine bI ?_ _ _ | refine bA ?_ _)
    have hO3 : (grow (W2.alloc (.cells (hs0.map Value.bool).toArray 4)) g5).heap[W2.heap.size]? = some (.cells (hs0.map Value.bool).toArray 4 (0, 0)) := by
      rw [heap_grow _ _ _ (by simp)]; exact heap_alloc_new _ _
    have hc23 : (grow (W2.alloc (.cells (hs0.map Value.bool).toArray 4)) g5).cell? ⟨w.heap.size, 2, none⟩ = some (.slice (some ⟨bp, op, none⟩) len cap) := by
      simp [World.cell?, (hb3.block _ (Array.getElem?_eq_some_iff.1 HP2.out).1).trans HP2.out]
    generalize grow (W2.alloc (.cells (hs0.map Value.bool).toArray 4)) g5 = W3 at *
    rw [hhs0] at hO3
    have Hb3 := hid hb3
    have HO3 := hid hO3
    clear hb3 hO3 hhs0
    go_wp2
    go_loopw [62] (fun i wr => ∃ k : Nat, k ≤ len ∧ i = .int .i64 k ∧ Below W2.heap.size W2 wr ∧ wr.heap[W2.heap.size]? = some (.cells ((hasW ws R k).map Value.bool).toArray 4 (0, 0))) (fun i _ => len - (intOf i).toNat)
    case atStart => exact ⟨0, by omega, rfl, Hb3.out, HO3.out⟩
    case round =>
      clear hc23
      obtain ⟨k, hk, rfl, hB, hO⟩ := hrel
      have hbs := hB.size
      by_cases hlt : k < len
      · have hk1 : (k : Int) < (len : Int) := by omega
        have hk2 : (k : Int) < (len : Int) + 1 := by omega
        have hk0' : (0 : Int) ≤ (k : Int) := by omega
        have hcb := cell_stays hB (Hrow.out k hlt)
        obtain ⟨bq, oq, hpq, hbq, hcq⟩ := (HW2.out.below (hB.mono (by omega))).lie (by omega)
        cases hpq
        have hcw := hcq k hlt
        have hbpl : bp < wr.heap.size := by omega
        have hgl2 : g < wr.heap.size := by omega
        have hOl := (Array.getElem?_eq_some_iff.1 hO).1
        obtain ⟨b2, c2, hdec, hcase⟩ := dec_full (ws k)
        have hda := fun w => refDec_any (ws k) (Hw.out.wf k hlt).1 (Hw.out.wf k hlt).2 w
        rw [hdec] at hda
        simp only [insV] at hda
        have Hdk := hid hda
        have Hcase := hid hcase
        have HB := hid hB
        have HO := hid hO
        clear hB hO hcq hdec hda hcase
        cases hRk : R.getD k false with
        | false =>
          rw [hRk] at hcb
          have Hno : Hid (hasW ws R (k + 1) = hasW ws R k) := hid (by show (if _ then _ else _) = _; rw [hRk]; simp)
          clear hRk
          go_wp2_with (go_at_call 20; refine (Hdk.out _).mono ?_; rintro e w' ⟨rfl, hb⟩; obtain ⟨g6, rfl⟩ := bout hb; clear hb)
          go_roundw
          case rel =>
            refine ⟨k + 1, by omega, by go_num, HB.out.trans ((bA (bG (Below.refl _ _) _) _).mono hbs), ?_⟩
            rw [Hno.out, heap_alloc_old _ _ (by simp; omega), heap_grow _ _ _ hOl]
            exact HO.out
          case measure => simp [intOf]; omega
        | true =>
          rw [hRk] at hcb
          rcases Hcase.out with ⟨he, hn0, hn1, ha0', ha1', _⟩ | he
          · rw [he] at Hdk
            obtain ⟨n, hn⟩ : ∃ n : Nat, opS (ws k) = n := ⟨(opS (ws k)).toNat, by omega⟩
            obtain ⟨av, hav⟩ : ∃ n : Nat, aS (ws k) = n := ⟨(aS (ws k)).toNat, by omega⟩
            have hnm := fun W => wr51_any n (by omega) W
            have hwC : wC (ws k) = wrN n := by unfold wC; rw [he, hn]; simp
            have hav2 : av < 256 := by omega
            rw [hn, hav] at Hdk
            have Hnm := hid hnm
            have HwC := hid hwC
            have Hav := hid hav
            clear hnm hwC hn he ha0' ha1' hn0 hn1 hav
            generalize wrN n = bw at *
            cases bw with
            | false =>
              have Hno : Hid (hasW ws R (k + 1) = hasW ws R k) := hid (by show (if _ then _ else _) = _; rw [hRk, HwC.out]; simp)
              clear hRk
              go_wp2_with (first
                | (go_at_call 20; refine (Hdk.out _).mono ?_; rintro e w' ⟨rfl, hb⟩; obtain ⟨g6, rfl⟩ := bout hb; clear hb)
                | (go_at_call 51; refine (Hnm.out _).mono ?_; rintro e w' ⟨rfl, hb⟩; obtain ⟨g7, rfl⟩ := bout hb; clear hb))
              go_roundw
              case rel =>
                refine ⟨k + 1, by omega, by go_num, HB.out.trans ((bG (bA (bG (Below.refl _ _) _) _) _).mono hbs), ?_⟩
                rw [Hno.out, heap_grow _ _ _ (by simp; omega), heap_alloc_old _ _ (by simp; omega), heap_grow _ _ _ hOl]
                exact HO.out
              case measure => simp [intOf]; omega
            | true =>
              have Hyes : Hid (hasW ws R (k + 1) = (hasW ws R k).set av true) := hid (by show (if _ then _ else _) = _; rw [hRk, HwC.out, Hav.out]; simp)
              have hhl := hasW_len ws R k
              have hcell : ∃ u, wr.cell? ⟨W2.heap.size, av, none⟩ = some u := by
                have : av < (hasW ws R k).length := by omega
                simp [World.cell?, HO.out, this]
              obtain ⟨u0, hco⟩ := hcell
              have hfo : wr.frozen? ⟨W2.heap.size, av, none⟩ = false := by simp [World.frozen?, HO.out]
              have hav3 : (av : Int) < 256 := by omega
              have hav4 : (0 : Int) ≤ (av : Int) := by omega
              clear hRk
              go_wp2_with (first
                | (go_at_call 20; refine (Hdk.out _).mono ?_; rintro e w' ⟨rfl, hb⟩; obtain ⟨g6, rfl⟩ := bout hb; clear hb)
                | (go_at_call 51; refine (Hnm.out _).mono ?_; rintro e w' ⟨rfl, hb⟩; obtain ⟨g7, rfl⟩ := bout hb; clear hb))
              go_roundw
              case rel =>
                have hsz : (wr.setCell ⟨W2.heap.size, av, none⟩ (.bool true)).heap.size = wr.heap.size := by simp [World.setCell]
                refine ⟨k + 1, by omega, by go_num, (HB.out.setCell (Nat.le_refl _) _).trans ((bG (bA (bG (Below.refl _ _) _) _) _).mono (by rw [hsz]; exact hbs)), ?_⟩
                rw [Hyes.out, heap_grow _ _ _ (by simp [World.setCell]; omega), heap_alloc_old _ _ (by simp [World.setCell]; omega), heap_grow _ _ _ (by rw [hsz]; exact hOl)]
                rw [List.map_set]
                exact set_heap HO.out
              case measure => simp [intOf]; omega
          · rw [he] at Hdk
            have Hno : Hid (hasW ws R (k + 1) = hasW ws R k) := hid (by show (if _ then _ else _) = _; rw [hRk]; unfold wC; rw [he]; simp)
            clear hRk he
            go_wp2_with (go_at_call 20; refine (Hdk.out _).mono ?_; rintro e w' ⟨rfl, hb⟩; obtain ⟨g6, rfl⟩ := bout hb; clear hb)
            go_roundw
            case rel =>
              refine ⟨k + 1, by omega, by go_num, HB.out.trans ((bA (bG (Below.refl _ _) _) _).mono hbs), ?_⟩
              rw [Hno.out, heap_alloc_old _ _ (by simp; omega), heap_grow _ _ _ hOl]
              exact HO.out
            case measure => simp [intOf]; omega
      · obtain rfl : k = len := by omega
        have hhl := hasW_len ws R k
        rename World => W5
        have HB := hid hB
        have HO := hid hO
        clear hB hO
        generalize hhas : hasW ws R k = has at *
        have Hhas := hid hhas
        clear hhas
        go_wp2
        go_loopw [14, 92] (fun ov i wr => ∃ q : Nat, q ≤ 256 ∧ i = .int .i64 q ∧ Below W5.heap.size W5 wr ∧ Ints W5.heap.size wr ov (pickS has q)) (fun _ i _ => 256 - (intOf i).toNat)
        case atStart => exact ⟨0, by omega, rfl, Below.refl _ _, rfl, .inl ⟨rfl, rfl⟩⟩
        case round =>
          obtain ⟨q, hq, rfl, hB, hI⟩ := hrel
          have hbq := hB.size
          have HI := hid hI
          have HBq := hid hB
          by_cases hlt2 : q < 256
          · have hcq : wr.cell? ⟨W2.heap.size, q, none⟩ = some (.bool (has.getD q false)) := by
              refine cell_stays hB ?_
              have : q < has.length := by omega
              simp [World.cell?, HO.out, this, List.getD]
            have hq1 : (q : Int) < 256 := by omega
            have hq0 : (0 : Int) ≤ (q : Int) := by omega
            have hpk : pickS has (q + 1) = if has.getD q false = true then pickS has q ++ [(q : Int)] else pickS has q := by
              unfold pickS
              rw [List.range_succ, List.filter_append, List.map_append]
              simp only [List.filter_cons, List.filter_nil]
              by_cases h : has.getD q false = true
              · rw [if_pos h, if_pos h]; rfl
              · rw [if_neg h, if_neg h]; simp
            have hpl : (pickS has q).length ≤ q := by
              unfold pickS
              rw [List.length_map]
              exact Nat.le_trans (List.length_filter_le _ _) (by simp)
            have Hpk := hid hpk
            clear hB hI hpk
            cases hv : has.getD q false with
            | false =>
              rw [hv] at hcq
              have Hv := hid hv
              clear hv
              go_wp2
              go_roundw
              case rel => exact ⟨q + 1, by omega, by go_num, HBq.out, by rw [Hpk.out, if_neg (by rw [Hv.out]; simp)]; exact HI.out⟩
              case measure => simp [intOf]; omega
            | true =>
              rw [hv] at hcq
              have Hv := hid hv
              clear hv
              go_wp2_with (at_builtin; go_loud (refine wpList_append_int rfl _ _ rfl W5.heap.size u14 (pickS has q) (q : Int) wr.heap.size 1 rfl ?aown rfl ?acell ?alen ?abase ?arest))
              case aown => exact Ints_below HI.out (bA (Below.refl _ _) _)
              case acell => exact cell_one_new wr (.int .i64 q) 3 0 _ rfl
              case alen => first | omega | (simp; omega)
              case abase => first | omega | (simp; omega)
              case arest =>
                intro v' w5 h1 h2 h3
                go_wp2
                go_roundw
                case rel =>
                  refine ⟨q + 1, by omega, by go_num, ?_, by rw [Hpk.out, if_pos Hv.out]; exact h1⟩
                  exact Below.grown (HBq.out.alloc hbq _) h2 (by simp; omega) fun g hg => HI.out.2.elim (fun h => by rw [h.1] at hg; cases hg) fun ⟨g', _, _, e, hle, _⟩ => by rw [e] at hg; cases hg; exact hle
                case measure => simp [intOf]; omega
          · obtain rfl : q = 256 := by omega
            go_wp2
            go_ret
            exact ⟨u14, rfl, HB2.out.trans ((HB.out.trans (HBq.out.mono HB.out.size)).mono hbs2), by rw [Hhas.out]; exact Ints_base' HI.out (Nat.zero_le _)⟩
end Go.Proofs.Ytjocifamacpamaa
