/- Few images, walked. Conditions: none. -/
import Derived.Test.YtbgjanmheagilaaDoorCn
import Derived.Test.YtbgjanmheagilaaDoorPoX
set_option linter.unusedVariables false
set_option linter.unusedSimpArgs false
namespace Go.Proofs.YtbgjanmheagilaaDoor
open Go Go.RowKit Go.Nodes
set_option linter.unusedVariables false
set_option linter.unusedSimpArgs false
noncomputable def fewT (f : Nat) (T : Sk) : Bool := decide (countS f T 0 0 ≤ 500)
noncomputable def fewB (f : Nat) (B : Bl) : Bool := fewT f B.to
def slim (c : Cn) : Bool := decide ((c.s.size : Int) ≤ 300)
noncomputable def fewPs (f : Nat) : List Pr → Int → Bool
  | [], _ => true
  | p :: l, n => if 3000 < wrap64 (n + wrap64 (wrap64 (wrap64 (wrap64 ((p.words.length : Int) + (p.consts.length : Int)) + (p.ups.length : Int)) + (p.places.length : Int)) + (p.types.length : Int))) then false
    else if (p.types.all (fewT f) && p.consts.all slim) = false then false
    else fewPs f l (wrap64 (n + wrap64 (wrap64 (wrap64 (wrap64 ((p.words.length : Int) + (p.consts.length : Int)) + (p.ups.length : Int)) + (p.places.length : Int)) + (p.types.length : Int))))
theorem fewPs_drop (f : Nat) (l : List Pr) (i : Nat) (h : i < l.length) (n : Int) : fewPs f (l.drop i) n = if 3000 < wrap64 (n + wrap64 (wrap64 (wrap64 (wrap64 ((l[i].words.length : Int) + (l[i].consts.length : Int)) + (l[i].ups.length : Int)) + (l[i].places.length : Int)) + (l[i].types.length : Int))) then false
    else if (l[i].types.all (fewT f) && l[i].consts.all slim) = false then false
    else fewPs f (l.drop (i + 1)) (wrap64 (n + wrap64 (wrap64 (wrap64 (wrap64 ((l[i].words.length : Int) + (l[i].consts.length : Int)) + (l[i].ups.length : Int)) + (l[i].places.length : Int)) + (l[i].types.length : Int)))) := by
  rw [List.drop_eq_getElem_cons h]; rfl
/-- What few answers. -/
noncomputable def fewIm (f : Nat) (I : Im) : Bool :=
  if 500 < wrap64 (wrap64 ((I.protos.length : Int) + (I.casts.length : Int)) + (I.shapes.length : Int)) then false
  else I.casts.all (fewB f) && (I.shapes.all (fewT f) && fewPs f I.protos (wrap64 (wrap64 ((I.protos.length : Int) + (I.casts.length : Int)) + (I.shapes.length : Int))))
theorem all_no {α : Type} {P : α → Bool} {l : List α} {i : Nat} {h : i < l.length} (hx : P l[i] = false) : l.all P = false := by
  cases hc : l.all P with
  | false => rfl
  | true => rw [List.all_eq_true.1 hc _ (List.getElem_mem h)] at hx; cases hx
theorem all_take {α : Type} {P : α → Bool} {l : List α} {i : Nat} (h : i < l.length) (hI : (l.take i).all P = true) (hx : P l[i] = true) : (l.take (i + 1)).all P = true := by
  rw [List.take_succ_eq_append_getElem h, List.all_append, hI]
  simp [hx]
theorem bl_to {W : World} {f : Nat} {v0 v1 v2 : Value} {s e : Int} {B : Bl} (h : BlAt W f [v0, v1, v2, .int .i64 s, .int .i64 e] B) : TyAt W f [v0, v1, v2] B.to := by
  obtain ⟨T, s', e'⟩ := B
  obtain ⟨u0, u1, u2, hv, hT⟩ := h
  cases hv
  exact hT
theorem pr_rows {W : World} {f : Nat} {tp wp dp up lp : Option Addr} {tn tc wn wc dn dc un uc ln lc : Nat} {g : Int} {P : Pr} (h : PrAt W f [.slice tp tn tc, .int .i64 g, .slice wp wn wc, .slice dp dn dc, .slice up un uc, .slice lp ln lc] P) :
    P.types.length ≤ maxLen ∧ P.words.length ≤ maxLen ∧ P.consts.length ≤ maxLen ∧ P.ups.length ≤ maxLen ∧ P.places.length ≤ maxLen ∧
    tn = P.types.length ∧ wn = P.words.length ∧ dn = P.consts.length ∧ un = P.ups.length ∧ ln = P.places.length ∧ RowOf W 3 (TyAt W f) tp P.types ∧ RowOf W 4 cnE dp P.consts := by
  obtain ⟨h1, h2, h3, h4, h5, tp, tc, wp, wc, cp, cc, up, uc, pp, pc, hv, k1, k2, k3, k4, k5⟩ := h
  simp only [List.cons.injEq, Value.slice.injEq, Value.int.injEq, and_true, true_and] at hv
  obtain ⟨⟨rfl, rfl, rfl⟩, rfl, ⟨rfl, rfl, rfl⟩, ⟨rfl, rfl, rfl⟩, ⟨rfl, rfl, rfl⟩, rfl, rfl, rfl⟩ := hv
  exact ⟨h1, h2, h3, h4, h5, rfl, rfl, rfl, rfl, rfl, k1, k3⟩
set_option maxRecDepth 10000 in
set_option maxHeartbeats 8000000 in
theorem few9 (f : Nat) (W : World) (va : List Value) (A : Im) (hA : ImAt W f va A) :
    Calls Tryd.prog 9 #[.agg va.toArray] W fun e w' => e = .returned (.bool (fewIm f A)) ∧ Below W.heap.size W w' := by
  obtain ⟨a, b, c, d⟩ := A
  obtain ⟨l0, l1, l2, pp, pc, cp, cc, sp, sc, m0, m1, m2, m3, m4, m5, m6, m7, hm, rfl, k0, k1, k2⟩ := hA
  simp only at l0 l1 l2 k0 k1 k2 hm
  subst hm
  obtain ⟨R, hR⟩ : ∃ R, R = fewIm f ⟨a, b, c, [m0, m1, m2, m3, m4, m5, m6, m7]⟩ := ⟨_, rfl⟩
  rw [← hR]
  unfold fewIm at hR
  simp only at hR
  have K0 := hid k0
  have K1 := hid k1
  have K2 := hid k2
  unfold maxLen at l0 l1 l2
  clear k0 k1 k2
  obtain ⟨n0, hn0⟩ : ∃ n, n = a.length := ⟨_, rfl⟩
  obtain ⟨n1, hn1⟩ : ∃ n, n = b.length := ⟨_, rfl⟩
  obtain ⟨n2, hn2⟩ : ∃ n, n = c.length := ⟨_, rfl⟩
  rw [← hn0, ← hn1, ← hn2] at hR
  rw [← hn0] at l0 ⊢
  rw [← hn1] at l1 ⊢
  rw [← hn2] at l2 ⊢
  have L0 := hid hn0
  have L1 := hid hn1
  have L2 := hid hn2
  have p0 : (n0 : Int) ≤ 9223372036854775807 := by omega
  have p1 : (n1 : Int) ≤ 9223372036854775807 := by omega
  have p2 : (n2 : Int) ≤ 9223372036854775807 := by omega
  clear hn0 hn1 hn2 l0 l1 l2
  obtain ⟨z0, hz0⟩ : ∃ z, z = wrap64 (wrap64 ((n0 : Int) + (n1 : Int)) + (n2 : Int)) := ⟨_, rfl⟩
  rw [← hz0] at hR
  have HR := hid hR
  have HZ := hid hz0.symm
  clear hR hz0
  by_cases hz : (500 : Int) < wrap64 (wrap64 ((n0 : Int) + (n1 : Int)) + (n2 : Int))
  · have hF := HR.out
    rw [← HZ.out, if_pos hz] at hF
    have HF := hid hF
    clear hF
    go_enter Tryd.func9, Tryd.ntmps9
    go_wp2
    go_ret
    exact ⟨by rw [HF.out]; rfl, by repeat (first | exact Below.refl _ _ | refine bN ?_ _ | refine bD ?_ | refine bG ?_ _ | refine bI ?_ _ _ | refine bA ?_ _)⟩
  · have Hz0 : Hid (z0 ≤ 500) := hid (by have := HZ.out; omega)
    have hz' : wrap64 (wrap64 ((n0 : Int) + (n1 : Int)) + (n2 : Int)) ≤ 500 := by omega
    clear hz
    go_enter Tryd.func9, Tryd.ntmps9
    go_wp2
    rw [HZ.out]
    go_loopw [30] (fun iv wr => ∃ (i : Nat) (G' : Gro), i ≤ n1 ∧ iv = .int .i64 i ∧ wr = grow (W.alloc (.cells #[.slice pp n0 pc, .slice cp n1 cc, .slice sp n2 sc, .int .u64 m0, .int .u64 m1, .int .u64 m2, .int .u64 m3, .int .u64 m4, .int .u64 m5, .int .u64 m6, .int .u64 m7] 29)) G' ∧ Hid ((b.take i).all (fewB f) = true)) (fun iv _ => n1 - (intOf iv).toNat)
    case atStart => exact ⟨0, _, Nat.zero_le _, rfl, by first | rfl | exact below_grow2 (by repeat (first | exact Below.refl _ _ | refine bN ?_ _ | refine bD ?_ | refine bG ?_ _ | refine bI ?_ _ _ | refine bA ?_ _)), hid rfl⟩
    case round =>
      obtain ⟨i, G', hi, rfl, rfl, hI⟩ := hrel
      by_cases hin : i < n1
      · have hix : i < b.length := by have := L1.out; omega
        have i0 : (0 : Int) ≤ (i : Int) := by omega
        have i1 : (i : Int) < (n1 : Int) := by omega
        obtain ⟨b1, o1, k, np, nn, nc, ap, an, ac, s, e, rfl, hb1, c0, c1, c2, c3, c4, hT⟩ := bl_cells K1.out hix
        obtain ⟨t, ht⟩ : ∃ t, (fewB f) b[i] = t := ⟨_, rfl⟩
        have Hc : Hid (∀ W', Below W.heap.size W W' → Calls Tryd.prog 23 #[.agg #[.int .i64 k, .slice np nn nc, .slice ap an ac]] W' fun e w' => e = .returned (.bool t) ∧ Below W'.heap.size W' w') := hid fun W' hW => by
          rw [← ht]; exact few23 f W' _ _ (TyAt.later hW f _ _ (bl_to hT))
        have Hx := hid ht
        clear ht hT
        cases t with
        | false =>
          have Ho : Hid (b.all (fewB f) = false) := hid (all_no Hx.out)
          go_wp2_with (go_at_call 23; refine (Hc.out _ (by repeat (first | exact Below.refl _ _ | refine bN ?_ _ | refine bD ?_ | refine bG ?_ _ | refine bI ?_ _ _ | refine bA ?_ _))).mono ?_; rintro e w' ⟨rfl, hb⟩; obtain ⟨G2, rfl⟩ := bout hb; clear hb)
          go_ret
          have hF := (show R = false by rw [HR.out, if_neg (by have := Hz0.out; omega), Ho.out]; simp)
          exact ⟨by rw [hF]; rfl, by repeat (first | exact Below.refl _ _ | refine bN ?_ _ | refine bD ?_ | refine bG ?_ _ | refine bI ?_ _ _ | refine bA ?_ _)⟩
        | true =>
          go_wp2_with (go_at_call 23; refine (Hc.out _ (by repeat (first | exact Below.refl _ _ | refine bN ?_ _ | refine bD ?_ | refine bG ?_ _ | refine bI ?_ _ _ | refine bA ?_ _))).mono ?_; rintro e w' ⟨rfl, hb⟩; obtain ⟨G2, rfl⟩ := bout hb; clear hb)
          go_roundw
          case rel => exact ⟨i + 1, _, by omega, by go_num, below_grow2 (by repeat (first | exact Below.refl _ _ | refine bN ?_ _ | refine bD ?_ | refine bG ?_ _ | refine bI ?_ _ _ | refine bA ?_ _)), hid (all_take hix hI.out Hx.out)⟩
          case measure => simp [intOf]; omega
      · have hni : n1 = i := by omega
        subst hni
        have Hcs : Hid (b.all (fewB f) = true) := hid (by
          have h := hI.out
          rw [List.take_of_length_le (by have := L1.out; omega)] at h
          exact h)
        clear hI hi hin
        go_wp2
        go_loopw [42] (fun iv wr => ∃ (i : Nat) (G' : Gro), i ≤ n2 ∧ iv = .int .i64 i ∧ wr = grow (W.alloc (.cells #[.slice pp n0 pc, .slice cp n1 cc, .slice sp n2 sc, .int .u64 m0, .int .u64 m1, .int .u64 m2, .int .u64 m3, .int .u64 m4, .int .u64 m5, .int .u64 m6, .int .u64 m7] 29)) G' ∧ Hid ((c.take i).all (fewT f) = true)) (fun iv _ => n2 - (intOf iv).toNat)
        case atStart => exact ⟨0, _, Nat.zero_le _, rfl, by first | rfl | exact below_grow2 (by repeat (first | exact Below.refl _ _ | refine bN ?_ _ | refine bD ?_ | refine bG ?_ _ | refine bI ?_ _ _ | refine bA ?_ _)), hid rfl⟩
        case round =>
          obtain ⟨i, G', hi, rfl, rfl, hI⟩ := hrel
          by_cases hin : i < n2
          · have hix : i < c.length := by have := L2.out; omega
            have i0 : (0 : Int) ≤ (i : Int) := by omega
            have i1 : (i : Int) < (n2 : Int) := by omega
            obtain ⟨b1, o1, k, np, nn, nc, ap, an, ac, rfl, hb1, c0, c1, c2, hT⟩ := ty_cells K2.out hix
            obtain ⟨t, ht⟩ : ∃ t, (fewT f) c[i] = t := ⟨_, rfl⟩
            have Hc : Hid (∀ W', Below W.heap.size W W' → Calls Tryd.prog 23 #[.agg #[.int .i64 k, .slice np nn nc, .slice ap an ac]] W' fun e w' => e = .returned (.bool t) ∧ Below W'.heap.size W' w') := hid fun W' hW => by
              rw [← ht]; exact few23 f W' _ _ (TyAt.later hW f _ _ hT)
            have Hx := hid ht
            clear ht hT
            cases t with
            | false =>
              have Ho : Hid (c.all (fewT f) = false) := hid (all_no Hx.out)
              go_wp2_with (go_at_call 23; refine (Hc.out _ (by repeat (first | exact Below.refl _ _ | refine bN ?_ _ | refine bD ?_ | refine bG ?_ _ | refine bI ?_ _ _ | refine bA ?_ _))).mono ?_; rintro e w' ⟨rfl, hb⟩; obtain ⟨G2, rfl⟩ := bout hb; clear hb)
              go_ret
              have hF := (show R = false by rw [HR.out, if_neg (by have := Hz0.out; omega), Ho.out]; simp)
              exact ⟨by rw [hF]; rfl, by repeat (first | exact Below.refl _ _ | refine bN ?_ _ | refine bD ?_ | refine bG ?_ _ | refine bI ?_ _ _ | refine bA ?_ _)⟩
            | true =>
              go_wp2_with (go_at_call 23; refine (Hc.out _ (by repeat (first | exact Below.refl _ _ | refine bN ?_ _ | refine bD ?_ | refine bG ?_ _ | refine bI ?_ _ _ | refine bA ?_ _))).mono ?_; rintro e w' ⟨rfl, hb⟩; obtain ⟨G2, rfl⟩ := bout hb; clear hb)
              go_roundw
              case rel => exact ⟨i + 1, _, by omega, by go_num, below_grow2 (by repeat (first | exact Below.refl _ _ | refine bN ?_ _ | refine bD ?_ | refine bG ?_ _ | refine bI ?_ _ _ | refine bA ?_ _)), hid (all_take hix hI.out Hx.out)⟩
              case measure => simp [intOf]; omega
          · have hni : n2 = i := by omega
            subst hni
            have Hsh : Hid (c.all (fewT f) = true) := hid (by
              have h := hI.out
              rw [List.take_of_length_le (by have := L2.out; omega)] at h
              exact h)
            clear hI hi hin
            go_wp2
            go_loopw [3, 53] (fun nv iv wr => ∃ (j : Nat) (z : Int) (G3 : Gro), j ≤ n0 ∧ iv = .int .i64 j ∧ nv = .int .i64 z ∧ wr = grow (W.alloc (.cells #[.slice pp n0 pc, .slice cp n1 cc, .slice sp n2 sc, .int .u64 m0, .int .u64 m1, .int .u64 m2, .int .u64 m3, .int .u64 m4, .int .u64 m5, .int .u64 m6, .int .u64 m7] 29)) G3 ∧ Hid (fewPs f (a.drop j) z = R)) (fun _ iv _ => n0 - (intOf iv).toNat)
            case atStart => exact ⟨0, _, _, Nat.zero_le _, rfl, rfl, by first | rfl | exact below_grow2 (by repeat (first | exact Below.refl _ _ | refine bN ?_ _ | refine bD ?_ | refine bG ?_ _ | refine bI ?_ _ _ | refine bA ?_ _)), hid (by rw [HR.out, if_neg (by have := Hz0.out; omega), Hcs.out, Hsh.out]; rfl)⟩
            case round =>
              obtain ⟨j, z, G3, hj, rfl, rfl, rfl, hJ⟩ := hrel
              by_cases hjn : j < n0
              · have hjx : j < a.length := by have := L0.out; omega
                have j0 : (0 : Int) ≤ (j : Int) := by omega
                have j1 : (j : Int) < (n0 : Int) := by omega
                obtain ⟨b1, o1, tp, q0, tc, g, wp, wn, wc, dp, q1, dc, up, un, uc, lp, ln, lc, rfl, hb1, c0, c1, c2, c3, c4, c5, hT⟩ := pr_cells K0.out hjx
                have Hd := hid (fewPs_drop f a j hjx z)
                rw [hJ.out] at Hd
                generalize a[j] = p at *
                obtain ⟨l1, l2, l3, l4, l5, rfl, rfl, rfl, rfl, rfl, D0', D1'⟩ := pr_rows hT
                clear hT
                have D0 := hid D0'
                have D1 := hid D1'
                clear D0' D1'
                obtain ⟨q0, hq0⟩ : ∃ n, n = p.types.length := ⟨_, rfl⟩
                obtain ⟨q1, hq1⟩ : ∃ n, n = p.consts.length := ⟨_, rfl⟩
                obtain ⟨wn, hwn⟩ : ∃ n, n = p.words.length := ⟨_, rfl⟩
                obtain ⟨un, hun⟩ : ∃ n, n = p.ups.length := ⟨_, rfl⟩
                obtain ⟨ln, hln⟩ : ∃ n, n = p.places.length := ⟨_, rfl⟩
                rw [← hq0, ← hq1, ← hwn, ← hun, ← hln] at Hd
                rw [← hq0] at l1 c0
                rw [← hwn] at l2 c2
                rw [← hq1] at l3 c3
                rw [← hun] at l4 c4
                rw [← hln] at l5 c5
                have Q0 := hid hq0
                have Q1 := hid hq1
                clear hq0 hq1 hwn hun hln
                unfold maxLen at l1 l2 l3 l4 l5
                have g1 : (q0 : Int) ≤ 9223372036854775807 := by omega
                have g2 : (wn : Int) ≤ 9223372036854775807 := by omega
                have g3 : (q1 : Int) ≤ 9223372036854775807 := by omega
                have g4 : (un : Int) ≤ 9223372036854775807 := by omega
                have g5 : (ln : Int) ≤ 9223372036854775807 := by omega
                clear l1 l2 l3 l4 l5
                by_cases hy : (3000 : Int) < wrap64 (z + wrap64 (wrap64 (wrap64 (wrap64 ((wn : Int) + (q1 : Int)) + (un : Int)) + (ln : Int)) + (q0 : Int)))
                · have Ho : Hid (R = false) := hid (by have h := Hd.out; rw [if_pos hy] at h; exact h)
                  go_wp2
                  go_ret
                  exact ⟨by rw [Ho.out]; rfl, by repeat (first | exact Below.refl _ _ | refine bN ?_ _ | refine bD ?_ | refine bG ?_ _ | refine bI ?_ _ _ | refine bA ?_ _)⟩
                · have HNo : Hid ((p.types.all (fewT f) && p.consts.all slim) = false → R = false) := hid fun hh => by have h := Hd.out; rw [if_neg hy, if_pos hh] at h; exact h
                  have HYes : Hid ((p.types.all (fewT f) && p.consts.all slim) = true → fewPs f (a.drop (j + 1)) (wrap64 (z + wrap64 (wrap64 (wrap64 (wrap64 ((wn : Int) + (q1 : Int)) + (un : Int)) + (ln : Int)) + (q0 : Int)))) = R) := hid fun hh => by have h := Hd.out; rw [if_neg hy, if_neg (by rw [hh]; simp)] at h; exact h.symm
                  have hy' : wrap64 (z + wrap64 (wrap64 (wrap64 (wrap64 ((wn : Int) + (q1 : Int)) + (un : Int)) + (ln : Int)) + (q0 : Int))) ≤ 3000 := by omega
                  clear hy Hd
                  go_wp2
                  go_loopw [83] (fun iv wr => ∃ (i : Nat) (G' : Gro), i ≤ q0 ∧ iv = .int .i64 i ∧ wr = grow ((grow (W.alloc (.cells #[.slice (some ⟨b1, o1, none⟩) n0 pc, .slice cp n1 cc, .slice sp n2 sc, .int .u64 m0, .int .u64 m1, .int .u64 m2, .int .u64 m3, .int .u64 m4, .int .u64 m5, .int .u64 m6, .int .u64 m7] 29)) G3).alloc (.cells #[.slice tp q0 tc, .int .i64 g, .slice wp wn wc, .slice dp q1 dc, .slice up un uc, .slice lp ln lc] 56)) G' ∧ Hid ((p.types.take i).all (fewT f) = true)) (fun iv _ => q0 - (intOf iv).toNat)
                  case atStart => exact ⟨0, _, Nat.zero_le _, rfl, by first | rfl | exact below_grow2 (by repeat (first | exact Below.refl _ _ | refine bN ?_ _ | refine bD ?_ | refine bG ?_ _ | refine bI ?_ _ _ | refine bA ?_ _)), hid rfl⟩
                  case round =>
                    obtain ⟨i, G', hi, rfl, rfl, hI⟩ := hrel
                    by_cases hin : i < q0
                    · have hix : i < p.types.length := by have := Q0.out; omega
                      have i0 : (0 : Int) ≤ (i : Int) := by omega
                      have i1 : (i : Int) < (q0 : Int) := by omega
                      obtain ⟨b1, o1, k, np, nn, nc, ap, an, ac, rfl, hb1, c0, c1, c2, hT⟩ := ty_cells D0.out hix
                      obtain ⟨t, ht⟩ : ∃ t, (fewT f) p.types[i] = t := ⟨_, rfl⟩
                      have Hc : Hid (∀ W', Below W.heap.size W W' → Calls Tryd.prog 23 #[.agg #[.int .i64 k, .slice np nn nc, .slice ap an ac]] W' fun e w' => e = .returned (.bool t) ∧ Below W'.heap.size W' w') := hid fun W' hW => by
                        rw [← ht]; exact few23 f W' _ _ (TyAt.later hW f _ _ hT)
                      have Hx := hid ht
                      clear ht hT
                      cases t with
                      | false =>
                        have Ho : Hid (p.types.all (fewT f) = false) := hid (all_no Hx.out)
                        go_wp2_with (go_at_call 23; refine (Hc.out _ (by repeat (first | exact Below.refl _ _ | refine bN ?_ _ | refine bD ?_ | refine bG ?_ _ | refine bI ?_ _ _ | refine bA ?_ _))).mono ?_; rintro e w' ⟨rfl, hb⟩; obtain ⟨G2, rfl⟩ := bout hb; clear hb)
                        go_ret
                        have hF := HNo.out (by rw [Ho.out]; rfl)
                        exact ⟨by rw [hF]; rfl, by repeat (first | exact Below.refl _ _ | refine bN ?_ _ | refine bD ?_ | refine bG ?_ _ | refine bI ?_ _ _ | refine bA ?_ _)⟩
                      | true =>
                        go_wp2_with (go_at_call 23; refine (Hc.out _ (by repeat (first | exact Below.refl _ _ | refine bN ?_ _ | refine bD ?_ | refine bG ?_ _ | refine bI ?_ _ _ | refine bA ?_ _))).mono ?_; rintro e w' ⟨rfl, hb⟩; obtain ⟨G2, rfl⟩ := bout hb; clear hb)
                        go_roundw
                        case rel => exact ⟨i + 1, _, by omega, by go_num, below_grow2 (by repeat (first | exact Below.refl _ _ | refine bN ?_ _ | refine bD ?_ | refine bG ?_ _ | refine bI ?_ _ _ | refine bA ?_ _)), hid (all_take hix hI.out Hx.out)⟩
                        case measure => simp [intOf]; omega
                    · have hni : q0 = i := by omega
                      subst hni
                      have Ht1 : Hid (p.types.all (fewT f) = true) := hid (by
                        have h := hI.out
                        rw [List.take_of_length_le (by have := Q0.out; omega)] at h
                        exact h)
                      clear hI hi hin
                      go_wp2
                      go_loopw [94] (fun iv wr => ∃ (i : Nat) (G' : Gro), i ≤ q1 ∧ iv = .int .i64 i ∧ wr = grow ((grow (W.alloc (.cells #[.slice (some ⟨b1, o1, none⟩) n0 pc, .slice cp n1 cc, .slice sp n2 sc, .int .u64 m0, .int .u64 m1, .int .u64 m2, .int .u64 m3, .int .u64 m4, .int .u64 m5, .int .u64 m6, .int .u64 m7] 29)) G3).alloc (.cells #[.slice tp q0 tc, .int .i64 g, .slice wp wn wc, .slice dp q1 dc, .slice up un uc, .slice lp ln lc] 56)) G' ∧ Hid ((p.consts.take i).all slim = true)) (fun iv _ => q1 - (intOf iv).toNat)
                      case atStart => exact ⟨0, _, Nat.zero_le _, rfl, by first | rfl | exact below_grow2 (by repeat (first | exact Below.refl _ _ | refine bN ?_ _ | refine bD ?_ | refine bG ?_ _ | refine bI ?_ _ _ | refine bA ?_ _)), hid rfl⟩
                      case round =>
                        obtain ⟨i, G', hi, rfl, rfl, hI⟩ := hrel
                        by_cases hin : i < q1
                        · have hix : i < p.consts.length := by have := Q1.out; omega
                          have i0 : (0 : Int) ≤ (i : Int) := by omega
                          have i1 : (i : Int) < (q1 : Int) := by omega
                          obtain ⟨b1, o1, k, a, s, l, hT, rfl, hb1, c0, c1, c2, c3⟩ := cn_cells D1.out hix
                          have Hx : Hid (slim p.consts[i] = decide ((s.size : Int) ≤ 300)) := hid (by rw [hT]; rfl)
                          clear hT
                          by_cases hz : (300 : Int) < (s.size : Int)
                          · have Ho : Hid (p.consts.all slim = false) := hid (all_no (by rw [Hx.out]; simp; omega))
                            go_wp2
                            go_ret
                            have hF := HNo.out (by rw [Ht1.out, Ho.out]; rfl)
                            exact ⟨by rw [hF]; rfl, by repeat (first | exact Below.refl _ _ | refine bN ?_ _ | refine bD ?_ | refine bG ?_ _ | refine bI ?_ _ _ | refine bA ?_ _)⟩
                          · have Hx2 : Hid (slim p.consts[i] = true) := hid (by rw [Hx.out]; simp; omega)
                            have hz' : (s.size : Int) ≤ 300 := by omega
                            clear hz
                            go_wp2
                            go_roundw
                            case rel => exact ⟨i + 1, _, by omega, by go_num, below_grow2 (by repeat (first | exact Below.refl _ _ | refine bN ?_ _ | refine bD ?_ | refine bG ?_ _ | refine bI ?_ _ _ | refine bA ?_ _)), hid (all_take hix hI.out Hx2.out)⟩
                            case measure => simp [intOf]; omega
                        · have hni : q1 = i := by omega
                          subst hni
                          have Ho : Hid (p.consts.all slim = true) := hid (by
                            have h := hI.out
                            rw [List.take_of_length_le (by have := Q1.out; omega)] at h
                            exact h)
                          clear hI hi hin
                          go_wp2
                          go_roundw
                          case rel => exact ⟨j + 1, _, _, by omega, by go_num, rfl, below_grow2 (by repeat (first | exact Below.refl _ _ | refine bN ?_ _ | refine bD ?_ | refine bG ?_ _ | refine bI ?_ _ _ | refine bA ?_ _)), hid (HYes.out (by rw [Ht1.out, Ho.out]; rfl))⟩
                          case measure => simp [intOf]; omega
              · have hni : n0 = j := by omega
                subst hni
                have Ho : Hid (R = true) := hid (by
                  have h := hJ.out
                  rw [List.drop_of_length_le (by have := L0.out; omega)] at h
                  exact h.symm)
                clear hJ hj hjn
                go_wp2
                go_ret
                exact ⟨by rw [Ho.out]; rfl, by repeat (first | exact Below.refl _ _ | refine bN ?_ _ | refine bD ?_ | refine bG ?_ _ | refine bI ?_ _ _ | refine bA ?_ _)⟩
end Go.Proofs.YtbgjanmheagilaaDoor
