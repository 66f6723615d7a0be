/- How many parts a type has, as the laws count them, walked. Conditions: none. -/
import Derived.Deep.QuietTactic
import Derived.BigQuiet
import Derived.Test.YtjchnliaglecoaaGreatDoorTyX
import Derived.Test.YtjchnliaglecoaaGreatDoorBaseB
set_option linter.unusedVariables false
set_option linter.unusedSimpArgs false
namespace Go.Proofs.YtjchnliaglecoaaGreatDoor
open Go Go.RowKit Go.Nodes
set_option linter.unusedVariables false
set_option linter.unusedSimpArgs false
theorem below_grow2 {a w : World} (h : Below a.heap.size a w) : w = grow a (Classical.choose (bout h)) := Classical.choose_spec (bout h)
def countN : List ByteArray → Int → Int
  | [], n => n
  | s :: l, n => countN l (wrap64 (n + wrap64 ((s.size : Int) / 100)))
def countL (g : Sk → Int → Int) : List Sk → Int → Int
  | [], n => n
  | T :: l, n => if 500 < n then n else countL g l (g T n)
/-- What count answers. -/
def countS : Nat → Sk → Int → Int → Int
  | 0, _, n, _ => n
  | f + 1, .mk _ names args, n, d => if 60 < d then 1000 else countL (fun T n => countS f T n (wrap64 (d + 1))) args (countN names (wrap64 (n + wrap64 (1 + (names.length : Int)))))
theorem countN_drop (l : List ByteArray) (i : Nat) (h : i < l.length) (n : Int) : countN (l.drop i) n = countN (l.drop (i + 1)) (wrap64 (n + wrap64 ((l[i].size : Int) / 100))) := by
  rw [List.drop_eq_getElem_cons h]; rfl
theorem countL_drop (g : Sk → Int → Int) (l : List Sk) (i : Nat) (h : i < l.length) (n : Int) : countL g (l.drop i) n = if 500 < n then n else countL g (l.drop (i + 1)) (g l[i] n) := by
  rw [List.drop_eq_getElem_cons h]; rfl
set_option maxRecDepth 10000 in
set_option maxHeartbeats 2000000 in
theorem count39 : ∀ (f : Nat) (W : World) (va : List Value) (T : Sk) (n d : Int), TyAt W f va T →
    Calls Tryz.prog 35 #[.agg va.toArray, .int .i64 n, .int .i64 d] W fun e w' => e = .returned (.int .i64 (countS f T n d)) ∧ Below W.heap.size W w'
  | 0, _, _, _, _, _, h => h.elim
  | f + 1, W, va, .mk k names args, n, d, hA => by
    obtain ⟨_, l1, l2, np, nc, ap, ac, rfl, hn, ha⟩ := hA
    have Hih : Hid (∀ W', Below W.heap.size W W' → ∀ va T n d, TyAt W f va T → Calls Tryz.prog 35 #[.agg va.toArray, .int .i64 n, .int .i64 d] W' fun e w' => e = .returned (.int .i64 (countS f T n d)) ∧ Below W'.heap.size W' w') := hid fun W' hb va T n d h => count39 f W' va T n d (TyAt.later hb f _ _ h)
    obtain ⟨R, hR⟩ : ∃ R, R = countS (f + 1) (.mk k names args) n d := ⟨_, rfl⟩
    rw [← hR]
    unfold countS at hR
    have Hn := hid hn
    have Ha := hid ha
    obtain ⟨m, hm⟩ : ∃ m, m = countN names (wrap64 (n + wrap64 (1 + (names.length : Int)))) := ⟨_, rfl⟩
    rw [← hm] at hR
    unfold maxLen at l1 l2
    have p1 : (names.length : Int) ≤ 9223372036854775807 := by omega
    have p2 : (args.length : Int) ≤ 9223372036854775807 := by omega
    have HR := hid hR
    obtain ⟨u, hu⟩ : ∃ u, u = names.length := ⟨_, rfl⟩
    obtain ⟨v, hv⟩ : ∃ v, v = args.length := ⟨_, rfl⟩
    rw [← hu] at p1 hm ⊢
    rw [← hv] at p2 ⊢
    have Hu := hid hu
    have Hv := hid hv
    have Hm := hid hm.symm
    clear hn ha hR l1 l2 hu hv hm
    go_enter Tryz.func35, Tryz.ntmps35
    go_wp2
    go_loopw [1, 20] (fun nv iv wr => ∃ (i : Nat) (c : Int), i ≤ u ∧ iv = .int .i64 i ∧ nv = .int .i64 c ∧ wr = W.alloc (.cells #[.int .i64 k, .slice np u nc, .slice ap v ac] 39) ∧ Hid (countN (names.drop i) c = m)) (fun _ iv _ => u - (intOf iv).toNat)
    case atStart => exact ⟨0, _, Nat.zero_le _, rfl, rfl, rfl, hid Hm.out⟩
    case round =>
      obtain ⟨i, c, hi, rfl, rfl, rfl, hI⟩ := hrel
      by_cases hin : i < u
      · have hix : i < names.length := by have := Hu.out; omega
        have i0 : (0 : Int) ≤ (i : Int) := by omega
        have i1 : (i : Int) < (u : Int) := by omega
        obtain ⟨b1, o1, x, hx, rfl, hb1, c0⟩ := text_cells Hn.out hix
        have Hd := hid (countN_drop names i hix c)
        rw [hx, hI.out] at Hd
        clear hx
        go_wp2
        go_roundw
        case rel => exact ⟨i + 1, _, by omega, by go_num, rfl, by first | trivial | rfl, hid Hd.out.symm⟩
        case measure => simp [intOf]; omega
      · have hni : u = i := by omega
        subst hni
        have hE : c = m := by have := hI.out; rw [List.drop_of_length_le (by have := Hu.out; omega)] at this; exact this
        subst hE
        clear hI hi hin
        by_cases hd : (60 : Int) < d
        · go_wp2
          go_ret
          have h := HR.out
          rw [if_pos hd] at h
          exact ⟨by rw [h]; rfl, by repeat (first | exact Below.refl _ _ | refine bN ?_ _ | refine bD ?_ | refine bG ?_ _ | refine bI ?_ _ _ | refine bA ?_ _)⟩
        · have Hd := hid hd
          have hd' : d ≤ 60 := by omega
          clear hd
          go_wp2
          go_loopw [1, 35] (fun nv iv wr => ∃ (i : Nat) (z : Int) (G : Gro), i ≤ v ∧ iv = .int .i64 i ∧ nv = .int .i64 z ∧ wr = grow W G ∧ Hid (countL (fun T n => countS f T n (wrap64 (d + 1))) (args.drop i) z = R)) (fun _ iv _ => v - (intOf iv).toNat)
          case atStart => exact ⟨0, c, _, Nat.zero_le _, rfl, rfl, below_grow2 (by repeat (first | exact Below.refl _ _ | refine bN ?_ _ | refine bD ?_ | refine bG ?_ _ | refine bI ?_ _ _ | refine bA ?_ _)), hid (by have h := HR.out; rw [if_neg (by have := Hd.out; omega)] at h; exact h.symm)⟩
          case round =>
            obtain ⟨i, z, G, hi, rfl, rfl, rfl, hI⟩ := hrel
            by_cases hin : i < v
            · have hix : i < args.length := by have := Hv.out; omega
              have i0 : (0 : Int) ≤ (i : Int) := by omega
              have i1 : (i : Int) < (v : Int) := by omega
              obtain ⟨b1, o1, k2, np2, nn2, nc2, ap2, an2, ac2, rfl, hb1, c0, c1, c2, hT⟩ := ty_cells Ha.out hix
              have Hd2 := hid (countL_drop (fun T n => countS f T n (wrap64 (d + 1))) args i hix z)
              rw [hI.out] at Hd2
              have Hc : Hid (∀ W', Below W.heap.size W W' → Calls Tryz.prog 35 #[.agg #[.int .i64 k2, .slice np2 nn2 nc2, .slice ap2 an2 ac2], .int .i64 z, .int .i64 (wrap64 (d + 1))] W' fun e w' => e = .returned (.int .i64 (countS f args[i] z (wrap64 (d + 1)))) ∧ Below W'.heap.size W' w') := hid fun W' hb => Hih.out W' hb _ _ _ _ hT
              generalize countS f args[i] z (wrap64 (d + 1)) = z2 at *
              clear hT
              by_cases hz : (500 : Int) < z
              · have h2 : R = z := by have := Hd2.out; rw [if_pos hz] at this; exact this
                have H2 := hid h2
                clear h2
                go_wp2
                go_ret
                exact ⟨by rw [H2.out]; rfl, by repeat (first | exact Below.refl _ _ | refine bN ?_ _ | refine bD ?_ | refine bG ?_ _ | refine bI ?_ _ _ | refine bA ?_ _)⟩
              · have h2 := Hd2.out
                rw [if_neg hz] at h2
                have H2 := hid h2
                clear h2
                have hz' : z ≤ 500 := by omega
                clear hz
                go_wp2_with (go_at_call 35; refine (Hc.out _ (by repeat (first | exact Below.refl _ _ | refine bN ?_ _ | refine bD ?_ | refine bG ?_ _ | refine bI ?_ _ _ | refine bA ?_ _))).mono ?_; rintro e w' ⟨rfl, hb⟩; obtain ⟨G2, rfl⟩ := bout hb; clear hb)
                go_roundw
                case rel => exact ⟨i + 1, _, _, by omega, by go_num, rfl, below_grow2 (by repeat (first | exact Below.refl _ _ | refine bN ?_ _ | refine bD ?_ | refine bG ?_ _ | refine bI ?_ _ _ | refine bA ?_ _)), hid H2.out.symm⟩
                case measure => simp [intOf]; omega
            · have hni : v = i := by omega
              subst hni
              have h2 : z = R := by have := hI.out; rw [List.drop_of_length_le (by have := Hv.out; omega)] at this; exact this
              have H2 := hid h2
              clear h2 hI hi hin
              go_wp2
              go_ret
              exact ⟨by rw [← H2.out]; rfl, by repeat (first | exact Below.refl _ _ | refine bN ?_ _ | refine bD ?_ | refine bG ?_ _ | refine bI ?_ _ _ | refine bA ?_ _)⟩
theorem few23 (f : Nat) (W : World) (va : List Value) (T : Sk) (hA : TyAt W f va T) :
    Calls Tryz.prog 14 #[.agg va.toArray] W fun e w' => e = .returned (.bool (decide (countS f T 0 0 ≤ 500))) ∧ Below W.heap.size W w' := by
  have Hc : Hid (∀ W', Below W.heap.size W W' → Calls Tryz.prog 35 #[.agg va.toArray, .int .i64 0, .int .i64 0] W' fun e w' => e = .returned (.int .i64 (countS f T 0 0)) ∧ Below W'.heap.size W' w') := hid fun W' hb => count39 f W' va T 0 0 (TyAt.later hb f _ _ hA)
  obtain ⟨k, np, nn, nc, ap, an, ac, rfl⟩ : ∃ k np nn nc ap an ac, va = [.int .i64 k, .slice np nn nc, .slice ap an ac] := by
    cases f with
    | zero => exact hA.elim
    | succ f =>
      obtain ⟨k, names, args⟩ := T
      obtain ⟨_, _, _, np, nc, ap, ac, hv, _, _⟩ := hA
      exact ⟨_, _, _, _, _, _, _, hv⟩
  generalize countS f T 0 0 = z at *
  clear hA
  go_enter Tryz.func14, Tryz.ntmps14
  go_wp2_with (go_at_call 35; refine (Hc.out _ (by repeat (first | exact Below.refl _ _ | refine bN ?_ _ | refine bD ?_ | refine bG ?_ _ | refine bI ?_ _ _ | refine bA ?_ _))).mono ?_; rintro e w' ⟨rfl, hb⟩; obtain ⟨G2, rfl⟩ := bout hb; clear hb)
  go_ret
  exact ⟨rfl, by repeat (first | exact Below.refl _ _ | refine bN ?_ _ | refine bD ?_ | refine bG ?_ _ | refine bI ?_ _ _ | refine bA ?_ _)⟩
end Go.Proofs.YtjchnliaglecoaaGreatDoor
