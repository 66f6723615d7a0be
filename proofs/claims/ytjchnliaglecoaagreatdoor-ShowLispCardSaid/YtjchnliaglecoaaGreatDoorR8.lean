/- The reference's Lisp, walked. Conditions: few nodes; the library's variables. -/
import Derived.Test.YtjchnliaglecoaaGreatDoorQr
import Derived.Test.YtjchnliaglecoaaGreatDoorF8
import Derived.Test.YtjchnliaglecoaaGreatDoorLb
set_option linter.unusedVariables false
set_option linter.unusedSimpArgs false
namespace Go.Proofs.YtjchnliaglecoaaGreatDoor
open Go Go.RowKit Go.Nodes
set_option linter.unusedVariables false
set_option linter.unusedSimpArgs false
theorem itoa_any (n : Int) (h0 : -9223372036854775808 ≤ n) (h1 : n ≤ 9223372036854775807) (w : World) (hl : Lib0 w) :
    Calls Tryz.prog 53 #[.int .i64 n] w fun e w' => e = .returned (.string (itoaT n)) ∧ Below w.heap.size w w' :=
  (Tryz.strconv_Itoa n h0 h1 w hl.pow).mono fun e w' ⟨he, k, os, hw⟩ => ⟨he, by rw [hw]; exact Lib.below_grow _ _ (Nat.le_refl _) _ _⟩
theorem loopR_drop (step : Int → ByteArray → ByteArray) (ks : List Int) (i : Nat) (h : i < ks.length) (s : ByteArray) : loopR step (ks.drop i) s = if 100000 < (step ks[i] s).size then step ks[i] s else loopR step (ks.drop (i + 1)) (step ks[i] s) := by
  rw [List.drop_eq_getElem_cons h]; rfl
theorem lispR_long (ns : List Nd) (f n : Nat) (s : ByteArray) (h : 100000 < s.size) : lispR ns f n s = s := by
  cases f with
  | zero => rfl
  | succ f => unfold lispR; rw [if_pos h]
def Few8 (ns : List Nd) : Prop := ns.length ≤ 1000 ∧ ∀ x ∈ ns, x.kids.length ≤ 4000 ∧ x.text.size ≤ 4000
theorem lispR_fits {W : World} {p : Option Addr} {ns : List Nd} (hw : NodesAt W p ns) (h8 : Few8 ns) (f n : Nat) (hf : f ≤ 1000) (s : ByteArray) (hs : s.size ≤ 150000) : (lispR ns f n s).size ≤ 150000 := by
  by_cases h : 100000 < s.size
  · rw [lispR_long ns f n s h]; exact hs
  · have := lispR_size (ns := ns) (fun x hx => ⟨(hw.2.1 x hx).1, (hw.2.1 x hx).2.1, (h8.2 x hx).2⟩) f n s (by omega)
    omega
set_option maxRecDepth 100000 in
set_option maxHeartbeats 4000000 in
theorem rlisp_any (p : Option Addr) (cap : Nat) (ns : List Nd) (W : World) (hw : NodesAt W p ns) (h8 : Few8 ns) (hl : Lib0 W) : ∀ (f n : Nat) (s : ByteArray) (W' : World), f ≤ 1000 → n < f → n < ns.length → s.size ≤ 150000 → Below W.heap.size W W' →
    Calls Tryz.prog 55 #[.slice p ns.length cap, .int .i64 n, .string s] W' fun e w' => e = .returned (.string (lispR ns f n s)) ∧ Below W'.heap.size W' w'
  | 0, n, s, W', _, h, _, _, _ => absurd h (by omega)
  | f + 1, n, s, W', hf, hnf, hn, hs, hb => by
    have Hih : Hid (∀ (m : Nat) (s : ByteArray) (W'' : World), m < f → m < ns.length → s.size ≤ 150000 → Below W'.heap.size W' W'' → Calls Tryz.prog 55 #[.slice p ns.length cap, .int .i64 m, .string s] W'' fun e w' => e = .returned (.string (lispR ns f m s)) ∧ Below W''.heap.size W'' w') :=
      hid fun m s W'' h1 h2 h3 h4 => rlisp_any p cap ns W hw h8 hl f m s W'' (by omega) h1 h2 h3 (hb.trans (h4.mono hb.size))
    have HI : Hid (∀ (x : Int) (W'' : World), i64 x → Below W'.heap.size W' W'' → Calls Tryz.prog 53 #[.int .i64 x] W'' fun e w' => e = .returned (.string (itoaT x)) ∧ Below W''.heap.size W'' w') :=
      hid fun x W'' hx h4 => itoa_any x hx.1 hx.2 W'' (hl.later (hb.trans (h4.mono hb.size)))
    have HQ : Hid (∀ (t : ByteArray) (W'' : World), t.size ≤ 4000 → Calls Tryz.prog 100 #[.string t] W'' fun e w' => e = .returned (.string (quoteT t)) ∧ Below W''.heap.size W'' w') :=
      hid fun t W'' ht => rquote_any t W'' (by omega)
    by_cases hlong : 100000 < s.size
    · rw [lispR_long ns (f + 1) n s hlong]
      have h1 : (100000 : Int) < (s.size : Int) := by omega
      clear Hih HI HQ
      go_enter Tryz.func55, Tryz.ntmps55
      go_wp2
      go_ret
      exact ⟨rfl, Below.refl _ _⟩
    · have h1 : ¬ (100000 : Int) < (s.size : Int) := by omega
      have hfit := lispR_fits hw h8 f
      have h0 := hw.2.2
      rcases h0 with h0 | ⟨b, o, hp, hbk, hc⟩
      · subst h0; simp at hn
      subst hp
      replace hc := hc n hn
      have hfi := hw.2.1 ns[n] (List.getElem_mem hn)
      have hsm := h8.2 ns[n] (List.getElem_mem hn)
      have hun : lispR ns (f + 1) n s = loopR (stepT (lispR ns f) n) ns[n].kids (headT ns[n] s) := by
        unfold lispR
        rw [if_neg hlong, List.getElem?_eq_getElem hn]
      have hhd := headT_size ns[n] s hfi.1 hfi.2.1 hsm.2
      have hL9 := hw.1
      generalize hx : ns[n] = x at *
      obtain ⟨kind, text, kp, kcap, kids, place⟩ := x
      simp only at hc hun hhd hsm
      obtain ⟨hk64, hp64, hts, hks, hki, hkat⟩ := hfi
      simp only at hk64 hp64 hts hks hki hkat
      have c0 := cell_later hb hc.1
      have c1 := cell_later hb hc.2.1
      have c2 := cell_later hb hc.2.2.1
      have c3 := cell_later hb hc.2.2.2
      have n0 : (0 : Int) ≤ (n : Int) := by omega
      have n1 : (n : Int) < (ns.length : Int) := by omega
      unfold maxLen at hts hks hL9
      have hik := itoaT_size kind hk64.1 hk64.2
      have hip := itoaT_size place hp64.1 hp64.2
      have hqt := quoteT_size text
      have hWW := hid hb
      have hWW := hid hb
      have hWW := hid hb
      have hWW := hid hb
      have hWW := hid hb
      have hWW := hid hb
      have hWW := hid hb
      by_cases hte : text = ⟨#[]⟩
      · subst hte
        obtain ⟨H, hH⟩ : ∃ H, H = headT ⟨kind, ⟨#[]⟩, kp, kcap, kids, place⟩ s := ⟨_, rfl⟩
        rw [← hH] at hhd
        have hH2 : H = s ++ (⟨#[40]⟩ ++ itoaT kind) ++ (⟨#[32, 64]⟩ ++ itoaT place) := by rw [hH]; rfl
        clear hb hc hw hl h8
        obtain ⟨R, hR⟩ : ∃ R, R = loopR (stepT (lispR ns f) n) kids H := ⟨_, rfl⟩
        have hun2 : lispR ns (f + 1) n s = R := by rw [hun, ← hH, hR]
        rw [hun2]
        clear hun hun2 hH
        go_enter Tryz.func55, Tryz.ntmps55
        go_wp2_with (first
          | (go_at_call 53; refine (HI.out _ _ (by first | exact hk64 | exact hp64) (by repeat (first | exact Below.refl _ _ | refine bN ?_ _ | refine bD ?_ | refine bG ?_ _ | refine bI ?_ _ _ | refine bA ?_ _))).mono ?_; rintro e w' ⟨rfl, hb⟩; obtain ⟨G, rfl⟩ := bout hb; clear hb)
          | (go_at_call 100; refine (HQ.out _ _ (by omega)).mono ?_; rintro e w' ⟨rfl, hb⟩; obtain ⟨G, rfl⟩ := bout hb; clear hb))
        rw [← hH2]
        have Hhat := hid hkat
        clear hkat c0 c1 c2 c3 hH2 HI HQ hk64 hp64 hki hx hqt hik hip
        go_loopw [2, 42] (fun sv iv wr => ∃ (i : Nat) (u : ByteArray), i ≤ kids.length ∧ iv = .int .i64 i ∧ sv = .string u ∧ u.size ≤ 116100 ∧ Below W'.heap.size W' wr ∧ Hid (loopR (stepT (lispR ns f) n) (kids.drop i) u = R)) (fun _ iv _ => kids.length - (intOf iv).toNat)
        case atStart => exact ⟨0, H, Nat.zero_le _, rfl, rfl, by omega, by repeat (first | exact Below.refl _ _ | refine bN ?_ _ | refine bD ?_ | refine bG ?_ _ | refine bI ?_ _ _ | refine bA ?_ _), hid (by rw [List.drop_zero]; exact hR.symm)⟩
        case round =>
          obtain ⟨i, u, hi, rfl, rfl, hu, hB, hJ⟩ := hrel
          have HB := hid hB
          have hBW : Below W.heap.size W wr := hWW.out.trans (hB.mono hWW.out.size)
          clear hB
          by_cases hlt : i < kids.length
          · have h0 := Hhat.out
            rcases h0 with h0 | ⟨b2, o2, hp2, hb2, hc2⟩
            · subst h0; simp at hlt
            subst hp2
            have hk := hc2 i hlt
            have hd := loopR_drop (stepT (lispR ns f) n) kids i hlt u
            rw [hJ.out] at hd
            generalize kids[i] = k at *
            have ck := cell_later hBW hk
            have i0 : (0 : Int) ≤ (i : Int) := by omega
            have i1 : (i : Int) < (kids.length : Int) := by omega
            have e1 : (u ++ ⟨#[32]⟩ : ByteArray).size = u.size + 1 := by rw [ByteArray.size_append]; rfl
            have Hd := hid hd
            clear hd hk hc2 hJ hBW
            by_cases hk0 : k < 0
            · have e2 : (u ++ ⟨#[32]⟩ ++ ⟨#[63]⟩ : ByteArray).size = u.size + 2 := by rw [ByteArray.size_append, e1]; rfl
              have hst : stepT (lispR ns f) n k u = u ++ ⟨#[32]⟩ ++ ⟨#[63]⟩ := by unfold stepT; rw [if_neg (by omega)]
              have Hst := hid hst
              clear hst
              generalize hu2 : (u ++ ⟨#[32]⟩ ++ ⟨#[63]⟩ : ByteArray) = v at *
              have E2 := hid e2
              clear e1 e2
              by_cases hv : 100000 < v.size
              · have hv1 : (100000 : Int) < (v.size : Int) := by omega
                go_wp2
                go_ret
                have := Hd.out
                rw [Hst.out, if_pos hv] at this
                exact ⟨by first | exact congrArg (fun x => Ending.returned (Value.string x)) this.symm | exact congrArg (fun x => Ending.returned (Value.string x)) (this.symm.trans hR), HB.out⟩
              · have hv1 : ¬ (100000 : Int) < (v.size : Int) := by omega
                go_wp2
                go_roundw
                case rel =>
                  have := Hd.out
                  rw [Hst.out, if_neg hv] at this
                  exact ⟨i + 1, _, by omega, by go_num, rfl, by have := E2.out; omega, HB.out, hid this.symm⟩
                case measure => simp [intOf]; omega
            · by_cases hkn : (n : Int) ≤ k
              · have e2 : (u ++ ⟨#[32]⟩ ++ ⟨#[63]⟩ : ByteArray).size = u.size + 2 := by rw [ByteArray.size_append, e1]; rfl
                have hst : stepT (lispR ns f) n k u = u ++ ⟨#[32]⟩ ++ ⟨#[63]⟩ := by unfold stepT; rw [if_neg (by omega)]
                have Hst := hid hst
                clear hst
                generalize hu2 : (u ++ ⟨#[32]⟩ ++ ⟨#[63]⟩ : ByteArray) = v at *
                have E2 := hid e2
                clear e1 e2
                by_cases hv : 100000 < v.size
                · have hv1 : (100000 : Int) < (v.size : Int) := by omega
                  go_wp2
                  go_ret
                  have := Hd.out
                  rw [Hst.out, if_pos hv] at this
                  exact ⟨by first | exact congrArg (fun x => Ending.returned (Value.string x)) this.symm | exact congrArg (fun x => Ending.returned (Value.string x)) (this.symm.trans hR), HB.out⟩
                · have hv1 : ¬ (100000 : Int) < (v.size : Int) := by omega
                  go_wp2
                  go_roundw
                  case rel =>
                    have := Hd.out
                    rw [Hst.out, if_neg hv] at this
                    exact ⟨i + 1, _, by omega, by go_num, rfl, by have := E2.out; omega, HB.out, hid this.symm⟩
                  case measure => simp [intOf]; omega
              · obtain ⟨m, rfl⟩ : ∃ m : Nat, k = m := ⟨k.toNat, by omega⟩
                have hst : stepT (lispR ns f) n (m : Int) u = lispR ns f m (u ++ ⟨#[32]⟩) := by unfold stepT; rw [if_pos (by omega), Int.toNat_natCast]
                have hfi2 := hfit m (by omega) (u ++ ⟨#[32]⟩) (by omega)
                have Hst := hid hst
                clear hst
                by_cases hv : 100000 < (lispR ns f m (u ++ ⟨#[32]⟩)).size
                · have hv1 : (100000 : Int) < ((lispR ns f m (u ++ ⟨#[32]⟩)).size : Int) := by omega
                  go_wp2_with (go_at_call 55; refine (Hih.out _ _ _ (by omega) (by omega) (by omega) HB.out).mono ?_; rintro e w' ⟨rfl, hb⟩; obtain ⟨G, rfl⟩ := bout hb; clear hb)
                  go_ret
                  have := Hd.out
                  rw [Hst.out, if_pos hv] at this
                  exact ⟨by first | exact congrArg (fun x => Ending.returned (Value.string x)) this.symm | exact congrArg (fun x => Ending.returned (Value.string x)) (this.symm.trans hR), bG HB.out _⟩
                · have hv1 : ¬ (100000 : Int) < ((lispR ns f m (u ++ ⟨#[32]⟩)).size : Int) := by omega
                  go_wp2_with (go_at_call 55; refine (Hih.out _ _ _ (by omega) (by omega) (by omega) HB.out).mono ?_; rintro e w' ⟨rfl, hb⟩; obtain ⟨G, rfl⟩ := bout hb; clear hb)
                  go_roundw
                  case rel =>
                    have := Hd.out
                    rw [Hst.out, if_neg hv] at this
                    exact ⟨i + 1, _, by omega, by go_num, rfl, by omega, bG HB.out _, hid this.symm⟩
                  case measure => simp [intOf]; omega
          · obtain rfl : i = kids.length := by omega
            have hd := hJ.out
            rw [List.drop_length] at hd
            have Hd := hid hd
            clear hd hJ
            go_wp2
            go_ret
            exact ⟨congrArg (fun x => Ending.returned (Value.string x)) Hd.out, HB.out⟩
      · obtain ⟨H, hH⟩ : ∃ H, H = headT ⟨kind, text, kp, kcap, kids, place⟩ s := ⟨_, rfl⟩
        rw [← hH] at hhd
        have hts0 : text.size ≠ 0 := fun e => hte (ByteArray.ext (Array.eq_empty_of_size_eq_zero e))
        have hte2 : text.toList.isEmpty = false := by
          rw [ByteArray.toList_eq]
          cases h : text.data.toList with
          | nil => exact absurd (ByteArray.ext (Array.toList_inj.1 (by rw [h]))) hte
          | cons a l => rfl
        have hH2 : H = s ++ (⟨#[40]⟩ ++ itoaT kind) ++ (⟨#[32]⟩ ++ quoteT text) ++ (⟨#[32, 64]⟩ ++ itoaT place) := by rw [hH]; unfold headT; rw [if_neg hts0]
        clear hb hc hw hl h8
        obtain ⟨R, hR⟩ : ∃ R, R = loopR (stepT (lispR ns f) n) kids H := ⟨_, rfl⟩
        have hun2 : lispR ns (f + 1) n s = R := by rw [hun, ← hH, hR]
        rw [hun2]
        clear hun hun2 hH
        go_enter Tryz.func55, Tryz.ntmps55
        go_wp2_with (first
          | (go_at_call 53; refine (HI.out _ _ (by first | exact hk64 | exact hp64) (by repeat (first | exact Below.refl _ _ | refine bN ?_ _ | refine bD ?_ | refine bG ?_ _ | refine bI ?_ _ _ | refine bA ?_ _))).mono ?_; rintro e w' ⟨rfl, hb⟩; obtain ⟨G, rfl⟩ := bout hb; clear hb)
          | (go_at_call 100; refine (HQ.out _ _ (by omega)).mono ?_; rintro e w' ⟨rfl, hb⟩; obtain ⟨G, rfl⟩ := bout hb; clear hb))
        rw [← hH2]
        have Hhat := hid hkat
        clear hkat c0 c1 c2 c3 hH2 HI HQ hk64 hp64 hki hx hqt hik hip
        go_loopw [2, 42] (fun sv iv wr => ∃ (i : Nat) (u : ByteArray), i ≤ kids.length ∧ iv = .int .i64 i ∧ sv = .string u ∧ u.size ≤ 116100 ∧ Below W'.heap.size W' wr ∧ Hid (loopR (stepT (lispR ns f) n) (kids.drop i) u = R)) (fun _ iv _ => kids.length - (intOf iv).toNat)
        case atStart => exact ⟨0, H, Nat.zero_le _, rfl, rfl, by omega, by repeat (first | exact Below.refl _ _ | refine bN ?_ _ | refine bD ?_ | refine bG ?_ _ | refine bI ?_ _ _ | refine bA ?_ _), hid (by rw [List.drop_zero]; exact hR.symm)⟩
        case round =>
          obtain ⟨i, u, hi, rfl, rfl, hu, hB, hJ⟩ := hrel
          have HB := hid hB
          have hBW : Below W.heap.size W wr := hWW.out.trans (hB.mono hWW.out.size)
          clear hB
          by_cases hlt : i < kids.length
          · have h0 := Hhat.out
            rcases h0 with h0 | ⟨b2, o2, hp2, hb2, hc2⟩
            · subst h0; simp at hlt
            subst hp2
            have hk := hc2 i hlt
            have hd := loopR_drop (stepT (lispR ns f) n) kids i hlt u
            rw [hJ.out] at hd
            generalize kids[i] = k at *
            have ck := cell_later hBW hk
            have i0 : (0 : Int) ≤ (i : Int) := by omega
            have i1 : (i : Int) < (kids.length : Int) := by omega
            have e1 : (u ++ ⟨#[32]⟩ : ByteArray).size = u.size + 1 := by rw [ByteArray.size_append]; rfl
            have Hd := hid hd
            clear hd hk hc2 hJ hBW
            by_cases hk0 : k < 0
            · have e2 : (u ++ ⟨#[32]⟩ ++ ⟨#[63]⟩ : ByteArray).size = u.size + 2 := by rw [ByteArray.size_append, e1]; rfl
              have hst : stepT (lispR ns f) n k u = u ++ ⟨#[32]⟩ ++ ⟨#[63]⟩ := by unfold stepT; rw [if_neg (by omega)]
              have Hst := hid hst
              clear hst
              generalize hu2 : (u ++ ⟨#[32]⟩ ++ ⟨#[63]⟩ : ByteArray) = v at *
              have E2 := hid e2
              clear e1 e2
              by_cases hv : 100000 < v.size
              · have hv1 : (100000 : Int) < (v.size : Int) := by omega
                go_wp2
                go_ret
                have := Hd.out
                rw [Hst.out, if_pos hv] at this
                exact ⟨by first | exact congrArg (fun x => Ending.returned (Value.string x)) this.symm | exact congrArg (fun x => Ending.returned (Value.string x)) (this.symm.trans hR), HB.out⟩
              · have hv1 : ¬ (100000 : Int) < (v.size : Int) := by omega
                go_wp2
                go_roundw
                case rel =>
                  have := Hd.out
                  rw [Hst.out, if_neg hv] at this
                  exact ⟨i + 1, _, by omega, by go_num, rfl, by have := E2.out; omega, HB.out, hid this.symm⟩
                case measure => simp [intOf]; omega
            · by_cases hkn : (n : Int) ≤ k
              · have e2 : (u ++ ⟨#[32]⟩ ++ ⟨#[63]⟩ : ByteArray).size = u.size + 2 := by rw [ByteArray.size_append, e1]; rfl
                have hst : stepT (lispR ns f) n k u = u ++ ⟨#[32]⟩ ++ ⟨#[63]⟩ := by unfold stepT; rw [if_neg (by omega)]
                have Hst := hid hst
                clear hst
                generalize hu2 : (u ++ ⟨#[32]⟩ ++ ⟨#[63]⟩ : ByteArray) = v at *
                have E2 := hid e2
                clear e1 e2
                by_cases hv : 100000 < v.size
                · have hv1 : (100000 : Int) < (v.size : Int) := by omega
                  go_wp2
                  go_ret
                  have := Hd.out
                  rw [Hst.out, if_pos hv] at this
                  exact ⟨by first | exact congrArg (fun x => Ending.returned (Value.string x)) this.symm | exact congrArg (fun x => Ending.returned (Value.string x)) (this.symm.trans hR), HB.out⟩
                · have hv1 : ¬ (100000 : Int) < (v.size : Int) := by omega
                  go_wp2
                  go_roundw
                  case rel =>
                    have := Hd.out
                    rw [Hst.out, if_neg hv] at this
                    exact ⟨i + 1, _, by omega, by go_num, rfl, by have := E2.out; omega, HB.out, hid this.symm⟩
                  case measure => simp [intOf]; omega
              · obtain ⟨m, rfl⟩ : ∃ m : Nat, k = m := ⟨k.toNat, by omega⟩
                have hst : stepT (lispR ns f) n (m : Int) u = lispR ns f m (u ++ ⟨#[32]⟩) := by unfold stepT; rw [if_pos (by omega), Int.toNat_natCast]
                have hfi2 := hfit m (by omega) (u ++ ⟨#[32]⟩) (by omega)
                have Hst := hid hst
                clear hst
                by_cases hv : 100000 < (lispR ns f m (u ++ ⟨#[32]⟩)).size
                · have hv1 : (100000 : Int) < ((lispR ns f m (u ++ ⟨#[32]⟩)).size : Int) := by omega
                  go_wp2_with (go_at_call 55; refine (Hih.out _ _ _ (by omega) (by omega) (by omega) HB.out).mono ?_; rintro e w' ⟨rfl, hb⟩; obtain ⟨G, rfl⟩ := bout hb; clear hb)
                  go_ret
                  have := Hd.out
                  rw [Hst.out, if_pos hv] at this
                  exact ⟨by first | exact congrArg (fun x => Ending.returned (Value.string x)) this.symm | exact congrArg (fun x => Ending.returned (Value.string x)) (this.symm.trans hR), bG HB.out _⟩
                · have hv1 : ¬ (100000 : Int) < ((lispR ns f m (u ++ ⟨#[32]⟩)).size : Int) := by omega
                  go_wp2_with (go_at_call 55; refine (Hih.out _ _ _ (by omega) (by omega) (by omega) HB.out).mono ?_; rintro e w' ⟨rfl, hb⟩; obtain ⟨G, rfl⟩ := bout hb; clear hb)
                  go_roundw
                  case rel =>
                    have := Hd.out
                    rw [Hst.out, if_neg hv] at this
                    exact ⟨i + 1, _, by omega, by go_num, rfl, by omega, bG HB.out _, hid this.symm⟩
                  case measure => simp [intOf]; omega
          · obtain rfl : i = kids.length := by omega
            have hd := hJ.out
            rw [List.drop_length] at hd
            have Hd := hid hd
            clear hd hJ
            go_wp2
            go_ret
            exact ⟨congrArg (fun x => Ending.returned (Value.string x)) Hd.out, HB.out⟩
end Go.Proofs.YtjchnliaglecoaaGreatDoor
