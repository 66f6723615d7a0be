/- show.Lisp, walked. Conditions: few nodes; the library's variables. -/
import Derived.Test.YtjchnliaglecoaaGreatDoorR8
import Derived.Test.YtjchnliaglecoaaGreatDoorW8
set_option linter.unusedVariables false
set_option linter.unusedSimpArgs false
namespace Go.Proofs.YtjchnliaglecoaaGreatDoor
open Go Go.RowKit Go.Nodes Go.Am
set_option linter.unusedVariables false
set_option linter.unusedSimpArgs false
/-- In the midst of a node: the builder, the node's own block, what stays. -/
structure St8 (W0 : World) (S : Value) (u : ByteArray) (xb : Nat) (X : Array Value) (w w' : World) : Prop where
  lw : LW W0 S u w'
  box : w'.heap[xb]? = some (.cells X 56 (0, 0))
  keep : Keep W0 w w'
theorem LW.below {W0 w : World} {S : Value} {u : ByteArray} (h : LW W0 S u w) : Below W0.heap.size W0 w := h.elim (·.below) (·.below)
theorem LW.down {W0 w : World} {S : Value} {u : ByteArray} (h : LW W0 S u w) : w.cell? ⟨W0.heap.size + 2, 0, none⟩ = some (.func (.func 50) #[] #[.pointer (some ⟨W0.heap.size + 1, 0, none⟩), .pointer (some ⟨W0.heap.size, 0, none⟩), .pointer (some ⟨W0.heap.size + 2, 0, none⟩)]) := by
  rcases h with h | h <;> (rw [Lib.cell_of_heap h.down]; rfl)
theorem LW.nodes {W0 w : World} {S : Value} {u : ByteArray} (h : LW W0 S u w) : w.cell? ⟨W0.heap.size, 0, none⟩ = some S := by
  rcases h with h | h <;> (rw [Lib.cell_of_heap h.nodes]; rfl)
theorem LW.bsize {W0 w : World} {S : Value} {u : ByteArray} (h : LW W0 S u w) : W0.heap.size + 2 < w.heap.size := h.elim (·.size) (·.size)
theorem St8.later {W0 w w' w'' : World} {S : Value} {u : ByteArray} {xb : Nat} {X : Array Value} (h : St8 W0 S u xb X w w') (hb : Below w'.heap.size w' w'') : St8 W0 S u xb X w w'' :=
  ⟨h.lw.later hb, block_later h.box hb, h.keep.trans (keep_below hb)⟩
theorem write8 {W0 w w' : World} {S : Value} {u : ByteArray} {xb : Nat} {X : Array Value} (h : St8 W0 S u xb X w w') (hx : xb ≠ W0.heap.size + 1) (s : ByteArray) (hlen : u.size + s.size ≤ 1000000000) :
    Calls Tryz.prog 52 #[.pointer (some ⟨W0.heap.size + 1, 0, none⟩), .string s] w' fun e w2 => e = .returned (.tuple #[.int .i64 s.size, .nilIface]) ∧ St8 W0 S (u ++ s) xb X w w2 :=
  (write_lw h.lw s hlen).mono fun e w2 ⟨he, h1, h2⟩ => ⟨he, h1, h2 _ _ _ h.box (by decide) hx, h.keep.trans h2⟩
theorem loopP_drop (step : Int → ByteArray → ByteArray) (ks : List Int) (i : Nat) (h : i < ks.length) (s : ByteArray) : loopP step (ks.drop i) s = if 100000 < s.size then s else loopP step (ks.drop (i + 1)) (step ks[i] s) := by
  rw [List.drop_eq_getElem_cons h]; rfl
theorem lispP_long (ns : List Nd) (f n : Nat) (s : ByteArray) (h : 100000 < s.size) : lispP ns f n s = s := by
  cases f with
  | zero => rfl
  | succ f => unfold lispP; rw [if_pos h]
theorem lispP_fits {W : World} {p : Option Addr} {ns : List Nd} (hw : NodesAt W p ns) (h8 : Few8 ns) (f n : Nat) (hf : f ≤ 1000) (s : ByteArray) (hs : s.size ≤ 150000) : (lispP ns f n s).size ≤ 150000 := by
  by_cases h : 100000 < s.size
  · rw [lispP_long ns f n s h]; exact hs
  · have := lispP_size (ns := ns) (fun x hx => ⟨(hw.2.1 x hx).1, (hw.2.1 x hx).2.1, (h8.2 x hx).2⟩) f n s (by omega)
    omega
set_option maxRecDepth 100000 in
set_option maxHeartbeats 4000000 in
theorem down_any (p : Option Addr) (cap : Nat) (ns : List Nd) (W : World) (hw : NodesAt W p ns) (h8 : Few8 ns) (hl : Lib0 W) : ∀ (f n : Nat) (u : ByteArray) (w : World), f ≤ 1000 → n < f → n < ns.length → u.size ≤ 150000 → LW W (.slice p ns.length cap) u w →
    Calls Tryz.prog 50 #[.int .i64 n, .pointer (some ⟨W.heap.size + 1, 0, none⟩), .pointer (some ⟨W.heap.size, 0, none⟩), .pointer (some ⟨W.heap.size + 2, 0, none⟩)] w fun e w' => e = .returned (.tuple #[]) ∧ LW W (.slice p ns.length cap) (lispP ns f n u) w' ∧ Keep W w w'
  | 0, n, u, w, _, h, _, _, _ => absurd h (by omega)
  | f + 1, n, u, w, hf, hnf, hn, hs, hlw => by
    have Hih : Hid (∀ (m : Nat) (u : ByteArray) (w : World), m < f → m < ns.length → u.size ≤ 150000 → LW W (.slice p ns.length cap) u w →
        Calls Tryz.prog 50 #[.int .i64 m, .pointer (some ⟨W.heap.size + 1, 0, none⟩), .pointer (some ⟨W.heap.size, 0, none⟩), .pointer (some ⟨W.heap.size + 2, 0, none⟩)] w fun e w' => e = .returned (.tuple #[]) ∧ LW W (.slice p ns.length cap) (lispP ns f m u) w' ∧ Keep W w w') :=
      hid fun m u w h1 h2 h3 h4 => down_any p cap ns W hw h8 hl f m u w (by omega) h1 h2 h3 h4
    have HI : Hid (∀ (x : Int) (w : World), i64 x → Below W.heap.size W w → Calls Tryz.prog 53 #[.int .i64 x] w fun e w' => e = .returned (.string (itoaT x)) ∧ Below w.heap.size w w') :=
      hid fun x w hx h4 => itoa_any x hx.1 hx.2 w (hl.later h4)
    have HQ : Hid (∀ (t : ByteArray) (w : World), t.size ≤ 4000 → Calls Tryz.prog 54 #[.string t] w fun e w' => e = .returned (.string (quoteT t)) ∧ Below w.heap.size w w') :=
      hid fun t w ht => quote_any t w (by omega)
    have HLW := hid hlw
    by_cases hlong : 100000 < u.size
    · rw [lispP_long ns (f + 1) n u hlong]
      have h1 : (100000 : Int) < (u.size : Int) := by omega
      clear Hih HI HQ hlw
      go_enter Tryz.func50, Tryz.ntmps50
      go_wp2_with (go_at_call 51; refine (len_lw HLW.out).mono ?_; rintro e w' ⟨rfl, rfl⟩)
      try simp only [Exit.inBlock, Exit.then]
      refine bodyPost_ret (results_none rfl _ _ _) rfl ?_
      exact ⟨rfl, HLW.out, fun g cs t h1 _ _ => h1⟩
    · have h1 : ¬ (100000 : Int) < (u.size : Int) := by omega
      have hfit := lispP_fits hw h8 f
      have h0 := hw.2.2
      rcases h0 with h0 | ⟨b, o, hp, hbk, hc⟩
      · subst h0; simp at hn
      subst hp
      replace hc := hc n hn
      have hfi := hw.2.1 ns[n] (List.getElem_mem hn)
      have hsm := h8.2 ns[n] (List.getElem_mem hn)
      have hun : lispP ns (f + 1) n u = loopP (stepT (lispP ns f) n) ns[n].kids (headT ns[n] u) := by
        unfold lispP
        rw [if_neg hlong, List.getElem?_eq_getElem hn]
      have hhd := headT_size ns[n] u hfi.1 hfi.2.1 hsm.2
      have hL9 := hw.1
      generalize hx : ns[n] = x at *
      obtain ⟨kind, text, kp, kcap, kids, place⟩ := x
      simp only at hc hun hhd hsm
      obtain ⟨hk64, hp64, hts, hks, hki, hkat⟩ := hfi
      simp only at hk64 hp64 hts hks hki hkat
      have hb := hlw.below
      have c0 := cell_later hb hc.1
      have c1 := cell_later hb hc.2.1
      have c2 := cell_later hb hc.2.2.1
      have c3 := cell_later hb hc.2.2.2
      have cl := hlw.nodes
      have n0 : (0 : Int) ≤ (n : Int) := by omega
      have n1 : (n : Int) < (ns.length : Int) := by omega
      unfold maxLen at hts hks hL9
      have hik := itoaT_size kind hk64.1 hk64.2
      have hip := itoaT_size place hp64.1 hp64.2
      have hqt := quoteT_size text
      have hbs := hlw.bsize
      have e40 : (⟨#[40]⟩ : ByteArray).size = 1 := rfl
      have e32 : (⟨#[32]⟩ : ByteArray).size = 1 := rfl
      have e3264 : (⟨#[32, 64]⟩ : ByteArray).size = 2 := rfl
      obtain ⟨X, hX⟩ : ∃ X : Array Value, X = #[.int .i64 kind, .string text, .slice kp kids.length kcap, .int .i64 place] := ⟨_, rfl⟩
      obtain ⟨xb, hxb⟩ : ∃ xb, xb = w.heap.size := ⟨_, rfl⟩
      have HS1 : Hid (St8 W (.slice (some ⟨b, o, none⟩) ns.length cap) u xb X w (w.alloc (.cells X 56))) := hid (by
        rw [hxb]
        exact ⟨hlw.later ((Below.refl _ _).alloc (Nat.le_refl _) _), heap_alloc_new _ _, keep_below ((Below.refl _ _).alloc (Nat.le_refl _) _)⟩)
      have hxne : xb ≠ W.heap.size + 1 := by omega
      have hcells : ∀ (u' : ByteArray) (w' : World), St8 W (.slice (some ⟨b, o, none⟩) ns.length cap) u' xb X w w' → w'.cell? ⟨xb, 0, none⟩ = some (.int .i64 kind) ∧ w'.cell? ⟨xb, 1, none⟩ = some (.string text) ∧ w'.cell? ⟨xb, 2, none⟩ = some (.slice kp kids.length kcap) ∧ w'.cell? ⟨xb, 3, none⟩ = some (.int .i64 place) := fun u' w' h => by
        have hh := h.box
        rw [hX] at hh
        refine ⟨?_, ?_, ?_, ?_⟩ <;> (rw [Lib.cell_of_heap hh]; rfl)
      have HC := hid hcells
      have hXw : w.alloc (.cells #[.int .i64 kind, .string text, .slice kp kids.length kcap, .int .i64 place] 56) = w.alloc (.cells X 56) := by rw [hX]
      have HXw := hid hXw
      have Hxb := hid hxb
      obtain ⟨R, hR⟩ : ∃ R, R = loopP (stepT (lispP ns f) n) kids (headT ⟨kind, text, kp, kcap, kids, place⟩ u) := ⟨_, rfl⟩
      have hun2 : lispP ns (f + 1) n u = R := by rw [hun, hR]
      rw [hun2]
      obtain ⟨H, hH⟩ : ∃ H, H = headT ⟨kind, text, kp, kcap, kids, place⟩ u := ⟨_, rfl⟩
      rw [← hH] at hhd hR
      have HR := hid hR
      have HH := hid hH
      have Hhat := hid hkat
      clear hb hc hw hl h8 hun hun2 hlw hcells hXw hxb hR hH hkat hx hX
      go_enter Tryz.func50, Tryz.ntmps50
      go_wp2_with (first | (go_at_call 51; refine (len_lw HLW.out).mono ?_; rintro e w' ⟨rfl, hw'⟩; rw [hw']; clear hw') | (go_at_call 53; rw [HXw.out]; refine (HI.out _ _ hk64 HS1.out.lw.below).mono ?_))
      rintro e w2 ⟨rfl, hb2⟩
      rw [← Hxb.out]
      have HS2 := hid (HS1.out.later hb2)
      clear hb2
      go_wp2_with (go_at_call 52; refine (write8 HS2.out hxne _ (by rw [ByteArray.size_append]; omega)).mono ?_)
      rintro e w3 ⟨rfl, hs3⟩
      have HS3 := hid hs3
      obtain ⟨x0, x1, x2, x3⟩ := HC.out _ _ hs3
      clear hs3
      by_cases hte : text = ⟨#[]⟩
      · subst hte
        go_wp2_with (go_at_call 53; refine (HI.out _ _ hp64 HS3.out.lw.below).mono ?_)
        rintro e w4 ⟨rfl, hb4⟩
        have HS4 := hid (HS3.out.later hb4)
        clear hb4 x0 x1 x2 x3
        go_wp2_with (go_at_call 52; refine (write8 HS4.out hxne _ (by simp only [ByteArray.size_append]; omega)).mono ?_)
        rintro e w5 ⟨rfl, hs5⟩
        obtain ⟨x0, x1, x2, x3⟩ := HC.out _ _ hs5
        have hH2 : H = u ++ (⟨#[40]⟩ ++ itoaT kind) ++ (⟨#[32, 64]⟩ ++ itoaT place) := by rw [HH.out]; rfl
        rw [← hH2] at hs5
        have HS5 := hid hs5
        clear hs5
        go_wp2
        clear x0 x1 x2 x3 c0 c1 c2 c3 cl hqt hik hip hts hks
        go_loopw [35] (fun iv wr => ∃ (i : Nat) (q : ByteArray), i ≤ kids.length ∧ iv = .int .i64 i ∧ q.size ≤ 150000 ∧ Hid (St8 W (.slice (some ⟨b, o, none⟩) ns.length cap) q xb X w wr) ∧ Hid (loopP (stepT (lispP ns f) n) (kids.drop i) q = R)) (fun iv _ => kids.length - (intOf iv).toNat)
        case atStart => exact ⟨0, H, Nat.zero_le _, rfl, by omega, HS5, hid (by rw [List.drop_zero]; exact HR.out.symm)⟩
        case round =>
          obtain ⟨i, q, hi, rfl, hq, HQS, hJ⟩ := hrel
          have cd := HQS.out.lw.down
          by_cases hlt : i < kids.length
          · have h0 := Hhat.out
            rcases h0 with h0 | ⟨b2, o2, hp2, hb2, hc2⟩
            · subst h0; simp at hlt
            subst hp2
            have hk := hc2 i hlt
            have hd := loopP_drop (stepT (lispP ns f) n) kids i hlt q
            rw [hJ.out] at hd
            generalize kids[i] = k at *
            have ck := cell_later HQS.out.lw.below hk
            have i0 : (0 : Int) ≤ (i : Int) := by omega
            have i1 : (i : Int) < (kids.length : Int) := by omega
            have Hd := hid hd
            clear hd hk hc2 hJ
            by_cases hl9 : 100000 < q.size
            · have hl1 : (100000 : Int) < (q.size : Int) := by omega
              go_wp2_with (go_at_call 51; refine (len_lw HQS.out.lw).mono ?_; rintro e w' ⟨rfl, hw'⟩; rw [hw']; clear hw')
              try simp only [Exit.inBlock, Exit.then]
              refine bodyPost_ret (results_none rfl _ _ _) rfl ?_
              have hd := Hd.out
              rw [if_pos hl9] at hd
              exact ⟨rfl, by rw [hd]; exact HQS.out.lw, HQS.out.keep⟩
            · have hl1 : ¬ (100000 : Int) < (q.size : Int) := by omega
              have hd := Hd.out
              rw [if_neg hl9] at hd
              have Hd2 := hid hd
              clear hd
              go_wp2_with (first | (go_at_call 51; refine (len_lw HQS.out.lw).mono ?_; rintro e w' ⟨rfl, hw'⟩; rw [hw']; clear hw') | (go_at_call 52; refine (write8 HQS.out hxne _ (by omega)).mono ?_))
              rintro e w9 ⟨rfl, hs9⟩
              have cd9 := hs9.lw.down
              have HS9 := hid hs9
              have e9 : (q ++ ⟨#[32]⟩ : ByteArray).size = q.size + 1 := by rw [ByteArray.size_append]; rfl
              clear hs9 cd ck
              by_cases hk0 : k < 0
              · have hst : stepT (lispP ns f) n k q = q ++ ⟨#[32]⟩ ++ ⟨#[63]⟩ := by unfold stepT; rw [if_neg (by omega)]
                have Hst := hid hst
                clear hst
                go_wp2_with (go_at_call 52; refine (write8 HS9.out hxne _ (by have : (⟨#[63]⟩ : ByteArray).size = 1 := rfl; omega)).mono ?_)
                rintro e w10 ⟨rfl, hs10⟩
                have HS10 := hid hs10
                have e10 : (q ++ ⟨#[32]⟩ ++ ⟨#[63]⟩ : ByteArray).size = q.size + 2 := by rw [ByteArray.size_append, e9]; rfl
                clear hs10
                go_wp2
                go_roundw
                case rel => exact ⟨i + 1, _, by omega, by go_num, by omega, HS10, hid (by rw [← Hst.out]; exact Hd2.out.symm)⟩
                case measure => simp [intOf]; omega
              · by_cases hkn : (n : Int) ≤ k
                · have hst : stepT (lispP ns f) n k q = q ++ ⟨#[32]⟩ ++ ⟨#[63]⟩ := by unfold stepT; rw [if_neg (by omega)]
                  have Hst := hid hst
                  clear hst
                  go_wp2_with (go_at_call 52; refine (write8 HS9.out hxne _ (by have : (⟨#[63]⟩ : ByteArray).size = 1 := rfl; omega)).mono ?_)
                  rintro e w10 ⟨rfl, hs10⟩
                  have HS10 := hid hs10
                  have e10 : (q ++ ⟨#[32]⟩ ++ ⟨#[63]⟩ : ByteArray).size = q.size + 2 := by rw [ByteArray.size_append, e9]; rfl
                  clear hs10
                  go_wp2
                  go_roundw
                  case rel => exact ⟨i + 1, _, by omega, by go_num, by omega, HS10, hid (by rw [← Hst.out]; exact Hd2.out.symm)⟩
                  case measure => simp [intOf]; omega
                · obtain ⟨m, rfl⟩ : ∃ m : Nat, k = m := ⟨k.toNat, by omega⟩
                  have hst : stepT (lispP ns f) n (m : Int) q = lispP ns f m (q ++ ⟨#[32]⟩) := by unfold stepT; rw [if_pos (by omega), Int.toNat_natCast]
                  have hfi2 := hfit m (by omega) (q ++ ⟨#[32]⟩) (by omega)
                  have Hst := hid hst
                  clear hst
                  go_wp2_with (go_at_call 50; refine (Hih.out m _ _ (by omega) (by omega) (by omega) HS9.out.lw).mono ?_)
                  rintro e w10 ⟨rfl, hs10, hk10⟩
                  have HS10 : Hid (St8 W (.slice (some ⟨b, o, none⟩) ns.length cap) (lispP ns f m (q ++ ⟨#[32]⟩)) xb X w w10) := hid ⟨hs10, hk10 _ _ _ HS9.out.box (by decide) hxne, HS9.out.keep.trans hk10⟩
                  clear hs10 hk10
                  go_wp2
                  go_roundw
                  case rel => exact ⟨i + 1, _, by omega, by go_num, hfi2, HS10, hid (by rw [← Hst.out]; exact Hd2.out.symm)⟩
                  case measure => simp [intOf]; omega
          · obtain rfl : i = kids.length := by omega
            have hd := hJ.out
            rw [List.drop_length] at hd
            have Hd := hid hd
            clear hd hJ cd
            go_wp2_with (go_at_call 52; refine (write8 HQS.out hxne _ (by have : (⟨#[41]⟩ : ByteArray).size = 1 := rfl; omega)).mono ?_)
            rintro e w9 ⟨rfl, hs9⟩
            go_wp2
            go_end0
            exact ⟨rfl, by have := hs9.lw; rw [← Hd.out]; exact this, hs9.keep⟩
      · have hts0 : text.size ≠ 0 := fun e => hte (ByteArray.ext (Array.eq_empty_of_size_eq_zero e))
        have hte2 : text.toList.isEmpty = false := by
          rw [ByteArray.toList_eq]
          cases h : text.data.toList with
          | nil => exact absurd (ByteArray.ext (Array.toList_inj.1 (by rw [h]))) hte
          | cons a l => rfl
        go_wp2_with (go_at_call 54; refine (HQ.out _ _ (by omega)).mono ?_)
        rintro e w4 ⟨rfl, hb4⟩
        have HS4 := hid (HS3.out.later hb4)
        clear hb4 x0 x1 x2 x3
        go_wp2_with (go_at_call 52; refine (write8 HS4.out hxne _ (by simp only [ByteArray.size_append]; omega)).mono ?_)
        rintro e w5 ⟨rfl, hs5⟩
        have HS5 := hid hs5
        obtain ⟨x0, x1, x2, x3⟩ := HC.out _ _ hs5
        clear hs5
        go_wp2_with (go_at_call 53; refine (HI.out _ _ hp64 HS5.out.lw.below).mono ?_)
        rintro e w6 ⟨rfl, hb6⟩
        have HS6 := hid (HS5.out.later hb6)
        clear hb6 x0 x1 x2 x3
        go_wp2_with (go_at_call 52; refine (write8 HS6.out hxne _ (by simp only [ByteArray.size_append]; omega)).mono ?_)
        rintro e w7 ⟨rfl, hs5⟩
        obtain ⟨x0, x1, x2, x3⟩ := HC.out _ _ hs5
        have hH2 : H = u ++ (⟨#[40]⟩ ++ itoaT kind) ++ (⟨#[32]⟩ ++ quoteT text) ++ (⟨#[32, 64]⟩ ++ itoaT place) := by rw [HH.out]; unfold headT; rw [if_neg hts0]
        rw [← hH2] at hs5
        have HS5 := hid hs5
        clear hs5
        go_wp2
        clear x0 x1 x2 x3 c0 c1 c2 c3 cl hqt hik hip hts hks
        go_loopw [35] (fun iv wr => ∃ (i : Nat) (q : ByteArray), i ≤ kids.length ∧ iv = .int .i64 i ∧ q.size ≤ 150000 ∧ Hid (St8 W (.slice (some ⟨b, o, none⟩) ns.length cap) q xb X w wr) ∧ Hid (loopP (stepT (lispP ns f) n) (kids.drop i) q = R)) (fun iv _ => kids.length - (intOf iv).toNat)
        case atStart => exact ⟨0, H, Nat.zero_le _, rfl, by omega, HS5, hid (by rw [List.drop_zero]; exact HR.out.symm)⟩
        case round =>
          obtain ⟨i, q, hi, rfl, hq, HQS, hJ⟩ := hrel
          have cd := HQS.out.lw.down
          by_cases hlt : i < kids.length
          · have h0 := Hhat.out
            rcases h0 with h0 | ⟨b2, o2, hp2, hb2, hc2⟩
            · subst h0; simp at hlt
            subst hp2
            have hk := hc2 i hlt
            have hd := loopP_drop (stepT (lispP ns f) n) kids i hlt q
            rw [hJ.out] at hd
            generalize kids[i] = k at *
            have ck := cell_later HQS.out.lw.below hk
            have i0 : (0 : Int) ≤ (i : Int) := by omega
            have i1 : (i : Int) < (kids.length : Int) := by omega
            have Hd := hid hd
            clear hd hk hc2 hJ
            by_cases hl9 : 100000 < q.size
            · have hl1 : (100000 : Int) < (q.size : Int) := by omega
              go_wp2_with (go_at_call 51; refine (len_lw HQS.out.lw).mono ?_; rintro e w' ⟨rfl, hw'⟩; rw [hw']; clear hw')
              try simp only [Exit.inBlock, Exit.then]
              refine bodyPost_ret (results_none rfl _ _ _) rfl ?_
              have hd := Hd.out
              rw [if_pos hl9] at hd
              exact ⟨rfl, by rw [hd]; exact HQS.out.lw, HQS.out.keep⟩
            · have hl1 : ¬ (100000 : Int) < (q.size : Int) := by omega
              have hd := Hd.out
              rw [if_neg hl9] at hd
              have Hd2 := hid hd
              clear hd
              go_wp2_with (first | (go_at_call 51; refine (len_lw HQS.out.lw).mono ?_; rintro e w' ⟨rfl, hw'⟩; rw [hw']; clear hw') | (go_at_call 52; refine (write8 HQS.out hxne _ (by omega)).mono ?_))
              rintro e w9 ⟨rfl, hs9⟩
              have cd9 := hs9.lw.down
              have HS9 := hid hs9
              have e9 : (q ++ ⟨#[32]⟩ : ByteArray).size = q.size + 1 := by rw [ByteArray.size_append]; rfl
              clear hs9 cd ck
              by_cases hk0 : k < 0
              · have hst : stepT (lispP ns f) n k q = q ++ ⟨#[32]⟩ ++ ⟨#[63]⟩ := by unfold stepT; rw [if_neg (by omega)]
                have Hst := hid hst
                clear hst
                go_wp2_with (go_at_call 52; refine (write8 HS9.out hxne _ (by have : (⟨#[63]⟩ : ByteArray).size = 1 := rfl; omega)).mono ?_)
                rintro e w10 ⟨rfl, hs10⟩
                have HS10 := hid hs10
                have e10 : (q ++ ⟨#[32]⟩ ++ ⟨#[63]⟩ : ByteArray).size = q.size + 2 := by rw [ByteArray.size_append, e9]; rfl
                clear hs10
                go_wp2
                go_roundw
                case rel => exact ⟨i + 1, _, by omega, by go_num, by omega, HS10, hid (by rw [← Hst.out]; exact Hd2.out.symm)⟩
                case measure => simp [intOf]; omega
              · by_cases hkn : (n : Int) ≤ k
                · have hst : stepT (lispP ns f) n k q = q ++ ⟨#[32]⟩ ++ ⟨#[63]⟩ := by unfold stepT; rw [if_neg (by omega)]
                  have Hst := hid hst
                  clear hst
                  go_wp2_with (go_at_call 52; refine (write8 HS9.out hxne _ (by have : (⟨#[63]⟩ : ByteArray).size = 1 := rfl; omega)).mono ?_)
                  rintro e w10 ⟨rfl, hs10⟩
                  have HS10 := hid hs10
                  have e10 : (q ++ ⟨#[32]⟩ ++ ⟨#[63]⟩ : ByteArray).size = q.size + 2 := by rw [ByteArray.size_append, e9]; rfl
                  clear hs10
                  go_wp2
                  go_roundw
                  case rel => exact ⟨i + 1, _, by omega, by go_num, by omega, HS10, hid (by rw [← Hst.out]; exact Hd2.out.symm)⟩
                  case measure => simp [intOf]; omega
                · obtain ⟨m, rfl⟩ : ∃ m : Nat, k = m := ⟨k.toNat, by omega⟩
                  have hst : stepT (lispP ns f) n (m : Int) q = lispP ns f m (q ++ ⟨#[32]⟩) := by unfold stepT; rw [if_pos (by omega), Int.toNat_natCast]
                  have hfi2 := hfit m (by omega) (q ++ ⟨#[32]⟩) (by omega)
                  have Hst := hid hst
                  clear hst
                  go_wp2_with (go_at_call 50; refine (Hih.out m _ _ (by omega) (by omega) (by omega) HS9.out.lw).mono ?_)
                  rintro e w10 ⟨rfl, hs10, hk10⟩
                  have HS10 : Hid (St8 W (.slice (some ⟨b, o, none⟩) ns.length cap) (lispP ns f m (q ++ ⟨#[32]⟩)) xb X w w10) := hid ⟨hs10, hk10 _ _ _ HS9.out.box (by decide) hxne, HS9.out.keep.trans hk10⟩
                  clear hs10 hk10
                  go_wp2
                  go_roundw
                  case rel => exact ⟨i + 1, _, by omega, by go_num, hfi2, HS10, hid (by rw [← Hst.out]; exact Hd2.out.symm)⟩
                  case measure => simp [intOf]; omega
          · obtain rfl : i = kids.length := by omega
            have hd := hJ.out
            rw [List.drop_length] at hd
            have Hd := hid hd
            clear hd hJ cd
            go_wp2_with (go_at_call 52; refine (write8 HQS.out hxne _ (by have : (⟨#[41]⟩ : ByteArray).size = 1 := rfl; omega)).mono ?_)
            rintro e w9 ⟨rfl, hs9⟩
            go_wp2
            go_end0
            exact ⟨rfl, by have := hs9.lw; rw [← Hd.out]; exact this, hs9.keep⟩
end Go.Proofs.YtjchnliaglecoaaGreatDoor

/- ShowLisp: any nodes as brackets within brackets: the law, walked. Conditions: the library's variables. -/
namespace Go.Proofs.YtjchnliaglecoaaGreatDoor
open Go Go.RowKit Go.Nodes Go.Am
set_option linter.unusedVariables false
set_option linter.unusedSimpArgs false
def lispOut (u : ByteArray) : ByteArray := u.extract 0 (min u.size 100000)
/-- What the reference's Lisp answers. -/
def refLisp (ns : List Nd) : ByteArray := if ns.length = 0 then ⟨#[]⟩ else lispOut (lispR ns ns.length (ns.length - 1) ⟨#[]⟩)
def showLisp (ns : List Nd) : ByteArray := if ns.length = 0 then ⟨#[]⟩ else lispOut (lispP ns ns.length (ns.length - 1) ⟨#[]⟩)
theorem lisp_eq (ns : List Nd) : showLisp ns = refLisp ns := by
  unfold showLisp refLisp lispOut
  split
  · rfl
  · exact rel_cut (rel_lisp ns _ _ _)
set_option maxRecDepth 100000 in
set_option maxHeartbeats 4000000 in
theorem reflisp_any (p : Option Addr) (cap : Nat) (ns : List Nd) (W W' : World) (hw : NodesAt W p ns) (h8 : Few8 ns) (hl : Lib0 W) (hb : Below W.heap.size W W') :
    Calls Tryz.prog 24 #[.slice p ns.length cap] W' fun e w' => e = .returned (.string (refLisp ns)) ∧ Below W'.heap.size W' w' := by
  by_cases h0 : ns.length = 0
  · have hr : refLisp ns = ⟨#[]⟩ := by unfold refLisp; rw [if_pos h0]
    rw [hr, h0]
    clear hw h8 hl hb hr h0
    go_enter Tryz.func24, Tryz.ntmps24
    go_wp2
    go_ret
    exact ⟨rfl, Below.refl _ _⟩
  · obtain ⟨m, hm⟩ : ∃ m, ns.length = m + 1 := ⟨ns.length - 1, by omega⟩
    have hr : refLisp ns = lispOut (lispR ns (m + 1) m ⟨#[]⟩) := by unfold refLisp; rw [if_neg h0, hm]; rfl
    have HR : Hid (Calls Tryz.prog 55 #[.slice p (m + 1) cap, .int .i64 m, .string ⟨#[]⟩] W' fun e w' => e = .returned (.string (lispR ns (m + 1) m ⟨#[]⟩)) ∧ Below W'.heap.size W' w') := hid (by
      have := rlisp_any p cap ns W hw h8 hl (m + 1) m ⟨#[]⟩ W' (by have := h8.1; omega) (by omega) (by omega) (by show (0 : Nat) ≤ _; omega) hb
      rwa [hm] at this)
    have hsz : (lispR ns (m + 1) m ⟨#[]⟩).size ≤ 150000 := lispR_fits hw h8 _ _ (by have := h8.1; omega) _ (by show (0 : Nat) ≤ _; omega)
    have hm1 : m + 1 ≤ 1000 := by have := h8.1; omega
    rw [hr, hm]
    generalize lispR ns (m + 1) m ⟨#[]⟩ = u at *
    obtain ⟨v, hv⟩ : ∃ v, v = lispOut u := ⟨_, rfl⟩
    rw [← hv]
    have Hv := hid hv
    clear hw h8 hl hb hr h0 hm hv
    by_cases hu : u.size ≤ 100000
    · have hmin : min (u.size : Int) 100000 = (u.size : Int) := by omega
      have hvu : v = u := by
        have hmin2 : min u.size 100000 = u.size := by omega
        rw [Hv.out, lispOut, hmin2]
        simp
      go_enter Tryz.func24, Tryz.ntmps24
      go_wp2_with (go_at_call 55; refine HR.out.mono ?_; rintro e w' ⟨rfl, hb⟩; obtain ⟨G, rfl⟩ := bout hb; clear hb)
      go_ret
      exact ⟨congrArg (fun x => Ending.returned (Value.string x)) hvu.symm, bG (Below.refl _ _) _⟩
    · have hmin : min (u.size : Int) 100000 = 100000 := by omega
      have hvu : v = u.extract 0 100000 := by
        have hmin2 : min u.size 100000 = 100000 := by omega
        rw [Hv.out, lispOut, hmin2]
      have hlt : (100000 : Int) ≤ (u.size : Int) := by omega
      go_enter Tryz.func24, Tryz.ntmps24
      go_wp2_with (go_at_call 55; refine HR.out.mono ?_; rintro e w' ⟨rfl, hb⟩; obtain ⟨G, rfl⟩ := bout hb; clear hb)
      go_ret
      exact ⟨congrArg (fun x => Ending.returned (Value.string x)) hvu.symm, bG (Below.refl _ _) _⟩
theorem lw_start (W0 : World) (S : Value) : LW W0 S ⟨#[]⟩ (((W0.alloc (.cells #[S] 22)).alloc (.cells #[.pointer none, .slice none 0 0] 77)).alloc (.cells #[.func (.func 50) #[] #[.pointer (some ⟨W0.heap.size + 1, 0, none⟩), .pointer (some ⟨W0.heap.size, 0, none⟩), .pointer (some ⟨W0.heap.size + 2, 0, none⟩)]] 84)) := by
  have same : ∀ {w : World} {g : Nat} (h : g < w.heap.size) (o : Obj), (w.alloc o).heap[g]? = w.heap[g]? := fun {w g} h o => ((Below.refl w.heap.size w).alloc (Nat.le_refl _) o).block g h
  have e1 : ∀ o : Obj, (W0.alloc o).heap.size = W0.heap.size + 1 := fun o => by simp
  have e2 : ∀ o o' : Obj, ((W0.alloc o).alloc o').heap.size = W0.heap.size + 2 := fun o o' => by simp
  refine .inl ⟨bA (bA (bA (Below.refl _ _) _) _) _, ⟨.slice none 0 0, ?_, rfl, .inl ⟨rfl, rfl⟩⟩, ?_, ?_⟩
  · rw [same (by rw [e2]; omega), ← e1 (.cells #[S] 22)]
    exact heap_alloc_new _ _
  · rw [same (by rw [e2]; omega), same (by rw [e1]; omega)]
    exact heap_alloc_new _ _
  · rw [← e2 (.cells #[S] 22) (.cells #[.pointer none, .slice none 0 0] 77)]
    exact heap_alloc_new _ _
@[go_sem] theorem run_store_fn {P : Program} (w : World) (n i : Nat) (fn : Fn) (x y : Array Value) (v : Value) (hc : w.cell? ⟨n, i, none⟩ = some v) (hf : w.frozen? ⟨n, i, none⟩ = false) : (store ⟨n, i, none⟩ (.func fn x y)).run P w = .ok () (w.setCell ⟨n, i, none⟩ (.func fn x y)) := by
  rw [run_store P w _ _ _ rfl, hc]
  simp [hf]
set_option maxRecDepth 100000 in
set_option maxHeartbeats 4000000 in
theorem showlisp_any (p : Option Addr) (cap : Nat) (ns : List Nd) (W : World) (hw : NodesAt W p ns) (h8 : Few8 ns) (hl : Lib0 W) :
    Calls Tryz.prog 23 #[.slice p ns.length cap] W fun e w' => e = .returned (.string (showLisp ns)) ∧ Below W.heap.size W w' := by
  by_cases h0 : ns.length = 0
  · have hr : showLisp ns = ⟨#[]⟩ := by unfold showLisp; rw [if_pos h0]
    rw [hr, h0]
    clear hw h8 hl hr h0
    go_enter Tryz.func23, Tryz.ntmps23
    go_wp2_with (go_at_call 47; refine (stringNil_77 _ 0 _ (by simp [go_sem])).mono ?_; rintro e w' ⟨rfl, rfl⟩)
    go_ret
    exact ⟨rfl, by repeat (first | exact Below.refl _ _ | refine bN ?_ _ | refine bD ?_ | refine bG ?_ _ | refine bA ?_ _)⟩
  · obtain ⟨m, hm⟩ : ∃ m, ns.length = m + 1 := ⟨ns.length - 1, by omega⟩
    have hr : showLisp ns = lispOut (lispP ns (m + 1) m ⟨#[]⟩) := by unfold showLisp; rw [if_neg h0, hm]; rfl
    have hst := lw_start W (.slice p ns.length cap)
    have HR := hid (down_any p cap ns W hw h8 hl (m + 1) m ⟨#[]⟩ _ (by have := h8.1; omega) (by omega) (by omega) (by show (0 : Nat) ≤ _; omega) hst)
    have hsz : (lispP ns (m + 1) m ⟨#[]⟩).size ≤ 150000 := lispP_fits hw h8 _ _ (by have := h8.1; omega) _ (by show (0 : Nat) ≤ _; omega)
    have hm1 : m + 1 ≤ 1000 := by have := h8.1; omega
    have hne : (lispP ns (m + 1) m ⟨#[]⟩).size ≠ 0 := by
      unfold lispP
      rw [if_neg (by show ¬ 100000 < (0 : Nat); omega), List.getElem?_eq_getElem (by omega)]
      have h1 := (ext_loopP (ext_step (ext_lispP ns m) m) (ns[m]'(by omega)).kids (headT (ns[m]'(by omega)) ⟨#[]⟩)).size
      have h2 : 2 ≤ (headT (ns[m]'(by omega)) ⟨#[]⟩).size := by
        have e3 : (⟨#[32, 64]⟩ : ByteArray).size = 2 := rfl
        unfold headT
        rw [ByteArray.size_append, ByteArray.size_append, e3]
        omega
      show (loopP (stepT (lispP ns m) m) (ns[m]'(by omega)).kids (headT (ns[m]'(by omega)) ⟨#[]⟩)).size ≠ 0
      omega
    rw [hr]
    rw [hm] at HR ⊢
    generalize lispP ns (m + 1) m ⟨#[]⟩ = u at *
    obtain ⟨v, hv⟩ : ∃ v, v = lispOut u := ⟨_, rfl⟩
    rw [← hv]
    have Hv := hid hv
    clear hw h8 hl hr h0 hst hv
    by_cases hu : u.size ≤ 100000
    · have hmin : min (u.size : Int) 100000 = (u.size : Int) := by omega
      have hvu : v = u := by
        have hmin2 : min u.size 100000 = u.size := by omega
        rw [Hv.out, lispOut, hmin2]
        simp
      go_enter Tryz.func23, Tryz.ntmps23
      go_wp2_with (go_at_call 50; refine HR.out.mono ?_)
      rintro e w1 ⟨rfl, hlw, hkp⟩
      have HLW := hid hlw
      clear hlw hkp HR
      go_wp2_with (go_at_call 47; refine (string_lw HLW.out hne (by omega)).mono ?_)
      rintro e w2 ⟨rfl, hb⟩
      have HB := hid hb
      clear hb
      go_wp2
      go_ret
      exact ⟨congrArg (fun x => Ending.returned (Value.string x)) hvu.symm, HB.out⟩
    · have hmin : min (u.size : Int) 100000 = 100000 := by omega
      have hvu : v = u.extract 0 100000 := by
        have hmin2 : min u.size 100000 = 100000 := by omega
        rw [Hv.out, lispOut, hmin2]
      have hlt : (100000 : Int) ≤ (u.size : Int) := by omega
      go_enter Tryz.func23, Tryz.ntmps23
      go_wp2_with (go_at_call 50; refine HR.out.mono ?_)
      rintro e w1 ⟨rfl, hlw, hkp⟩
      have HLW := hid hlw
      clear hlw hkp HR
      go_wp2_with (go_at_call 47; refine (string_lw HLW.out hne (by omega)).mono ?_)
      rintro e w2 ⟨rfl, hb⟩
      have HB := hid hb
      clear hb
      go_wp2
      go_ret
      exact ⟨congrArg (fun x => Ending.returned (Value.string x)) hvu.symm, HB.out⟩
end Go.Proofs.YtjchnliaglecoaaGreatDoor
