/- slices.EqualFunc at functions and at casts, walked. Conditions: what the function that is handed in answers. -/
import Derived.Test.YtbgjanmheagilaaDoorLvX
set_option linter.unusedVariables false
set_option linter.unusedSimpArgs false
namespace Go.Proofs.YtbgjanmheagilaaDoor
open Go Go.RowKit Go.Nodes
set_option linter.unusedVariables false
set_option linter.unusedSimpArgs false
theorem pr_cells {W : World} {f : Nat} {p : Option Addr} {xs : List Pr} (h : RowOf W 6 (PrAt W f) p xs) {i : Nat} (hi : i < xs.length) : ∃ b o tp tn tc g wp wn wc cp cn cc up un uc qp qn qc, p = some ⟨b, o, none⟩ ∧ b < W.heap.size ∧ W.cell? ⟨b, o + i * 6, none⟩ = some (.slice tp tn tc) ∧ W.cell? ⟨b, o + i * 6 + 1, none⟩ = some (.int .i64 g) ∧ W.cell? ⟨b, o + i * 6 + 2, none⟩ = some (.slice wp wn wc) ∧ W.cell? ⟨b, o + i * 6 + 3, none⟩ = some (.slice cp cn cc) ∧ W.cell? ⟨b, o + i * 6 + 4, none⟩ = some (.slice up un uc) ∧ W.cell? ⟨b, o + i * 6 + 5, none⟩ = some (.slice qp qn qc) ∧ PrAt W f [.slice tp tn tc, .int .i64 g, .slice wp wn wc, .slice cp cn cc, .slice up un uc, .slice qp qn qc] xs[i] := by
  obtain ⟨b, o, hp, hl, vs, h1, h2, h3⟩ := h.at hi
  generalize hx : xs[i] = T at *
  have h4 := h3
  obtain ⟨_, _, _, _, _, tp, tc, wp, wc, cp, cc, up, uc, pp, pc, rfl, _⟩ := h4
  exact ⟨b, o, tp, _, tc, _, wp, _, wc, cp, _, cc, up, _, uc, pp, _, pc, hp, hl, by simpa using h2 0 _ rfl, h2 1 _ rfl, h2 2 _ rfl, h2 3 _ rfl, h2 4 _ rfl, h2 5 _ rfl, h3⟩
theorem bl_cells {W : World} {f : Nat} {p : Option Addr} {xs : List Bl} (h : RowOf W 5 (BlAt W f) p xs) {i : Nat} (hi : i < xs.length) : ∃ b o k np nn nc ap an ac s e, p = some ⟨b, o, none⟩ ∧ b < W.heap.size ∧ W.cell? ⟨b, o + i * 5, none⟩ = some (.int .i64 k) ∧ W.cell? ⟨b, o + i * 5 + 1, none⟩ = some (.slice np nn nc) ∧ W.cell? ⟨b, o + i * 5 + 2, none⟩ = some (.slice ap an ac) ∧ W.cell? ⟨b, o + i * 5 + 3, none⟩ = some (.int .i64 s) ∧ W.cell? ⟨b, o + i * 5 + 4, none⟩ = some (.int .i64 e) ∧ BlAt W f [.int .i64 k, .slice np nn nc, .slice ap an ac, .int .i64 s, .int .i64 e] xs[i] := by
  obtain ⟨b, o, hp, hl, vs, h1, h2, h3⟩ := h.at hi
  generalize hx : xs[i] = T at *
  have h4 := h3
  obtain ⟨v0, v1, v2, rfl, hT⟩ := h4
  obtain ⟨⟨k, names, args⟩, s, e⟩ := T
  cases f with
  | zero => exact hT.elim
  | succ f =>
    obtain ⟨_, _, _, np, nc, ap, ac, hv, _, _⟩ := hT
    simp only [List.cons.injEq, and_true] at hv
    obtain ⟨rfl, rfl, rfl⟩ := hv
    exact ⟨b, o, k, np, _, nc, ap, _, ac, _, _, hp, hl, by simpa using h2 0 _ rfl, h2 1 _ rfl, h2 2 _ rfl, h2 3 _ rfl, h2 4 _ rfl, h3⟩
set_option maxRecDepth 10000 in
set_option maxHeartbeats 2000000 in
theorem equalFunc40 (W : World) (f g : Nat) (p q : Option Addr) (c d : Nat) (xs ys : List Pr) (hx : RowOf W 6 (PrAt W f) p xs) (hy : RowOf W 6 (PrAt W g) q ys) (lx : xs.length ≤ maxLen) (ly : ys.length ≤ maxLen)
    (H : ∀ W', Below W.heap.size W W' → ∀ va vb x y, PrAt W f va x → PrAt W g vb y → Calls Tryd.prog 25 #[.agg va.toArray, .agg vb.toArray] W' fun e w' => e = .returned (.bool (eqB x y)) ∧ Below W'.heap.size W' w') :
    Calls Tryd.prog 40 #[.slice p xs.length c, .slice q ys.length d, .func (.func 25) #[] #[]] W fun e w' => e = .returned (.bool (eqB xs ys)) ∧ Below W.heap.size W w' := by
  have Hx := hid hx
  have Hy := hid hy
  have HH := hid H
  clear hx hy H
  obtain ⟨m, hm⟩ : ∃ m, m = ys.length := ⟨_, rfl⟩
  obtain ⟨n, hn⟩ : ∃ n, n = xs.length := ⟨_, rfl⟩
  rw [← hn] at lx ⊢
  rw [← hm] at ly ⊢
  have Hn := hid hn
  have Hm := hid hm
  unfold maxLen at lx ly
  have lx2 : (n : Int) ≤ 9223372036854775807 := by omega
  have ly2 : (m : Int) ≤ 9223372036854775807 := by omega
  clear hn hm lx ly
  go_enter Tryd.func40, Tryd.ntmps40
  by_cases hl : n = m
  · subst hl
    go_wp2
    go_loopw [17] (fun iv wr => ∃ (i : Nat) (G : Gro), i ≤ n ∧ iv = .int .i64 i ∧ wr = grow W G ∧ Hid (xs.take i = ys.take i)) (fun iv _ => n - (intOf iv).toNat)
    case atStart =>
      obtain ⟨G0, hG0⟩ := bout (Below.refl _ W)
      exact ⟨0, G0, Nat.zero_le _, rfl, hG0, hid rfl⟩
    case round =>
      obtain ⟨i, G, hi, rfl, rfl, hI⟩ := hrel
      by_cases hin : i < n
      · have n0 : (0 : Int) ≤ (i : Int) := by omega
        have n1 : (i : Int) < (n : Int) := by omega
        obtain ⟨b, o, tp, tn, tc, g, wp, wn, wc, cp, cn, cc, up, un, uc, qp, qn, qc, rfl, hb, c0, c1, c2, c3, c4, c5, hT⟩ := pr_cells Hx.out (i := i) (by have := Hn.out; omega)
        obtain ⟨b', o', tp', tn', tc', g', wp', wn', wc', cp', cn', cc', up', un', uc', qp', qn', qc', rfl, hb', c0', c1', c2', c3', c4', c5', hT'⟩ := pr_cells Hy.out (i := i) (by have := Hm.out; omega)
        have hix : i < xs.length := by have := Hn.out; omega
        have hiy : i < ys.length := by have := Hm.out; omega
        obtain ⟨t, ht⟩ : ∃ t, eqB xs[i] ys[i] = t := ⟨_, rfl⟩
        have Hc : Hid (∀ W', Below W.heap.size W W' → Calls Tryd.prog 25 #[.agg #[.slice tp tn tc, .int .i64 g, .slice wp wn wc, .slice cp cn cc, .slice up un uc, .slice qp qn qc], .agg #[.slice tp' tn' tc', .int .i64 g', .slice wp' wn' wc', .slice cp' cn' cc', .slice up' un' uc', .slice qp' qn' qc']] W' fun e w' => e = .returned (.bool t) ∧ Below W'.heap.size W' w') := hid fun W' hW => by
          rw [← ht]; exact HH.out W' hW _ _ _ _ hT hT'
        have Ht := hid ht
        clear ht hT hT'
        cases t with
        | false =>
          have hno : Hid (xs ≠ ys) := hid fun e => eqB_no Ht.out (by subst e; rfl)
          go_wp2_with (refine (Hc.out _ (by repeat (first | exact Below.refl _ _ | refine bG ?_ _ | refine bA ?_ _))).mono ?_; rintro e w' ⟨rfl, hb⟩; obtain ⟨G2, rfl⟩ := bout hb; clear hb)
          go_ret
          exact ⟨by rw [eqB_false hno.out]; rfl, by repeat (first | exact Below.refl _ _ | refine bG ?_ _ | refine bI ?_ _ _ | refine bA ?_ _)⟩
        | true =>
          go_wp2_with (refine (Hc.out _ (by repeat (first | exact Below.refl _ _ | refine bG ?_ _ | refine bA ?_ _))).mono ?_; rintro e w' ⟨rfl, hb⟩; obtain ⟨G2, rfl⟩ := bout hb; clear hb)
          have hB3 : Below W.heap.size W (grow (((grow W G).alloc (.cells #[.slice tp tn tc, .int .i64 g, .slice wp wn wc, .slice cp cn cc, .slice up un uc, .slice qp qn qc] 56)).alloc (.cells #[.slice tp' tn' tc', .int .i64 g', .slice wp' wn' wc', .slice cp' cn' cc', .slice up' un' uc', .slice qp' qn' qc'] 56)) G2) := by
            repeat (first | exact Below.refl _ _ | refine bG ?_ _ | refine bA ?_ _)
          obtain ⟨G3, hG3⟩ := bout hB3
          refine ⟨⟨i + 1, G3, by omega, by go_num, hG3, hid ?_⟩, by simp [intOf]; omega⟩
          rw [List.take_succ_eq_append_getElem hix, List.take_succ_eq_append_getElem hiy, hI.out, eqB_of Ht.out]
      · obtain rfl : i = n := by omega
        have he : Hid (xs = ys) := hid (by
          have h := hI.out
          rw [List.take_of_length_le (by have := Hn.out; omega), List.take_of_length_le (by have := Hm.out; omega)] at h
          exact h)
        go_wp2
        go_ret
        exact ⟨by rw [eqB_true he.out]; rfl, by repeat (first | exact Below.refl _ _ | refine bG ?_ _ | refine bI ?_ _ _ | refine bA ?_ _)⟩
  · have hne : ((n : Int) != (m : Int)) = true := by simp; omega
    go_wp2
    go_ret
    exact ⟨by rw [eqB_false (fun e => hl (by rw [Hn.out, Hm.out, e]))]; rfl, Below.refl _ _⟩
set_option maxRecDepth 10000 in
set_option maxHeartbeats 2000000 in
theorem equalFunc45 (W : World) (f g : Nat) (p q : Option Addr) (c d : Nat) (xs ys : List Bl) (hx : RowOf W 5 (BlAt W f) p xs) (hy : RowOf W 5 (BlAt W g) q ys) (lx : xs.length ≤ maxLen) (ly : ys.length ≤ maxLen)
    (H : ∀ W', Below W.heap.size W W' → ∀ va vb x y, BlAt W f va x → BlAt W g vb y → Calls Tryd.prog 27 #[.agg va.toArray, .agg vb.toArray] W' fun e w' => e = .returned (.bool (eqB x y)) ∧ Below W'.heap.size W' w') :
    Calls Tryd.prog 45 #[.slice p xs.length c, .slice q ys.length d, .func (.func 27) #[] #[]] W fun e w' => e = .returned (.bool (eqB xs ys)) ∧ Below W.heap.size W w' := by
  have Hx := hid hx
  have Hy := hid hy
  have HH := hid H
  clear hx hy H
  obtain ⟨m, hm⟩ : ∃ m, m = ys.length := ⟨_, rfl⟩
  obtain ⟨n, hn⟩ : ∃ n, n = xs.length := ⟨_, rfl⟩
  rw [← hn] at lx ⊢
  rw [← hm] at ly ⊢
  have Hn := hid hn
  have Hm := hid hm
  unfold maxLen at lx ly
  have lx2 : (n : Int) ≤ 9223372036854775807 := by omega
  have ly2 : (m : Int) ≤ 9223372036854775807 := by omega
  clear hn hm lx ly
  go_enter Tryd.func45, Tryd.ntmps45
  by_cases hl : n = m
  · subst hl
    go_wp2
    go_loopw [17] (fun iv wr => ∃ (i : Nat) (G : Gro), i ≤ n ∧ iv = .int .i64 i ∧ wr = grow W G ∧ Hid (xs.take i = ys.take i)) (fun iv _ => n - (intOf iv).toNat)
    case atStart =>
      obtain ⟨G0, hG0⟩ := bout (Below.refl _ W)
      exact ⟨0, G0, Nat.zero_le _, rfl, hG0, hid rfl⟩
    case round =>
      obtain ⟨i, G, hi, rfl, rfl, hI⟩ := hrel
      by_cases hin : i < n
      · have n0 : (0 : Int) ≤ (i : Int) := by omega
        have n1 : (i : Int) < (n : Int) := by omega
        obtain ⟨b, o, k, np, nn, nc, ap, an, ac, s, e, rfl, hb, c0, c1, c2, c3, c4, hT⟩ := bl_cells Hx.out (i := i) (by have := Hn.out; omega)
        obtain ⟨b', o', k', np', nn', nc', ap', an', ac', s', e', rfl, hb', c0', c1', c2', c3', c4', hT'⟩ := bl_cells Hy.out (i := i) (by have := Hm.out; omega)
        have hix : i < xs.length := by have := Hn.out; omega
        have hiy : i < ys.length := by have := Hm.out; omega
        obtain ⟨t, ht⟩ : ∃ t, eqB xs[i] ys[i] = t := ⟨_, rfl⟩
        have Hc : Hid (∀ W', Below W.heap.size W W' → Calls Tryd.prog 27 #[.agg #[.int .i64 k, .slice np nn nc, .slice ap an ac, .int .i64 s, .int .i64 e], .agg #[.int .i64 k', .slice np' nn' nc', .slice ap' an' ac', .int .i64 s', .int .i64 e']] W' fun e w' => e = .returned (.bool t) ∧ Below W'.heap.size W' w') := hid fun W' hW => by
          rw [← ht]; exact HH.out W' hW _ _ _ _ hT hT'
        have Ht := hid ht
        clear ht hT hT'
        cases t with
        | false =>
          have hno : Hid (xs ≠ ys) := hid fun e => eqB_no Ht.out (by subst e; rfl)
          go_wp2_with (refine (Hc.out _ (by repeat (first | exact Below.refl _ _ | refine bG ?_ _ | refine bA ?_ _))).mono ?_; rintro e w' ⟨rfl, hb⟩; obtain ⟨G2, rfl⟩ := bout hb; clear hb)
          go_ret
          exact ⟨by rw [eqB_false hno.out]; rfl, by repeat (first | exact Below.refl _ _ | refine bG ?_ _ | refine bI ?_ _ _ | refine bA ?_ _)⟩
        | true =>
          go_wp2_with (refine (Hc.out _ (by repeat (first | exact Below.refl _ _ | refine bG ?_ _ | refine bA ?_ _))).mono ?_; rintro e w' ⟨rfl, hb⟩; obtain ⟨G2, rfl⟩ := bout hb; clear hb)
          have hB3 : Below W.heap.size W (grow (((grow W G).alloc (.cells #[.int .i64 k, .slice np nn nc, .slice ap an ac, .int .i64 s, .int .i64 e] 61)).alloc (.cells #[.int .i64 k', .slice np' nn' nc', .slice ap' an' ac', .int .i64 s', .int .i64 e'] 61)) G2) := by
            repeat (first | exact Below.refl _ _ | refine bG ?_ _ | refine bA ?_ _)
          obtain ⟨G3, hG3⟩ := bout hB3
          refine ⟨⟨i + 1, G3, by omega, by go_num, hG3, hid ?_⟩, by simp [intOf]; omega⟩
          rw [List.take_succ_eq_append_getElem hix, List.take_succ_eq_append_getElem hiy, hI.out, eqB_of Ht.out]
      · obtain rfl : i = n := by omega
        have he : Hid (xs = ys) := hid (by
          have h := hI.out
          rw [List.take_of_length_le (by have := Hn.out; omega), List.take_of_length_le (by have := Hm.out; omega)] at h
          exact h)
        go_wp2
        go_ret
        exact ⟨by rw [eqB_true he.out]; rfl, by repeat (first | exact Below.refl _ _ | refine bG ?_ _ | refine bI ?_ _ _ | refine bA ?_ _)⟩
  · have hne : ((n : Int) != (m : Int)) = true := by simp; omega
    go_wp2
    go_ret
    exact ⟨by rw [eqB_false (fun e => hl (by rw [Hn.out, Hm.out, e]))]; rfl, Below.refl _ _⟩
end Go.Proofs.YtbgjanmheagilaaDoor

/- code.likeProto, code.likeBlame and code.Same, walked. Conditions: none. -/
namespace Go.Proofs.YtbgjanmheagilaaDoor
open Go Go.RowKit Go.Nodes
set_option linter.unusedVariables false
set_option linter.unusedSimpArgs false
theorem like24 (W : World) (f g : Nat) (p q : Option Addr) (c d : Nat) (xs ys : List Pr) (hx : RowOf W 6 (PrAt W f) p xs) (hy : RowOf W 6 (PrAt W g) q ys) (lx : xs.length ≤ maxLen) (ly : ys.length ≤ maxLen)
    (H : ∀ W', Below W.heap.size W W' → ∀ va vb x y, PrAt W f va x → PrAt W g vb y → Calls Tryd.prog 25 #[.agg va.toArray, .agg vb.toArray] W' fun e w' => e = .returned (.bool (eqB x y)) ∧ Below W'.heap.size W' w') :
    Calls Tryd.prog 24 #[.slice p xs.length c, .slice q ys.length d, .func (.func 25) #[] #[]] W fun e w' => e = .returned (.bool (eqB xs ys)) ∧ Below W.heap.size W w' := by
  have hc := equalFunc40 W f g p q c d xs ys hx hy lx ly H
  generalize eqB xs ys = t at *
  generalize xs.length = n at *
  generalize ys.length = m at *
  clear H hx hy
  go_enter Tryd.func24, Tryd.ntmps24
  go_wp2_with (go_at_call 40; refine hc.mono ?_; rintro e w' ⟨rfl, hb⟩)
  go_ret
  exact ⟨rfl, hb⟩
theorem like26 (W : World) (f g : Nat) (p q : Option Addr) (c d : Nat) (xs ys : List Bl) (hx : RowOf W 5 (BlAt W f) p xs) (hy : RowOf W 5 (BlAt W g) q ys) (lx : xs.length ≤ maxLen) (ly : ys.length ≤ maxLen)
    (H : ∀ W', Below W.heap.size W W' → ∀ va vb x y, BlAt W f va x → BlAt W g vb y → Calls Tryd.prog 27 #[.agg va.toArray, .agg vb.toArray] W' fun e w' => e = .returned (.bool (eqB x y)) ∧ Below W'.heap.size W' w') :
    Calls Tryd.prog 26 #[.slice p xs.length c, .slice q ys.length d, .func (.func 27) #[] #[]] W fun e w' => e = .returned (.bool (eqB xs ys)) ∧ Below W.heap.size W w' := by
  have hc := equalFunc45 W f g p q c d xs ys hx hy lx ly H
  generalize eqB xs ys = t at *
  generalize xs.length = n at *
  generalize ys.length = m at *
  clear H hx hy
  go_enter Tryd.func26, Tryd.ntmps26
  go_wp2_with (go_at_call 45; refine hc.mono ?_; rintro e w' ⟨rfl, hb⟩)
  go_ret
  exact ⟨rfl, hb⟩
theorem eqB_pr (a a' : List Sk) (b b' : Int) (c c' : List Int) (d d' : List Cn) (e e' : List (Bool × Int)) (f f' : List Int) : eqB (Pr.mk a b c d e f) (Pr.mk a' b' c' d' e' f') = (eqB a a' && eqB b b' && eqB c c' && eqB d d' && eqB e e' && eqB f f') := by
  by_cases h0 : a = a'
  · skip
    by_cases h1 : b = b'
    · skip
      by_cases h2 : c = c'
      · skip
        by_cases h3 : d = d'
        · skip
          by_cases h4 : e = e'
          · skip
            by_cases h5 : f = f'
            · rw [eqB_true (by rw [h0, h1, h2, h3, h4, h5])]; simp [eqB_true h0, eqB_true h1, eqB_true h2, eqB_true h3, eqB_true h4, eqB_true h5]
            · rw [eqB_false (by intro h; cases h; exact h5 rfl)]; simp [eqB_false h5]
          · rw [eqB_false (by intro h; cases h; exact h4 rfl)]; simp [eqB_false h4]
        · rw [eqB_false (by intro h; cases h; exact h3 rfl)]; simp [eqB_false h3]
      · rw [eqB_false (by intro h; cases h; exact h2 rfl)]; simp [eqB_false h2]
    · rw [eqB_false (by intro h; cases h; exact h1 rfl)]; simp [eqB_false h1]
  · rw [eqB_false (by intro h; cases h; exact h0 rfl)]; simp [eqB_false h0]
theorem eqB_bl (a a' : Sk) (b b' : Int) (c c' : Int) : eqB (Bl.mk a b c) (Bl.mk a' b' c') = (eqB a a' && eqB b b' && eqB c c') := by
  by_cases h0 : a = a'
  · skip
    by_cases h1 : b = b'
    · skip
      by_cases h2 : c = c'
      · rw [eqB_true (by rw [h0, h1, h2])]; simp [eqB_true h0, eqB_true h1, eqB_true h2]
      · rw [eqB_false (by intro h; cases h; exact h2 rfl)]; simp [eqB_false h2]
    · rw [eqB_false (by intro h; cases h; exact h1 rfl)]; simp [eqB_false h1]
  · rw [eqB_false (by intro h; cases h; exact h0 rfl)]; simp [eqB_false h0]
theorem eqB_im (a a' : List Pr) (b b' : List Bl) (c c' : List Sk) (d d' : List Int) : eqB (Im.mk a b c d) (Im.mk a' b' c' d') = (eqB a a' && eqB b b' && eqB c c' && eqB d d') := by
  by_cases h0 : a = a'
  · skip
    by_cases h1 : b = b'
    · skip
      by_cases h2 : c = c'
      · skip
        by_cases h3 : d = d'
        · rw [eqB_true (by rw [h0, h1, h2, h3])]; simp [eqB_true h0, eqB_true h1, eqB_true h2, eqB_true h3]
        · rw [eqB_false (by intro h; cases h; exact h3 rfl)]; simp [eqB_false h3]
      · rw [eqB_false (by intro h; cases h; exact h2 rfl)]; simp [eqB_false h2]
    · rw [eqB_false (by intro h; cases h; exact h1 rfl)]; simp [eqB_false h1]
  · rw [eqB_false (by intro h; cases h; exact h0 rfl)]; simp [eqB_false h0]
set_option maxRecDepth 10000 in
set_option maxHeartbeats 2000000 in
theorem like25 (f : Nat) (W W0 : World) (va : List Value) (A : Pr) (hW : Below W0.heap.size W0 W) (hA : PrAt W0 f va A) (g : Nat) (vb : List Value) (B : Pr) (hB : PrAt W0 g vb B) :
    Calls Tryd.prog 25 #[.agg va.toArray, .agg vb.toArray] W fun e w' => e = .returned (.bool (eqB A B)) ∧ Below W.heap.size W w' := by
    obtain ⟨a, b, c, d, y, z⟩ := A
    obtain ⟨a', b', c', d', y', z'⟩ := B
    obtain ⟨l1, l2, l3, l4, l5, tp, tc, wp, wc, cp, cc, up, uc, qp, qc, rfl, k1, k2, k3, k4, k5⟩ := hA
    obtain ⟨l1', l2', l3', l4', l5', tp', tc', wp', wc', cp', cc', up', uc', qp', qc', rfl, k1', k2', k3', k4', k5'⟩ := hB
    simp only at l1 l2 l3 l4 l5 l1' l2' l3' l4' l5' k1 k2 k3 k4 k5 k1' k2' k3' k4' k5'
    have H28 : Hid (∀ W', Below W.heap.size W W' → Calls Tryd.prog 28 #[.slice tp a.length tc, .slice tp' a'.length tc', .func (.func 29) #[] #[]] W' fun e w' => e = .returned (.bool (eqB a a')) ∧ Below W'.heap.size W' w') := hid fun W' hb => by
      have h0 : Below W0.heap.size W0 W' := hW.trans (hb.mono hW.size)
      exact like28 W' f g _ _ _ _ _ _ (k1.later h0 fun vs x _ h => TyAt.later h0 f vs x h) (k1'.later h0 fun vs x _ h => TyAt.later h0 g vs x h) l1 l1' fun W2 hb2 va vb x y hx hy => like29 f W2 W' va x hb2 hx g vb y hy
    have H41 : Hid (∀ W', Below W.heap.size W W' → Calls Tryd.prog 41 #[.slice wp c.length wc, .slice wp' c'.length wc'] W' fun e w' => e = .returned (.bool (eqB c c')) ∧ Below W'.heap.size W' w') := hid fun W' hb =>
      (eqRow41 W' _ _ _ _ _ _ (k2.later (hW.trans (hb.mono hW.size)) fun _ _ _ h => h) (k2'.later (hW.trans (hb.mono hW.size)) fun _ _ _ h => h) l2 l2').mono fun e w' ⟨h, r, hr⟩ => ⟨h, by rw [hr]; exact _root_.Go.below_drewN (Below.refl _ _) r⟩
    have H42 : Hid (∀ W', Below W.heap.size W W' → Calls Tryd.prog 42 #[.slice cp d.length cc, .slice cp' d'.length cc'] W' fun e w' => e = .returned (.bool (eqB d d')) ∧ Below W'.heap.size W' w') := hid fun W' hb =>
      (eqRow42 W' _ _ _ _ _ _ (k3.later (hW.trans (hb.mono hW.size)) fun _ _ _ h => h) (k3'.later (hW.trans (hb.mono hW.size)) fun _ _ _ h => h) l3 l3').mono fun e w' ⟨h, r, hr⟩ => ⟨h, by rw [hr]; exact _root_.Go.below_drewN (Below.refl _ _) r⟩
    have H43 : Hid (∀ W', Below W.heap.size W W' → Calls Tryd.prog 43 #[.slice up y.length uc, .slice up' y'.length uc'] W' fun e w' => e = .returned (.bool (eqB y y')) ∧ Below W'.heap.size W' w') := hid fun W' hb =>
      (eqRow43 W' _ _ _ _ _ _ (k4.later (hW.trans (hb.mono hW.size)) fun _ _ _ h => h) (k4'.later (hW.trans (hb.mono hW.size)) fun _ _ _ h => h) l4 l4').mono fun e w' ⟨h, r, hr⟩ => ⟨h, by rw [hr]; exact _root_.Go.below_drewN (Below.refl _ _) r⟩
    have H44 : Hid (∀ W', Below W.heap.size W W' → Calls Tryd.prog 44 #[.slice qp z.length qc, .slice qp' z'.length qc'] W' fun e w' => e = .returned (.bool (eqB z z')) ∧ Below W'.heap.size W' w') := hid fun W' hb =>
      (eqRow44 W' _ _ _ _ _ _ (k5.later (hW.trans (hb.mono hW.size)) fun _ _ _ h => h) (k5'.later (hW.trans (hb.mono hW.size)) fun _ _ _ h => h) l5 l5').mono fun e w' ⟨h, r, hr⟩ => ⟨h, by rw [hr]; exact _root_.Go.below_drewN (Below.refl _ _) r⟩
    rw [eqB_pr]
    generalize eqB a a' = t1 at *
    generalize eqB c c' = t2 at *
    generalize eqB d d' = t3 at *
    generalize eqB y y' = t4 at *
    generalize eqB z z' = t5 at *
    clear k1 k2 k3 k4 k5 k1' k2' k3' k4' k5' hW
    generalize a.length = n0 at *
    generalize a'.length = m0 at *
    generalize c.length = n1 at *
    generalize c'.length = m1 at *
    generalize d.length = n2 at *
    generalize d'.length = m2 at *
    generalize y.length = n3 at *
    generalize y'.length = m3 at *
    generalize z.length = n4 at *
    generalize z'.length = m4 at *
    cases t1 with
    | false =>
      go_enter Tryd.func25, Tryd.ntmps25
      go_wp2_with (first
          | (go_at_call 28; refine (H28.out _ (by repeat (first | exact Below.refl _ _ | refine bG ?_ _ | refine bI ?_ _ _ | refine bA ?_ _))).mono ?_; rintro e w' ⟨rfl, hb⟩; obtain ⟨G28, rfl⟩ := bout hb; clear hb))
      go_ret
      exact ⟨by (try simp [eqB_true rfl]), by repeat (first | exact Below.refl _ _ | refine bG ?_ _ | refine bI ?_ _ _ | refine bA ?_ _)⟩
    | true =>
      by_cases hk1 : b = b'
      · subst hk1
        cases t2 with
        | false =>
          go_enter Tryd.func25, Tryd.ntmps25
          go_wp2_with (first
          | (go_at_call 28; refine (H28.out _ (by repeat (first | exact Below.refl _ _ | refine bG ?_ _ | refine bI ?_ _ _ | refine bA ?_ _))).mono ?_; rintro e w' ⟨rfl, hb⟩; obtain ⟨G28, rfl⟩ := bout hb; clear hb)
          | (go_at_call 41; refine (H41.out _ (by repeat (first | exact Below.refl _ _ | refine bG ?_ _ | refine bI ?_ _ _ | refine bA ?_ _))).mono ?_; rintro e w' ⟨rfl, hb⟩; obtain ⟨G41, rfl⟩ := bout hb; clear hb))
          go_ret
          exact ⟨by (try simp [eqB_true rfl]), by repeat (first | exact Below.refl _ _ | refine bG ?_ _ | refine bI ?_ _ _ | refine bA ?_ _)⟩
        | true =>
          cases t3 with
          | false =>
            go_enter Tryd.func25, Tryd.ntmps25
            go_wp2_with (first
          | (go_at_call 28; refine (H28.out _ (by repeat (first | exact Below.refl _ _ | refine bG ?_ _ | refine bI ?_ _ _ | refine bA ?_ _))).mono ?_; rintro e w' ⟨rfl, hb⟩; obtain ⟨G28, rfl⟩ := bout hb; clear hb)
          | (go_at_call 41; refine (H41.out _ (by repeat (first | exact Below.refl _ _ | refine bG ?_ _ | refine bI ?_ _ _ | refine bA ?_ _))).mono ?_; rintro e w' ⟨rfl, hb⟩; obtain ⟨G41, rfl⟩ := bout hb; clear hb)
          | (go_at_call 42; refine (H42.out _ (by repeat (first | exact Below.refl _ _ | refine bG ?_ _ | refine bI ?_ _ _ | refine bA ?_ _))).mono ?_; rintro e w' ⟨rfl, hb⟩; obtain ⟨G42, rfl⟩ := bout hb; clear hb))
            go_ret
            exact ⟨by (try simp [eqB_true rfl]), by repeat (first | exact Below.refl _ _ | refine bG ?_ _ | refine bI ?_ _ _ | refine bA ?_ _)⟩
          | true =>
            cases t4 with
            | false =>
              go_enter Tryd.func25, Tryd.ntmps25
              go_wp2_with (first
          | (go_at_call 28; refine (H28.out _ (by repeat (first | exact Below.refl _ _ | refine bG ?_ _ | refine bI ?_ _ _ | refine bA ?_ _))).mono ?_; rintro e w' ⟨rfl, hb⟩; obtain ⟨G28, rfl⟩ := bout hb; clear hb)
          | (go_at_call 41; refine (H41.out _ (by repeat (first | exact Below.refl _ _ | refine bG ?_ _ | refine bI ?_ _ _ | refine bA ?_ _))).mono ?_; rintro e w' ⟨rfl, hb⟩; obtain ⟨G41, rfl⟩ := bout hb; clear hb)
          | (go_at_call 42; refine (H42.out _ (by repeat (first | exact Below.refl _ _ | refine bG ?_ _ | refine bI ?_ _ _ | refine bA ?_ _))).mono ?_; rintro e w' ⟨rfl, hb⟩; obtain ⟨G42, rfl⟩ := bout hb; clear hb)
          | (go_at_call 43; refine (H43.out _ (by repeat (first | exact Below.refl _ _ | refine bG ?_ _ | refine bI ?_ _ _ | refine bA ?_ _))).mono ?_; rintro e w' ⟨rfl, hb⟩; obtain ⟨G43, rfl⟩ := bout hb; clear hb))
              go_ret
              exact ⟨by (try simp [eqB_true rfl]), by repeat (first | exact Below.refl _ _ | refine bG ?_ _ | refine bI ?_ _ _ | refine bA ?_ _)⟩
            | true =>
              cases t5 with
              | false =>
                go_enter Tryd.func25, Tryd.ntmps25
                go_wp2_with (first
          | (go_at_call 28; refine (H28.out _ (by repeat (first | exact Below.refl _ _ | refine bG ?_ _ | refine bI ?_ _ _ | refine bA ?_ _))).mono ?_; rintro e w' ⟨rfl, hb⟩; obtain ⟨G28, rfl⟩ := bout hb; clear hb)
          | (go_at_call 41; refine (H41.out _ (by repeat (first | exact Below.refl _ _ | refine bG ?_ _ | refine bI ?_ _ _ | refine bA ?_ _))).mono ?_; rintro e w' ⟨rfl, hb⟩; obtain ⟨G41, rfl⟩ := bout hb; clear hb)
          | (go_at_call 42; refine (H42.out _ (by repeat (first | exact Below.refl _ _ | refine bG ?_ _ | refine bI ?_ _ _ | refine bA ?_ _))).mono ?_; rintro e w' ⟨rfl, hb⟩; obtain ⟨G42, rfl⟩ := bout hb; clear hb)
          | (go_at_call 43; refine (H43.out _ (by repeat (first | exact Below.refl _ _ | refine bG ?_ _ | refine bI ?_ _ _ | refine bA ?_ _))).mono ?_; rintro e w' ⟨rfl, hb⟩; obtain ⟨G43, rfl⟩ := bout hb; clear hb)
          | (go_at_call 44; refine (H44.out _ (by repeat (first | exact Below.refl _ _ | refine bG ?_ _ | refine bI ?_ _ _ | refine bA ?_ _))).mono ?_; rintro e w' ⟨rfl, hb⟩; obtain ⟨G44, rfl⟩ := bout hb; clear hb))
                go_ret
                exact ⟨by (try simp [eqB_true rfl]), by repeat (first | exact Below.refl _ _ | refine bG ?_ _ | refine bI ?_ _ _ | refine bA ?_ _)⟩
              | true =>
                go_enter Tryd.func25, Tryd.ntmps25
                go_wp2_with (first
          | (go_at_call 28; refine (H28.out _ (by repeat (first | exact Below.refl _ _ | refine bG ?_ _ | refine bI ?_ _ _ | refine bA ?_ _))).mono ?_; rintro e w' ⟨rfl, hb⟩; obtain ⟨G28, rfl⟩ := bout hb; clear hb)
          | (go_at_call 41; refine (H41.out _ (by repeat (first | exact Below.refl _ _ | refine bG ?_ _ | refine bI ?_ _ _ | refine bA ?_ _))).mono ?_; rintro e w' ⟨rfl, hb⟩; obtain ⟨G41, rfl⟩ := bout hb; clear hb)
          | (go_at_call 42; refine (H42.out _ (by repeat (first | exact Below.refl _ _ | refine bG ?_ _ | refine bI ?_ _ _ | refine bA ?_ _))).mono ?_; rintro e w' ⟨rfl, hb⟩; obtain ⟨G42, rfl⟩ := bout hb; clear hb)
          | (go_at_call 43; refine (H43.out _ (by repeat (first | exact Below.refl _ _ | refine bG ?_ _ | refine bI ?_ _ _ | refine bA ?_ _))).mono ?_; rintro e w' ⟨rfl, hb⟩; obtain ⟨G43, rfl⟩ := bout hb; clear hb)
          | (go_at_call 44; refine (H44.out _ (by repeat (first | exact Below.refl _ _ | refine bG ?_ _ | refine bI ?_ _ _ | refine bA ?_ _))).mono ?_; rintro e w' ⟨rfl, hb⟩; obtain ⟨G44, rfl⟩ := bout hb; clear hb))
                go_ret
                exact ⟨by (try simp [eqB_true rfl]), by repeat (first | exact Below.refl _ _ | refine bG ?_ _ | refine bI ?_ _ _ | refine bA ?_ _)⟩
      · have e1 : (b == b') = false := by simp [hk1]
        have Hk1 := hid (eqB_false hk1)
        clear hk1
        go_enter Tryd.func25, Tryd.ntmps25
        go_wp2_with (first
          | (go_at_call 28; refine (H28.out _ (by repeat (first | exact Below.refl _ _ | refine bG ?_ _ | refine bI ?_ _ _ | refine bA ?_ _))).mono ?_; rintro e w' ⟨rfl, hb⟩; obtain ⟨G28, rfl⟩ := bout hb; clear hb))
        go_ret
        exact ⟨by (rw [Hk1.out]; try simp [eqB_true rfl]), by repeat (first | exact Below.refl _ _ | refine bG ?_ _ | refine bI ?_ _ _ | refine bA ?_ _)⟩
set_option maxRecDepth 10000 in
set_option maxHeartbeats 2000000 in
theorem like27 (f : Nat) (W W0 : World) (va : List Value) (A : Bl) (hW : Below W0.heap.size W0 W) (hA : BlAt W0 f va A) (g : Nat) (vb : List Value) (B : Bl) (hB : BlAt W0 g vb B) :
    Calls Tryd.prog 27 #[.agg va.toArray, .agg vb.toArray] W fun e w' => e = .returned (.bool (eqB A B)) ∧ Below W.heap.size W w' := by
    obtain ⟨a, b, c⟩ := A
    obtain ⟨a', b', c'⟩ := B
    obtain ⟨v0, v1, v2, rfl, hT⟩ := hA
    obtain ⟨v0', v1', v2', rfl, hT'⟩ := hB
    simp only at hT hT'
    have H29 : Hid (∀ W', Below W.heap.size W W' → Calls Tryd.prog 29 #[.agg #[v0, v1, v2], .agg #[v0', v1', v2']] W' fun e w' => e = .returned (.bool (eqB a a')) ∧ Below W'.heap.size W' w') := hid fun W' hb =>
      like29 f W' W0 [v0, v1, v2] a (hW.trans (hb.mono hW.size)) hT g [v0', v1', v2'] a' hT'
    obtain ⟨k, np, nn, nc, ap, an, ac, rfl, rfl, rfl⟩ : ∃ k np nn nc ap an ac, v0 = .int .i64 k ∧ v1 = .slice np nn nc ∧ v2 = .slice ap an ac := by
      cases f with
      | zero => exact hT.elim
      | succ f =>
        obtain ⟨k, names, args⟩ := a
        obtain ⟨_, _, _, np, nc, ap, ac, hv, _, _⟩ := hT
        simp only [List.cons.injEq, and_true] at hv
        exact ⟨_, _, _, _, _, _, _, hv.1, hv.2.1, hv.2.2⟩
    obtain ⟨k', np', nn', nc', ap', an', ac', rfl, rfl, rfl⟩ : ∃ k np nn nc ap an ac, v0' = .int .i64 k ∧ v1' = .slice np nn nc ∧ v2' = .slice ap an ac := by
      cases g with
      | zero => exact hT'.elim
      | succ f =>
        obtain ⟨k, names, args⟩ := a'
        obtain ⟨_, _, _, np, nc, ap, ac, hv, _, _⟩ := hT'
        simp only [List.cons.injEq, and_true] at hv
        exact ⟨_, _, _, _, _, _, _, hv.1, hv.2.1, hv.2.2⟩
    rw [eqB_bl]
    generalize eqB a a' = t1 at *
    clear hT hT' hW
    cases t1 with
    | false =>
      go_enter Tryd.func27, Tryd.ntmps27
      go_wp2_with (first
          | (go_at_call 29; refine (H29.out _ (by repeat (first | exact Below.refl _ _ | refine bG ?_ _ | refine bI ?_ _ _ | refine bA ?_ _))).mono ?_; rintro e w' ⟨rfl, hb⟩; obtain ⟨G29, rfl⟩ := bout hb; clear hb))
      go_ret
      exact ⟨by (try simp [eqB_true rfl]), by repeat (first | exact Below.refl _ _ | refine bG ?_ _ | refine bI ?_ _ _ | refine bA ?_ _)⟩
    | true =>
      by_cases hk1 : b = b'
      · subst hk1
        by_cases hk2 : c = c'
        · subst hk2
          go_enter Tryd.func27, Tryd.ntmps27
          go_wp2_with (first
          | (go_at_call 29; refine (H29.out _ (by repeat (first | exact Below.refl _ _ | refine bG ?_ _ | refine bI ?_ _ _ | refine bA ?_ _))).mono ?_; rintro e w' ⟨rfl, hb⟩; obtain ⟨G29, rfl⟩ := bout hb; clear hb))
          go_ret
          exact ⟨by (try simp [eqB_true rfl]), by repeat (first | exact Below.refl _ _ | refine bG ?_ _ | refine bI ?_ _ _ | refine bA ?_ _)⟩
        · have e2 : (c == c') = false := by simp [hk2]
          have Hk2 := hid (eqB_false hk2)
          clear hk2
          go_enter Tryd.func27, Tryd.ntmps27
          go_wp2_with (first
          | (go_at_call 29; refine (H29.out _ (by repeat (first | exact Below.refl _ _ | refine bG ?_ _ | refine bI ?_ _ _ | refine bA ?_ _))).mono ?_; rintro e w' ⟨rfl, hb⟩; obtain ⟨G29, rfl⟩ := bout hb; clear hb))
          go_ret
          exact ⟨by (rw [Hk2.out]; try simp [eqB_true rfl]), by repeat (first | exact Below.refl _ _ | refine bG ?_ _ | refine bI ?_ _ _ | refine bA ?_ _)⟩
      · have e1 : (b == b') = false := by simp [hk1]
        have Hk1 := hid (eqB_false hk1)
        clear hk1
        go_enter Tryd.func27, Tryd.ntmps27
        go_wp2_with (first
          | (go_at_call 29; refine (H29.out _ (by repeat (first | exact Below.refl _ _ | refine bG ?_ _ | refine bI ?_ _ _ | refine bA ?_ _))).mono ?_; rintro e w' ⟨rfl, hb⟩; obtain ⟨G29, rfl⟩ := bout hb; clear hb))
        go_ret
        exact ⟨by (rw [Hk1.out]; try simp [eqB_true rfl]), by repeat (first | exact Below.refl _ _ | refine bG ?_ _ | refine bI ?_ _ _ | refine bA ?_ _)⟩
set_option maxRecDepth 10000 in
set_option maxHeartbeats 4000000 in
theorem same10 (f : Nat) (W W0 : World) (va : List Value) (A : Im) (hW : Below W0.heap.size W0 W) (hA : ImAt W0 f va A) (g : Nat) (vb : List Value) (B : Im) (hB : ImAt W0 g vb B) :
    Calls Tryd.prog 10 #[.agg va.toArray, .agg vb.toArray] W fun e w' => e = .returned (.bool (eqB A B)) ∧ Below W.heap.size W w' := by
    obtain ⟨a, b, c, d⟩ := A
    obtain ⟨a', b', c', d'⟩ := B
    obtain ⟨l1, l2, l3, pp, pc, cp, cc, sp, sc, m0, m1, m2, m3, m4, m5, m6, m7, hm, rfl, k1, k2, k3⟩ := hA
    obtain ⟨l1', l2', l3', pp', pc', cp', cc', sp', sc', m0', m1', m2', m3', m4', m5', m6', m7', hm', rfl, k1', k2', k3'⟩ := hB
    simp only at l1 l2 l3 l1' l2' l3' k1 k2 k3 k1' k2' k3' hm hm'
    subst hm hm'
    have H24 : Hid (∀ W', Below W.heap.size W W' → Calls Tryd.prog 24 #[.slice pp a.length pc, .slice pp' a'.length pc', .func (.func 25) #[] #[]] W' fun e w' => e = .returned (.bool (eqB a a')) ∧ Below W'.heap.size W' w') := hid fun W' hb => by
      have h0 : Below W0.heap.size W0 W' := hW.trans (hb.mono hW.size)
      exact like24 W' f g _ _ _ _ _ _ (k1.later h0 fun vs x _ h => h.later h0) (k1'.later h0 fun vs x _ h => h.later h0) l1 l1' fun W2 hb2 va vb x y hx hy => like25 f W2 W' va x hb2 hx g vb y hy
    have H26 : Hid (∀ W', Below W.heap.size W W' → Calls Tryd.prog 26 #[.slice cp b.length cc, .slice cp' b'.length cc', .func (.func 27) #[] #[]] W' fun e w' => e = .returned (.bool (eqB b b')) ∧ Below W'.heap.size W' w') := hid fun W' hb => by
      have h0 : Below W0.heap.size W0 W' := hW.trans (hb.mono hW.size)
      exact like26 W' f g _ _ _ _ _ _ (k2.later h0 fun vs x _ h => h.later h0) (k2'.later h0 fun vs x _ h => h.later h0) l2 l2' fun W2 hb2 va vb x y hx hy => like27 f W2 W' va x hb2 hx g vb y hy
    have H28 : Hid (∀ W', Below W.heap.size W W' → Calls Tryd.prog 28 #[.slice sp c.length sc, .slice sp' c'.length sc', .func (.func 29) #[] #[]] W' fun e w' => e = .returned (.bool (eqB c c')) ∧ Below W'.heap.size W' w') := hid fun W' hb => by
      have h0 : Below W0.heap.size W0 W' := hW.trans (hb.mono hW.size)
      exact like28 W' f g _ _ _ _ _ _ (k3.later h0 fun vs x _ h => TyAt.later h0 f vs x h) (k3'.later h0 fun vs x _ h => TyAt.later h0 g vs x h) l3 l3' fun W2 hb2 va vb x y hx hy => like29 f W2 W' va x hb2 hx g vb y hy
    have hq := mask_eq m0 m1 m2 m3 m4 m5 m6 m7 m0' m1' m2' m3' m4' m5' m6' m7'
    rw [eqB_im, eqB_decide [m0, m1, m2, m3, m4, m5, m6, m7]]
    generalize decide ([m0, m1, m2, m3, m4, m5, m6, m7] = [m0', m1', m2', m3', m4', m5', m6', m7']) = t4 at *
    generalize eqB a a' = t1 at *
    generalize eqB b b' = t2 at *
    generalize eqB c c' = t3 at *
    clear k1 k2 k3 k1' k2' k3' hW
    generalize a.length = n0 at *
    generalize a'.length = r0 at *
    generalize b.length = n1 at *
    generalize b'.length = r1 at *
    generalize c.length = n2 at *
    generalize c'.length = r2 at *
    cases t1 with
    | false =>
      go_enter Tryd.func10, Tryd.ntmps10
      go_wp2_with (first
          | (go_at_call 24; refine (H24.out _ (by repeat (first | exact Below.refl _ _ | refine bG ?_ _ | refine bI ?_ _ _ | refine bA ?_ _))).mono ?_; rintro e w' ⟨rfl, hb⟩; obtain ⟨G24, rfl⟩ := bout hb; clear hb))
      go_ret
      exact ⟨by (try simp [eqB_true rfl]), by repeat (first | exact Below.refl _ _ | refine bG ?_ _ | refine bI ?_ _ _ | refine bA ?_ _)⟩
    | true =>
      cases t2 with
      | false =>
        go_enter Tryd.func10, Tryd.ntmps10
        go_wp2_with (first
          | (go_at_call 24; refine (H24.out _ (by repeat (first | exact Below.refl _ _ | refine bG ?_ _ | refine bI ?_ _ _ | refine bA ?_ _))).mono ?_; rintro e w' ⟨rfl, hb⟩; obtain ⟨G24, rfl⟩ := bout hb; clear hb)
          | (go_at_call 26; refine (H26.out _ (by repeat (first | exact Below.refl _ _ | refine bG ?_ _ | refine bI ?_ _ _ | refine bA ?_ _))).mono ?_; rintro e w' ⟨rfl, hb⟩; obtain ⟨G26, rfl⟩ := bout hb; clear hb))
        go_ret
        exact ⟨by (try simp [eqB_true rfl]), by repeat (first | exact Below.refl _ _ | refine bG ?_ _ | refine bI ?_ _ _ | refine bA ?_ _)⟩
      | true =>
        cases t3 with
        | false =>
          go_enter Tryd.func10, Tryd.ntmps10
          go_wp2_with (first
          | (go_at_call 24; refine (H24.out _ (by repeat (first | exact Below.refl _ _ | refine bG ?_ _ | refine bI ?_ _ _ | refine bA ?_ _))).mono ?_; rintro e w' ⟨rfl, hb⟩; obtain ⟨G24, rfl⟩ := bout hb; clear hb)
          | (go_at_call 26; refine (H26.out _ (by repeat (first | exact Below.refl _ _ | refine bG ?_ _ | refine bI ?_ _ _ | refine bA ?_ _))).mono ?_; rintro e w' ⟨rfl, hb⟩; obtain ⟨G26, rfl⟩ := bout hb; clear hb)
          | (go_at_call 28; refine (H28.out _ (by repeat (first | exact Below.refl _ _ | refine bG ?_ _ | refine bI ?_ _ _ | refine bA ?_ _))).mono ?_; rintro e w' ⟨rfl, hb⟩; obtain ⟨G28, rfl⟩ := bout hb; clear hb))
          go_ret
          exact ⟨by (try simp [eqB_true rfl]), by repeat (first | exact Below.refl _ _ | refine bG ?_ _ | refine bI ?_ _ _ | refine bA ?_ _)⟩
        | true =>
          cases t4 with
          | false =>
            go_enter Tryd.func10, Tryd.ntmps10
            go_wp2_with (first
          | (go_at_call 24; refine (H24.out _ (by repeat (first | exact Below.refl _ _ | refine bG ?_ _ | refine bI ?_ _ _ | refine bA ?_ _))).mono ?_; rintro e w' ⟨rfl, hb⟩; obtain ⟨G24, rfl⟩ := bout hb; clear hb)
          | (go_at_call 26; refine (H26.out _ (by repeat (first | exact Below.refl _ _ | refine bG ?_ _ | refine bI ?_ _ _ | refine bA ?_ _))).mono ?_; rintro e w' ⟨rfl, hb⟩; obtain ⟨G26, rfl⟩ := bout hb; clear hb)
          | (go_at_call 28; refine (H28.out _ (by repeat (first | exact Below.refl _ _ | refine bG ?_ _ | refine bI ?_ _ _ | refine bA ?_ _))).mono ?_; rintro e w' ⟨rfl, hb⟩; obtain ⟨G28, rfl⟩ := bout hb; clear hb))
            go_ret
            exact ⟨by (try simp [eqB_true rfl]), by repeat (first | exact Below.refl _ _ | refine bG ?_ _ | refine bI ?_ _ _ | refine bA ?_ _)⟩
          | true =>
            go_enter Tryd.func10, Tryd.ntmps10
            go_wp2_with (first
          | (go_at_call 24; refine (H24.out _ (by repeat (first | exact Below.refl _ _ | refine bG ?_ _ | refine bI ?_ _ _ | refine bA ?_ _))).mono ?_; rintro e w' ⟨rfl, hb⟩; obtain ⟨G24, rfl⟩ := bout hb; clear hb)
          | (go_at_call 26; refine (H26.out _ (by repeat (first | exact Below.refl _ _ | refine bG ?_ _ | refine bI ?_ _ _ | refine bA ?_ _))).mono ?_; rintro e w' ⟨rfl, hb⟩; obtain ⟨G26, rfl⟩ := bout hb; clear hb)
          | (go_at_call 28; refine (H28.out _ (by repeat (first | exact Below.refl _ _ | refine bG ?_ _ | refine bI ?_ _ _ | refine bA ?_ _))).mono ?_; rintro e w' ⟨rfl, hb⟩; obtain ⟨G28, rfl⟩ := bout hb; clear hb))
            go_ret
            exact ⟨by (try simp [eqB_true rfl]), by repeat (first | exact Below.refl _ _ | refine bG ?_ _ | refine bI ?_ _ _ | refine bA ?_ _)⟩
end Go.Proofs.YtbgjanmheagilaaDoor

/- The reference's proto, walked. Conditions: none. -/
namespace Go.Proofs.YtbgjanmheagilaaDoor
open Go Go.RowKit Go.Nodes
set_option linter.unusedVariables false
set_option linter.unusedSimpArgs false
set_option maxRecDepth 10000 in
set_option maxHeartbeats 8000000 in
theorem proto31 (f : Nat) (W : World) (va : List Value) (A : Pr) (hA : PrAt W f va A) (g : Nat) (vb : List Value) (B : Pr) (hB : PrAt W g vb B) :
    Calls Tryd.prog 31 #[.agg va.toArray, .agg vb.toArray] W fun e w' => e = .returned (.bool (eqB A B)) ∧ Below W.heap.size W w' := by
    obtain ⟨a, b, c, d, y, z⟩ := A
    obtain ⟨a', b', c', d', y', z'⟩ := B
    obtain ⟨l1, l2, l3, l4, l5, tp, tc, wp, wc, cp, cc, up, uc, qp, qc, rfl, k1, k2, k3, k4, k5⟩ := hA
    obtain ⟨l1', l2', l3', l4', l5', tp', tc', wp', wc', cp', cc', up', uc', qp', qc', rfl, k1', k2', k3', k4', k5'⟩ := hB
    simp only at l1 l2 l3 l4 l5 l1' l2' l3' l4' l5' k1 k2 k3 k4 k5 k1' k2' k3' k4' k5'
    have H30 : Hid (∀ W', Below W.heap.size W W' → Calls Tryd.prog 30 #[.slice tp a.length tc, .slice tp' a'.length tc'] W' fun e w' => e = .returned (.bool (eqB a a')) ∧ Below W'.heap.size W' w') := hid fun W' h0 =>
      (types30 f W' g _ _ _ _ _ _ (k1.later h0 fun vs x _ h => TyAt.later h0 f vs x h) (k1'.later h0 fun vs x _ h => TyAt.later h0 g vs x h) l1 l1').mono fun e w' ⟨h, r, hr⟩ => ⟨h, by rw [hr]; exact _root_.Go.below_drewN (Below.refl _ _) r⟩
    rw [eqB_pr]
    unfold maxLen at l1 l2 l3 l4 l5 l1' l2' l3' l4' l5'
    generalize eqB a a' = t1 at *
    have N2 : Hid (c ≠ c' → eqB c c' = false) := hid fun h => eqB_false h
    have Y2 : Hid (c = c' → eqB c c' = true) := hid fun h => eqB_true h
    generalize eqB c c' = t2 at *
    have N3 : Hid (d ≠ d' → eqB d d' = false) := hid fun h => eqB_false h
    have Y3 : Hid (d = d' → eqB d d' = true) := hid fun h => eqB_true h
    generalize eqB d d' = t3 at *
    have N4 : Hid (y ≠ y' → eqB y y' = false) := hid fun h => eqB_false h
    have Y4 : Hid (y = y' → eqB y y' = true) := hid fun h => eqB_true h
    generalize eqB y y' = t4 at *
    have N5 : Hid (z ≠ z' → eqB z z' = false) := hid fun h => eqB_false h
    have Y5 : Hid (z = z' → eqB z z' = true) := hid fun h => eqB_true h
    generalize eqB z z' = t5 at *
    have K2 := hid k2
    have K2' := hid k2'
    have K3 := hid k3
    have K3' := hid k3'
    have K4 := hid k4
    have K4' := hid k4'
    have K5 := hid k5
    have K5' := hid k5'
    clear k1 k2 k3 k4 k5 k1' k2' k3' k4' k5'
    obtain ⟨n0, hn0⟩ : ∃ n, n = a.length := ⟨_, rfl⟩
    obtain ⟨m0, hm0⟩ : ∃ m, m = a'.length := ⟨_, rfl⟩
    rw [← hn0] at l1 H30 ⊢
    rw [← hm0] at l1' H30 ⊢
    have L0 := hid hn0
    have M0 := hid hm0
    have p0 : (n0 : Int) ≤ 9223372036854775807 := by omega
    have q0 : (m0 : Int) ≤ 9223372036854775807 := by omega
    clear hn0 hm0 l1 l1'
    obtain ⟨n1, hn1⟩ : ∃ n, n = c.length := ⟨_, rfl⟩
    obtain ⟨m1, hm1⟩ : ∃ m, m = c'.length := ⟨_, rfl⟩
    rw [← hn1] at l2 ⊢
    rw [← hm1] at l2' ⊢
    have L1 := hid hn1
    have M1 := hid hm1
    have p1 : (n1 : Int) ≤ 9223372036854775807 := by omega
    have q1 : (m1 : Int) ≤ 9223372036854775807 := by omega
    clear hn1 hm1 l2 l2'
    obtain ⟨n2, hn2⟩ : ∃ n, n = d.length := ⟨_, rfl⟩
    obtain ⟨m2, hm2⟩ : ∃ m, m = d'.length := ⟨_, rfl⟩
    rw [← hn2] at l3 ⊢
    rw [← hm2] at l3' ⊢
    have L2 := hid hn2
    have M2 := hid hm2
    have p2 : (n2 : Int) ≤ 9223372036854775807 := by omega
    have q2 : (m2 : Int) ≤ 9223372036854775807 := by omega
    clear hn2 hm2 l3 l3'
    obtain ⟨n3, hn3⟩ : ∃ n, n = y.length := ⟨_, rfl⟩
    obtain ⟨m3, hm3⟩ : ∃ m, m = y'.length := ⟨_, rfl⟩
    rw [← hn3] at l4 ⊢
    rw [← hm3] at l4' ⊢
    have L3 := hid hn3
    have M3 := hid hm3
    have p3 : (n3 : Int) ≤ 9223372036854775807 := by omega
    have q3 : (m3 : Int) ≤ 9223372036854775807 := by omega
    clear hn3 hm3 l4 l4'
    obtain ⟨n4, hn4⟩ : ∃ n, n = z.length := ⟨_, rfl⟩
    obtain ⟨m4, hm4⟩ : ∃ m, m = z'.length := ⟨_, rfl⟩
    rw [← hn4] at l5 ⊢
    rw [← hm4] at l5' ⊢
    have L4 := hid hn4
    have M4 := hid hm4
    have p4 : (n4 : Int) ≤ 9223372036854775807 := by omega
    have q4 : (m4 : Int) ≤ 9223372036854775807 := by omega
    clear hn4 hm4 l5 l5'
    cases t1 with
    | false =>
      go_enter Tryd.func31, Tryd.ntmps31
      go_wp2_with (go_at_call 30; refine (H30.out _ (by repeat (first | exact Below.refl _ _ | refine _root_.Go.below_drewN ?_ _ | refine bG ?_ _ | refine bI ?_ _ _ | refine bA ?_ _))).mono ?_; rintro e w' ⟨rfl, hb⟩; obtain ⟨G, rfl⟩ := bout hb; clear hb)
      go_ret
      exact ⟨by simp, by repeat (first | exact Below.refl _ _ | refine _root_.Go.below_drewN ?_ _ | refine bG ?_ _ | refine bI ?_ _ _ | refine bA ?_ _)⟩
    | true =>
      by_cases hb : b = b'
      · subst hb
        rw [eqB_true (rfl : b = b)]
        by_cases e1 : n1 = m1
        · subst e1
          by_cases e2 : n2 = m2
          · subst e2
            by_cases e3 : n3 = m3
            · subst e3
              by_cases e4 : n4 = m4
              · subst e4
                go_enter Tryd.func31, Tryd.ntmps31
                go_wp2_with (go_at_call 30; refine (H30.out _ (by repeat (first | exact Below.refl _ _ | refine _root_.Go.below_drewN ?_ _ | refine bG ?_ _ | refine bI ?_ _ _ | refine bA ?_ _))).mono ?_; rintro e w' ⟨rfl, hb⟩; obtain ⟨G, rfl⟩ := bout hb; clear hb)
                go_loopw [61] (fun iv wr => ∃ (i : Nat) (r : Nat), i ≤ n1 ∧ iv = .int .i64 i ∧ wr = (grow ((W.alloc (.cells #[.slice tp n0 tc, .int .i64 b, .slice wp n1 wc, .slice cp n2 cc, .slice up n3 uc, .slice qp n4 qc] 56)).alloc (.cells #[.slice tp' m0 tc', .int .i64 b, .slice wp' n1 wc', .slice cp' n2 cc', .slice up' n3 uc', .slice qp' n4 qc'] 56)) G).drewN r ∧ Hid (c.take i = c'.take i)) (fun iv _ => n1 - (intOf iv).toNat)
                case atStart => exact ⟨0, 0, Nat.zero_le _, rfl, rfl, hid rfl⟩
                case round =>
                  obtain ⟨i, r, hi, rfl, rfl, hI⟩ := hrel
                  by_cases hin : i < n1
                  · have hix : i < c.length := by have := L1.out; omega
                    have hiy : i < c'.length := by have := M1.out; omega
                    have i0 : (0 : Int) ≤ (i : Int) := by omega
                    have i1 : (i : Int) < (n1 : Int) := by omega
                    obtain ⟨b1, o1, x, hT, rfl, hb1, c0⟩ := int_cells K2.out hix
                    obtain ⟨b2, o2, x', hT', rfl, hb2, c0'⟩ := int_cells K2'.out hiy
                    have Hno : Hid (c[i] ≠ c'[i] → t2 = false) := hid fun h => N2.out fun e => h (by subst e; rfl)
                    have Hs := hid (List.take_succ_eq_append_getElem hix)
                    have Hs' := hid (List.take_succ_eq_append_getElem hiy)
                    rw [hT] at Hs Hno
                    rw [hT'] at Hs' Hno
                    clear hT hT'
                    by_cases hs : x = x'
                    · subst hs
                      go_wp2
                      go_quiet (fail)
                      go_wp2
                      go_roundw
                      case rel => exact ⟨i + 1, _, by omega, by go_num, by first | rfl | exact World.drewN_drewN _ _ _, hid (by rw [Hs.out, Hs'.out, hI.out])⟩
                      case measure => simp [intOf]; omega
                    · have Hd := hid hs
                      have f1 : (x != x') = true := by simp [hs]
                      clear hs
                      go_wp2
                      go_quiet (fail)
                      go_wp2
                      go_ret
                      have hF := Hno.out Hd.out
                      exact ⟨by simp [hF], by repeat (first | exact Below.refl _ _ | refine _root_.Go.below_drewN ?_ _ | refine bG ?_ _ | refine bI ?_ _ _ | refine bA ?_ _)⟩
                  · have hni : n1 = i := by omega
                    subst hni
                    have E0 : Hid (c = c') := hid (by
                      have h := hI.out
                      rw [List.take_of_length_le (by have := L1.out; omega), List.take_of_length_le (by have := M1.out; omega)] at h
                      exact h)
                    clear hI hi hin
                    go_wp2
                    go_loopw [79] (fun iv wr => ∃ (i : Nat) (r : Nat), i ≤ n2 ∧ iv = .int .i64 i ∧ wr = (grow ((W.alloc (.cells #[.slice tp n0 tc, .int .i64 b, .slice wp n1 wc, .slice cp n2 cc, .slice up n3 uc, .slice qp n4 qc] 56)).alloc (.cells #[.slice tp' m0 tc', .int .i64 b, .slice wp' n1 wc', .slice cp' n2 cc', .slice up' n3 uc', .slice qp' n4 qc'] 56)) G).drewN r ∧ Hid (d.take i = d'.take i)) (fun iv _ => n2 - (intOf iv).toNat)
                    case atStart => exact ⟨0, _, Nat.zero_le _, rfl, rfl, hid rfl⟩
                    case round =>
                      obtain ⟨i, r, hi, rfl, rfl, hI⟩ := hrel
                      by_cases hin : i < n2
                      · have hix : i < d.length := by have := L2.out; omega
                        have hiy : i < d'.length := by have := M2.out; omega
                        have i0 : (0 : Int) ≤ (i : Int) := by omega
                        have i1 : (i : Int) < (n2 : Int) := by omega
                        obtain ⟨b1, o1, k, h, s, l, hT, rfl, hb1, c0, c1, c2, c3⟩ := cn_cells K3.out hix
                        obtain ⟨b2, o2, k', h', s', l', hT', rfl, hb2, c0', c1', c2', c3'⟩ := cn_cells K3'.out hiy
                        have Hno : Hid (d[i] ≠ d'[i] → t3 = false) := hid fun h => N3.out fun e => h (by subst e; rfl)
                        have Hs := hid (List.take_succ_eq_append_getElem hix)
                        have Hs' := hid (List.take_succ_eq_append_getElem hiy)
                        rw [hT] at Hs Hno
                        rw [hT'] at Hs' Hno
                        clear hT hT'
                        obtain ⟨t, ht⟩ : ∃ t, eqB (Cn.mk k h s l) (Cn.mk k' h' s' l') = t := ⟨_, rfl⟩
                        have hq := cn_eq k h s l k' h' s' l'
                        rw [ht] at hq
                        cases t with
                        | true =>
                          have Hd := hid (eqB_of ht)
                          clear ht
                          rw [Hd.out] at Hs
                          go_wp2
                          go_quiet (fail)
                          go_wp2
                          go_roundw
                          case rel => exact ⟨i + 1, _, by omega, by go_num, by first | rfl | exact World.drewN_drewN _ _ _, hid (by rw [Hs.out, Hs'.out, hI.out])⟩
                          case measure => simp [intOf]; omega
                        | false =>
                          have Hd := hid (eqB_no ht)
                          clear ht
                          go_wp2
                          go_quiet (fail)
                          go_wp2
                          go_ret
                          have hF := Hno.out Hd.out
                          exact ⟨by simp [hF], by repeat (first | exact Below.refl _ _ | refine _root_.Go.below_drewN ?_ _ | refine bG ?_ _ | refine bI ?_ _ _ | refine bA ?_ _)⟩
                      · have hni : n2 = i := by omega
                        subst hni
                        have E1 : Hid (d = d') := hid (by
                          have h := hI.out
                          rw [List.take_of_length_le (by have := L2.out; omega), List.take_of_length_le (by have := M2.out; omega)] at h
                          exact h)
                        clear hI hi hin
                        go_wp2
                        go_loopw [97] (fun iv wr => ∃ (i : Nat) (r : Nat), i ≤ n3 ∧ iv = .int .i64 i ∧ wr = (grow ((W.alloc (.cells #[.slice tp n0 tc, .int .i64 b, .slice wp n1 wc, .slice cp n2 cc, .slice up n3 uc, .slice qp n4 qc] 56)).alloc (.cells #[.slice tp' m0 tc', .int .i64 b, .slice wp' n1 wc', .slice cp' n2 cc', .slice up' n3 uc', .slice qp' n4 qc'] 56)) G).drewN r ∧ Hid (y.take i = y'.take i)) (fun iv _ => n3 - (intOf iv).toNat)
                        case atStart => exact ⟨0, _, Nat.zero_le _, rfl, rfl, hid rfl⟩
                        case round =>
                          obtain ⟨i, r, hi, rfl, rfl, hI⟩ := hrel
                          by_cases hin : i < n3
                          · have hix : i < y.length := by have := L3.out; omega
                            have hiy : i < y'.length := by have := M3.out; omega
                            have i0 : (0 : Int) ≤ (i : Int) := by omega
                            have i1 : (i : Int) < (n3 : Int) := by omega
                            obtain ⟨b1, o1, x, v, hT, rfl, hb1, c0, c1⟩ := up_cells K4.out hix
                            obtain ⟨b2, o2, x', v', hT', rfl, hb2, c0', c1'⟩ := up_cells K4'.out hiy
                            have Hno : Hid (y[i] ≠ y'[i] → t4 = false) := hid fun h => N4.out fun e => h (by subst e; rfl)
                            have Hs := hid (List.take_succ_eq_append_getElem hix)
                            have Hs' := hid (List.take_succ_eq_append_getElem hiy)
                            rw [hT] at Hs Hno
                            rw [hT'] at Hs' Hno
                            clear hT hT'
                            obtain ⟨t, ht⟩ : ∃ t, eqB (x, v) (x', v') = t := ⟨_, rfl⟩
                            have hq := up_eq x v x' v'
                            rw [ht] at hq
                            cases t with
                            | true =>
                              have Hd := hid (eqB_of ht)
                              clear ht
                              rw [Hd.out] at Hs
                              go_wp2
                              go_quiet (fail)
                              go_wp2
                              go_roundw
                              case rel => exact ⟨i + 1, _, by omega, by go_num, by first | rfl | exact World.drewN_drewN _ _ _, hid (by rw [Hs.out, Hs'.out, hI.out])⟩
                              case measure => simp [intOf]; omega
                            | false =>
                              have Hd := hid (eqB_no ht)
                              clear ht
                              go_wp2
                              go_quiet (fail)
                              go_wp2
                              go_ret
                              have hF := Hno.out Hd.out
                              exact ⟨by simp [hF], by repeat (first | exact Below.refl _ _ | refine _root_.Go.below_drewN ?_ _ | refine bG ?_ _ | refine bI ?_ _ _ | refine bA ?_ _)⟩
                          · have hni : n3 = i := by omega
                            subst hni
                            have E2 : Hid (y = y') := hid (by
                              have h := hI.out
                              rw [List.take_of_length_le (by have := L3.out; omega), List.take_of_length_le (by have := M3.out; omega)] at h
                              exact h)
                            clear hI hi hin
                            go_wp2
                            go_loopw [115] (fun iv wr => ∃ (i : Nat) (r : Nat), i ≤ n4 ∧ iv = .int .i64 i ∧ wr = (grow ((W.alloc (.cells #[.slice tp n0 tc, .int .i64 b, .slice wp n1 wc, .slice cp n2 cc, .slice up n3 uc, .slice qp n4 qc] 56)).alloc (.cells #[.slice tp' m0 tc', .int .i64 b, .slice wp' n1 wc', .slice cp' n2 cc', .slice up' n3 uc', .slice qp' n4 qc'] 56)) G).drewN r ∧ Hid (z.take i = z'.take i)) (fun iv _ => n4 - (intOf iv).toNat)
                            case atStart => exact ⟨0, _, Nat.zero_le _, rfl, rfl, hid rfl⟩
                            case round =>
                              obtain ⟨i, r, hi, rfl, rfl, hI⟩ := hrel
                              by_cases hin : i < n4
                              · have hix : i < z.length := by have := L4.out; omega
                                have hiy : i < z'.length := by have := M4.out; omega
                                have i0 : (0 : Int) ≤ (i : Int) := by omega
                                have i1 : (i : Int) < (n4 : Int) := by omega
                                obtain ⟨b1, o1, x, hT, rfl, hb1, c0⟩ := int_cells K5.out hix
                                obtain ⟨b2, o2, x', hT', rfl, hb2, c0'⟩ := int_cells K5'.out hiy
                                have Hno : Hid (z[i] ≠ z'[i] → t5 = false) := hid fun h => N5.out fun e => h (by subst e; rfl)
                                have Hs := hid (List.take_succ_eq_append_getElem hix)
                                have Hs' := hid (List.take_succ_eq_append_getElem hiy)
                                rw [hT] at Hs Hno
                                rw [hT'] at Hs' Hno
                                clear hT hT'
                                by_cases hs : x = x'
                                · subst hs
                                  go_wp2
                                  go_quiet (fail)
                                  go_wp2
                                  go_roundw
                                  case rel => exact ⟨i + 1, _, by omega, by go_num, by first | rfl | exact World.drewN_drewN _ _ _, hid (by rw [Hs.out, Hs'.out, hI.out])⟩
                                  case measure => simp [intOf]; omega
                                · have Hd := hid hs
                                  have f1 : (x != x') = true := by simp [hs]
                                  clear hs
                                  go_wp2
                                  go_quiet (fail)
                                  go_wp2
                                  go_ret
                                  have hF := Hno.out Hd.out
                                  exact ⟨by simp [hF], by repeat (first | exact Below.refl _ _ | refine _root_.Go.below_drewN ?_ _ | refine bG ?_ _ | refine bI ?_ _ _ | refine bA ?_ _)⟩
                              · have hni : n4 = i := by omega
                                subst hni
                                have E3 : Hid (z = z') := hid (by
                                  have h := hI.out
                                  rw [List.take_of_length_le (by have := L4.out; omega), List.take_of_length_le (by have := M4.out; omega)] at h
                                  exact h)
                                clear hI hi hin
                                go_wp2
                                go_ret
                                exact ⟨by simp [Y2.out E0.out, Y3.out E1.out, Y4.out E2.out, Y5.out E3.out], by repeat (first | exact Below.refl _ _ | refine _root_.Go.below_drewN ?_ _ | refine bG ?_ _ | refine bI ?_ _ _ | refine bA ?_ _)⟩
              · have Hd : Hid (t5 = false) := hid (N5.out fun h => e4 (by rw [L4.out, M4.out, h]))
                have f1 : ((n4 : Int) != (m4 : Int)) = true := by simp; omega
                clear e4
                go_enter Tryd.func31, Tryd.ntmps31
                go_wp2_with (go_at_call 30; refine (H30.out _ (by repeat (first | exact Below.refl _ _ | refine _root_.Go.below_drewN ?_ _ | refine bG ?_ _ | refine bI ?_ _ _ | refine bA ?_ _))).mono ?_; rintro e w' ⟨rfl, hb⟩; obtain ⟨G, rfl⟩ := bout hb; clear hb)
                go_ret
                have hF := Hd.out
                exact ⟨by simp [hF], by repeat (first | exact Below.refl _ _ | refine _root_.Go.below_drewN ?_ _ | refine bG ?_ _ | refine bI ?_ _ _ | refine bA ?_ _)⟩
            · have Hd : Hid (t4 = false) := hid (N4.out fun h => e3 (by rw [L3.out, M3.out, h]))
              have f1 : ((n3 : Int) != (m3 : Int)) = true := by simp; omega
              clear e3
              go_enter Tryd.func31, Tryd.ntmps31
              go_wp2_with (go_at_call 30; refine (H30.out _ (by repeat (first | exact Below.refl _ _ | refine _root_.Go.below_drewN ?_ _ | refine bG ?_ _ | refine bI ?_ _ _ | refine bA ?_ _))).mono ?_; rintro e w' ⟨rfl, hb⟩; obtain ⟨G, rfl⟩ := bout hb; clear hb)
              go_ret
              have hF := Hd.out
              exact ⟨by simp [hF], by repeat (first | exact Below.refl _ _ | refine _root_.Go.below_drewN ?_ _ | refine bG ?_ _ | refine bI ?_ _ _ | refine bA ?_ _)⟩
          · have Hd : Hid (t3 = false) := hid (N3.out fun h => e2 (by rw [L2.out, M2.out, h]))
            have f1 : ((n2 : Int) != (m2 : Int)) = true := by simp; omega
            clear e2
            go_enter Tryd.func31, Tryd.ntmps31
            go_wp2_with (go_at_call 30; refine (H30.out _ (by repeat (first | exact Below.refl _ _ | refine _root_.Go.below_drewN ?_ _ | refine bG ?_ _ | refine bI ?_ _ _ | refine bA ?_ _))).mono ?_; rintro e w' ⟨rfl, hb⟩; obtain ⟨G, rfl⟩ := bout hb; clear hb)
            go_ret
            have hF := Hd.out
            exact ⟨by simp [hF], by repeat (first | exact Below.refl _ _ | refine _root_.Go.below_drewN ?_ _ | refine bG ?_ _ | refine bI ?_ _ _ | refine bA ?_ _)⟩
        · have Hd : Hid (t2 = false) := hid (N2.out fun h => e1 (by rw [L1.out, M1.out, h]))
          have f1 : ((n1 : Int) != (m1 : Int)) = true := by simp; omega
          clear e1
          go_enter Tryd.func31, Tryd.ntmps31
          go_wp2_with (go_at_call 30; refine (H30.out _ (by repeat (first | exact Below.refl _ _ | refine _root_.Go.below_drewN ?_ _ | refine bG ?_ _ | refine bI ?_ _ _ | refine bA ?_ _))).mono ?_; rintro e w' ⟨rfl, hb⟩; obtain ⟨G, rfl⟩ := bout hb; clear hb)
          go_ret
          have hF := Hd.out
          exact ⟨by simp [hF], by repeat (first | exact Below.refl _ _ | refine _root_.Go.below_drewN ?_ _ | refine bG ?_ _ | refine bI ?_ _ _ | refine bA ?_ _)⟩
      · have Hd := hid (eqB_false hb)
        have f1 : (b != b') = true := by simp [hb]
        clear hb
        go_enter Tryd.func31, Tryd.ntmps31
        go_wp2_with (go_at_call 30; refine (H30.out _ (by repeat (first | exact Below.refl _ _ | refine _root_.Go.below_drewN ?_ _ | refine bG ?_ _ | refine bI ?_ _ _ | refine bA ?_ _))).mono ?_; rintro e w' ⟨rfl, hb⟩; obtain ⟨G, rfl⟩ := bout hb; clear hb)
        go_ret
        have hF := Hd.out
        exact ⟨by simp [hF], by repeat (first | exact Below.refl _ _ | refine _root_.Go.below_drewN ?_ _ | refine bG ?_ _ | refine bI ?_ _ _ | refine bA ?_ _)⟩
end Go.Proofs.YtbgjanmheagilaaDoor
