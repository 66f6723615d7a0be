/- Whether two are one, as a truth value. Conditions: none. -/
import Derived.Test.YtbgjanmheagilaaDoorRd
import Derived.Test.YtbgjanmheagilaaDoorBaseB
import Derived.DeepKeys
import Derived.Test.YtbgjanmheagilaaDoorProg
set_option linter.unusedVariables false
set_option linter.unusedSimpArgs false
namespace Go.Proofs.YtbgjanmheagilaaDoor
open Go Go.RowKit Go.Nodes
set_option linter.unusedVariables false
/-- Whether two are one. -/
noncomputable def eqB {α : Type} (x y : α) : Bool := @decide (x = y) (Classical.propDecidable _)
theorem eqB_true {α : Type} {x y : α} (h : x = y) : eqB x y = true := by unfold eqB; exact @decide_eq_true _ (Classical.propDecidable _) h
theorem eqB_false {α : Type} {x y : α} (h : ¬ x = y) : eqB x y = false := by unfold eqB; exact @decide_eq_false _ (Classical.propDecidable _) h
theorem eqB_of {α : Type} {x y : α} (h : eqB x y = true) : x = y := Classical.byContradiction fun h2 => by rw [eqB_false h2] at h; cases h
theorem eqB_no {α : Type} {x y : α} (h : eqB x y = false) : ¬ x = y := fun h2 => by rw [eqB_true h2] at h; cases h
theorem eqB_decide {α : Type} [DecidableEq α] (x y : α) : eqB x y = decide (x = y) := by
  by_cases h : x = y
  · rw [eqB_true h, decide_eq_true h]
  · rw [eqB_false h, decide_eq_false h]
end Go.Proofs.YtbgjanmheagilaaDoor

/- slices.Equal at words, constants, ups and places, walked over rows as they lie. Conditions: none. -/
namespace Go.Proofs.YtbgjanmheagilaaDoor
open Go Go.RowKit Go.Nodes
set_option linter.unusedVariables false
set_option linter.unusedSimpArgs false
theorem int_cells {K : IntKind} {W : World} {p : Option Addr} {xs : List Int} (h : RowOf W 1 (intE K) p xs) {i : Nat} (hi : i < xs.length) : ∃ b o x, xs[i] = x ∧ p = some ⟨b, o, none⟩ ∧ b < W.heap.size ∧ W.cell? ⟨b, o + i, none⟩ = some (.int K x) := by
  obtain ⟨b, o, hp, hl, vs, h1, h2, h3⟩ := h.at hi
  have := h2 0 (.int K xs[i]) (by rw [h3]; rfl)
  exact ⟨b, o, _, rfl, hp, hl, by simpa using this⟩
theorem text_cells {W : World} {p : Option Addr} {xs : List ByteArray} (h : RowOf W 1 textE p xs) {i : Nat} (hi : i < xs.length) : ∃ b o x, xs[i] = x ∧ p = some ⟨b, o, none⟩ ∧ b < W.heap.size ∧ W.cell? ⟨b, o + i, none⟩ = some (.string x) := by
  obtain ⟨b, o, hp, hl, vs, h1, h2, h3⟩ := h.at hi
  have := h2 0 (.string xs[i]) (by rw [h3.1]; rfl)
  exact ⟨b, o, _, rfl, hp, hl, by simpa using this⟩
theorem up_cells {W : World} {p : Option Addr} {xs : List (Bool × Int)} (h : RowOf W 2 upE p xs) {i : Nat} (hi : i < xs.length) : ∃ b o x y, xs[i] = (x, y) ∧ p = some ⟨b, o, none⟩ ∧ b < W.heap.size ∧ W.cell? ⟨b, o + i * 2, none⟩ = some (.bool x) ∧ W.cell? ⟨b, o + i * 2 + 1, none⟩ = some (.int .i64 y) := by
  obtain ⟨b, o, hp, hl, vs, h1, h2, h3⟩ := h.at hi
  exact ⟨b, o, _, _, rfl, hp, hl, by simpa using h2 0 (.bool xs[i].1) (by rw [h3]; rfl), h2 1 (.int .i64 xs[i].2) (by rw [h3]; rfl)⟩
theorem cn_cells {W : World} {p : Option Addr} {xs : List Cn} (h : RowOf W 4 cnE p xs) {i : Nat} (hi : i < xs.length) : ∃ b o k n s l, xs[i] = Cn.mk k n s l ∧ p = some ⟨b, o, none⟩ ∧ b < W.heap.size ∧ W.cell? ⟨b, o + i * 4, none⟩ = some (.int .i64 k) ∧ W.cell? ⟨b, o + i * 4 + 1, none⟩ = some (.int .i64 n) ∧ W.cell? ⟨b, o + i * 4 + 2, none⟩ = some (.string s) ∧ W.cell? ⟨b, o + i * 4 + 3, none⟩ = some (.int .u64 l) := by
  obtain ⟨b, o, hp, hl, vs, h1, h2, h3⟩ := h.at hi
  exact ⟨b, o, _, _, _, _, rfl, hp, hl, by simpa using h2 0 (.int .i64 xs[i].k) (by rw [h3.1]; rfl), h2 1 (.int .i64 xs[i].n) (by rw [h3.1]; rfl), h2 2 (.string xs[i].s) (by rw [h3.1]; rfl), h2 3 (.int .u64 xs[i].l) (by rw [h3.1]; rfl)⟩
theorem up_eq (x : Bool) (y : Int) (x' : Bool) (y' : Int) (w : World) : (Op.equalIn 10000 90 (.agg #[.bool x, .int .i64 y]) (.agg #[.bool x', .int .i64 y'])).run Tryd.prog w = .ok (eqB (x, y) (x', y')) w := by
  rw [show (10000 : Nat) = 9998 + 1 + 1 from rfl, run_equalIn_agg w _ 90 _ _ (by simp only [Program.fieldsOf, Tryd.underlying90]) Tryd.stoodInHeld90]
  simp only [Program.fieldsOf, Tryd.underlying90, Op.eqFields]
  simp [go_sem, Tryd.underlying3, Tryd.underlying4, part]
  by_cases h1 : x = x'
  · by_cases h2 : y = y'
    · rw [eqB_true (by rw [h1, h2])]; simp [h1, h2]
    · rw [eqB_false (by simp [h2])]; simp [h2]
  · rw [eqB_false (by simp [h1])]; simp [h1]
theorem cn_eq (k n : Int) (s : ByteArray) (l : Int) (k' n' : Int) (s' : ByteArray) (l' : Int) (w : World) : (Op.equalIn 10000 52 (.agg #[.int .i64 k, .int .i64 n, .string s, .int .u64 l]) (.agg #[.int .i64 k', .int .i64 n', .string s', .int .u64 l'])).run Tryd.prog w = .ok (eqB (Cn.mk k n s l) (Cn.mk k' n' s' l')) w := by
  rw [show (10000 : Nat) = 9998 + 1 + 1 from rfl, run_equalIn_agg w _ 52 _ _ (by simp only [Program.fieldsOf, Tryd.underlying52]) Tryd.stoodInHeld52]
  simp only [Program.fieldsOf, Tryd.underlying52, Op.eqFields]
  simp [go_sem, Tryd.underlying3, Tryd.underlying9, part]
  by_cases h1 : k = k'
  · by_cases h2 : n = n'
    · by_cases h3 : s.toList = s'.toList
      · have h3' : s = s' := ByteArray.ext (by rw [ByteArray.toList_eq, ByteArray.toList_eq] at h3; exact Array.ext' (by simpa using h3))
        by_cases h4 : l = l'
        · rw [eqB_true (by rw [h1, h2, h3', h4])]; simp [h1, h2, h3, h4]
        · rw [eqB_false (by simp [h4])]; simp [h4]
      · rw [eqB_false (by intro e; cases e; exact h3 rfl)]; simp [h3]
    · rw [eqB_false (by simp [h2])]; simp [h2]
  · rw [eqB_false (by simp [h1])]; simp [h1]
theorem mask_eq (a0 a1 a2 a3 a4 a5 a6 a7 b0 b1 b2 b3 b4 b5 b6 b7 : Int) (w : World) : (Op.equalIn 10000 27 (.agg #[.int .u64 a0, .int .u64 a1, .int .u64 a2, .int .u64 a3, .int .u64 a4, .int .u64 a5, .int .u64 a6, .int .u64 a7]) (.agg #[.int .u64 b0, .int .u64 b1, .int .u64 b2, .int .u64 b3, .int .u64 b4, .int .u64 b5, .int .u64 b6, .int .u64 b7])).run Tryd.prog w = .ok (decide ([a0, a1, a2, a3, a4, a5, a6, a7] = [b0, b1, b2, b3, b4, b5, b6, b7])) w := by
  obtain ⟨inf, hinf⟩ := info_of_underlying Tryd.underlying26
  rw [show (10000 : Nat) = 9998 + 1 + 1 from rfl, run_equalIn_array w _ _ _ Tryd.underlying27 hinf, show Tryd.prog.cellsOf 26 = 1 by kernel_rfl]
  simp only [List.range, List.range.loop, Op.eqItems]
  simp [go_sem, Tryd.underlying26, part]
  by_cases h0 : a0 = b0
  · skip
    by_cases h1 : a1 = b1
    · skip
      by_cases h2 : a2 = b2
      · skip
        by_cases h3 : a3 = b3
        · skip
          by_cases h4 : a4 = b4
          · skip
            by_cases h5 : a5 = b5
            · skip
              by_cases h6 : a6 = b6
              · skip
                by_cases h7 : a7 = b7
                · simp [h0, h1, h2, h3, h4, h5, h6, h7]
                · simp [h7]
              · simp [h6]
            · simp [h5]
          · simp [h4]
        · simp [h3]
      · simp [h2]
    · simp [h1]
  · simp [h0]
set_option maxRecDepth 10000 in
set_option maxHeartbeats 2000000 in
theorem eqRow41 (W : World) (p q : Option Addr) (c d : Nat) (xs ys : List Int) (hx : RowOf W 1 (intE .u32) p xs) (hy : RowOf W 1 (intE .u32) q ys) (lx : xs.length ≤ maxLen) (ly : ys.length ≤ maxLen) :
    Calls Tryd.prog 41 #[.slice p xs.length c, .slice q ys.length d] W fun e w' => e = .returned (.bool (eqB xs ys)) ∧ ∃ r, w' = W.drewN r := by
  have Hx := hid hx
  have Hy := hid hy
  clear hx hy
  obtain ⟨m, hm⟩ : ∃ m, m = ys.length := ⟨_, rfl⟩
  obtain ⟨n, hn⟩ : ∃ n, n = xs.length := ⟨_, rfl⟩
  rw [← hn] at lx ⊢
  rw [← hm] at ly ⊢
  have Hn := hid hn
  have Hm := hid hm
  unfold maxLen at lx ly
  have lx2 : (n : Int) ≤ 9223372036854775807 := by omega
  have ly2 : (m : Int) ≤ 9223372036854775807 := by omega
  clear hn hm lx ly
  go_enter Tryd.func41, Tryd.ntmps41
  by_cases hl : n = m
  · subst hl
    go_wp2
    go_loopw [13] (fun iv wr => ∃ (i : Nat) (r : Nat), i ≤ n ∧ iv = .int .i64 i ∧ wr = W.drewN r ∧ Hid (xs.take i = ys.take i)) (fun iv _ => n - (intOf iv).toNat)
    case atStart => exact ⟨0, 0, Nat.zero_le _, rfl, rfl, hid rfl⟩
    case round =>
      obtain ⟨i, r, hi, rfl, rfl, hI⟩ := hrel
      by_cases hin : i < n
      · have hix : i < xs.length := by have := Hn.out; omega
        have hiy : i < ys.length := by have := Hm.out; omega
        have n0 : (0 : Int) ≤ (i : Int) := by omega
        have n1 : (i : Int) < (n : Int) := by omega
        obtain ⟨b, o, x, hT, rfl, hb, c0⟩ := int_cells Hx.out hix
        obtain ⟨b', o', x', hT', rfl, hb', c0'⟩ := int_cells Hy.out hiy
        have Hno : Hid (xs[i] ≠ ys[i] → eqB xs ys = false) := hid fun h => eqB_false fun e => h (by subst e; rfl)
        have HT := hid hT
        have HT' := hid hT'
        have Hs := hid (List.take_succ_eq_append_getElem hix)
        have Hs' := hid (List.take_succ_eq_append_getElem hiy)
        rw [hT] at Hs Hno
        rw [hT'] at Hs' Hno
        clear hT hT' HT HT'
        by_cases hs : x = x'
        · subst hs
          go_wp2
          go_quiet (fail)
          go_wp2
          go_roundw
          case rel => exact ⟨i + 1, _, by omega, by go_num, by first | rfl | exact World.drewN_drewN _ _ _, hid (by rw [Hs.out, Hs'.out, hI.out])⟩
          case measure => simp [intOf]; omega
        · have Hd := hid hs
          have f1 : (x != x') = true := by simp [hs]
          clear hs
          go_wp2
          go_quiet (fail)
          go_wp2
          go_ret
          exact ⟨by rw [Hno.out Hd.out]; rfl, by first | exact ⟨_, rfl⟩ | exact ⟨_, World.drewN_drewN _ _ _⟩⟩

      · obtain rfl : i = n := by omega
        have he : Hid (xs = ys) := hid (by
          have h := hI.out
          rw [List.take_of_length_le (by have := Hn.out; omega), List.take_of_length_le (by have := Hm.out; omega)] at h
          exact h)
        go_wp2
        go_ret
        exact ⟨by rw [eqB_true he.out]; rfl, _, rfl⟩
  · have hne : ((n : Int) != (m : Int)) = true := by simp; omega
    go_wp2
    go_ret
    exact ⟨by rw [eqB_false (fun e => hl (by rw [Hn.out, Hm.out, e]))]; rfl, 0, rfl⟩
set_option maxRecDepth 10000 in
set_option maxHeartbeats 2000000 in
theorem eqRow47 (W : World) (p q : Option Addr) (c d : Nat) (xs ys : List ByteArray) (hx : RowOf W 1 textE p xs) (hy : RowOf W 1 textE q ys) (lx : xs.length ≤ maxLen) (ly : ys.length ≤ maxLen) :
    Calls Tryd.prog 47 #[.slice p xs.length c, .slice q ys.length d] W fun e w' => e = .returned (.bool (eqB xs ys)) ∧ ∃ r, w' = W.drewN r := by
  have Hx := hid hx
  have Hy := hid hy
  clear hx hy
  obtain ⟨m, hm⟩ : ∃ m, m = ys.length := ⟨_, rfl⟩
  obtain ⟨n, hn⟩ : ∃ n, n = xs.length := ⟨_, rfl⟩
  rw [← hn] at lx ⊢
  rw [← hm] at ly ⊢
  have Hn := hid hn
  have Hm := hid hm
  unfold maxLen at lx ly
  have lx2 : (n : Int) ≤ 9223372036854775807 := by omega
  have ly2 : (m : Int) ≤ 9223372036854775807 := by omega
  clear hn hm lx ly
  go_enter Tryd.func47, Tryd.ntmps47
  by_cases hl : n = m
  · subst hl
    go_wp2
    go_loopw [13] (fun iv wr => ∃ (i : Nat) (r : Nat), i ≤ n ∧ iv = .int .i64 i ∧ wr = W.drewN r ∧ Hid (xs.take i = ys.take i)) (fun iv _ => n - (intOf iv).toNat)
    case atStart => exact ⟨0, 0, Nat.zero_le _, rfl, rfl, hid rfl⟩
    case round =>
      obtain ⟨i, r, hi, rfl, rfl, hI⟩ := hrel
      by_cases hin : i < n
      · have hix : i < xs.length := by have := Hn.out; omega
        have hiy : i < ys.length := by have := Hm.out; omega
        have n0 : (0 : Int) ≤ (i : Int) := by omega
        have n1 : (i : Int) < (n : Int) := by omega
        obtain ⟨b, o, x, hT, rfl, hb, c0⟩ := text_cells Hx.out hix
        obtain ⟨b', o', x', hT', rfl, hb', c0'⟩ := text_cells Hy.out hiy
        have Hno : Hid (xs[i] ≠ ys[i] → eqB xs ys = false) := hid fun h => eqB_false fun e => h (by subst e; rfl)
        have HT := hid hT
        have HT' := hid hT'
        have Hs := hid (List.take_succ_eq_append_getElem hix)
        have Hs' := hid (List.take_succ_eq_append_getElem hiy)
        rw [hT] at Hs Hno
        rw [hT'] at Hs' Hno
        clear hT hT' HT HT'
        by_cases hs : x = x'
        · subst hs
          go_wp2
          go_quiet (fail)
          go_wp2
          go_roundw
          case rel => exact ⟨i + 1, _, by omega, by go_num, by first | rfl | exact World.drewN_drewN _ _ _, hid (by rw [Hs.out, Hs'.out, hI.out])⟩
          case measure => simp [intOf]; omega
        · have Hd := hid hs
          have f1 : (x.toList == x'.toList) = false := by
            cases h : (x.toList == x'.toList) with
            | false => rfl
            | true => exact absurd (ByteArray.ext (by have := eq_of_beq h; rw [ByteArray.toList_eq, ByteArray.toList_eq] at this; exact Array.ext' (by simpa using this))) hs
          clear hs
          go_wp2
          go_quiet (fail)
          go_wp2
          go_ret
          exact ⟨by rw [Hno.out Hd.out]; rfl, by first | exact ⟨_, rfl⟩ | exact ⟨_, World.drewN_drewN _ _ _⟩⟩

      · obtain rfl : i = n := by omega
        have he : Hid (xs = ys) := hid (by
          have h := hI.out
          rw [List.take_of_length_le (by have := Hn.out; omega), List.take_of_length_le (by have := Hm.out; omega)] at h
          exact h)
        go_wp2
        go_ret
        exact ⟨by rw [eqB_true he.out]; rfl, _, rfl⟩
  · have hne : ((n : Int) != (m : Int)) = true := by simp; omega
    go_wp2
    go_ret
    exact ⟨by rw [eqB_false (fun e => hl (by rw [Hn.out, Hm.out, e]))]; rfl, 0, rfl⟩
set_option maxRecDepth 10000 in
set_option maxHeartbeats 2000000 in
theorem eqRow44 (W : World) (p q : Option Addr) (c d : Nat) (xs ys : List Int) (hx : RowOf W 1 (intE .i64) p xs) (hy : RowOf W 1 (intE .i64) q ys) (lx : xs.length ≤ maxLen) (ly : ys.length ≤ maxLen) :
    Calls Tryd.prog 44 #[.slice p xs.length c, .slice q ys.length d] W fun e w' => e = .returned (.bool (eqB xs ys)) ∧ ∃ r, w' = W.drewN r := by
  have Hx := hid hx
  have Hy := hid hy
  clear hx hy
  obtain ⟨m, hm⟩ : ∃ m, m = ys.length := ⟨_, rfl⟩
  obtain ⟨n, hn⟩ : ∃ n, n = xs.length := ⟨_, rfl⟩
  rw [← hn] at lx ⊢
  rw [← hm] at ly ⊢
  have Hn := hid hn
  have Hm := hid hm
  unfold maxLen at lx ly
  have lx2 : (n : Int) ≤ 9223372036854775807 := by omega
  have ly2 : (m : Int) ≤ 9223372036854775807 := by omega
  clear hn hm lx ly
  go_enter Tryd.func44, Tryd.ntmps44
  by_cases hl : n = m
  · subst hl
    go_wp2
    go_loopw [13] (fun iv wr => ∃ (i : Nat) (r : Nat), i ≤ n ∧ iv = .int .i64 i ∧ wr = W.drewN r ∧ Hid (xs.take i = ys.take i)) (fun iv _ => n - (intOf iv).toNat)
    case atStart => exact ⟨0, 0, Nat.zero_le _, rfl, rfl, hid rfl⟩
    case round =>
      obtain ⟨i, r, hi, rfl, rfl, hI⟩ := hrel
      by_cases hin : i < n
      · have hix : i < xs.length := by have := Hn.out; omega
        have hiy : i < ys.length := by have := Hm.out; omega
        have n0 : (0 : Int) ≤ (i : Int) := by omega
        have n1 : (i : Int) < (n : Int) := by omega
        obtain ⟨b, o, x, hT, rfl, hb, c0⟩ := int_cells Hx.out hix
        obtain ⟨b', o', x', hT', rfl, hb', c0'⟩ := int_cells Hy.out hiy
        have Hno : Hid (xs[i] ≠ ys[i] → eqB xs ys = false) := hid fun h => eqB_false fun e => h (by subst e; rfl)
        have HT := hid hT
        have HT' := hid hT'
        have Hs := hid (List.take_succ_eq_append_getElem hix)
        have Hs' := hid (List.take_succ_eq_append_getElem hiy)
        rw [hT] at Hs Hno
        rw [hT'] at Hs' Hno
        clear hT hT' HT HT'
        by_cases hs : x = x'
        · subst hs
          go_wp2
          go_quiet (fail)
          go_wp2
          go_roundw
          case rel => exact ⟨i + 1, _, by omega, by go_num, by first | rfl | exact World.drewN_drewN _ _ _, hid (by rw [Hs.out, Hs'.out, hI.out])⟩
          case measure => simp [intOf]; omega
        · have Hd := hid hs
          have f1 : (x != x') = true := by simp [hs]
          clear hs
          go_wp2
          go_quiet (fail)
          go_wp2
          go_ret
          exact ⟨by rw [Hno.out Hd.out]; rfl, by first | exact ⟨_, rfl⟩ | exact ⟨_, World.drewN_drewN _ _ _⟩⟩

      · obtain rfl : i = n := by omega
        have he : Hid (xs = ys) := hid (by
          have h := hI.out
          rw [List.take_of_length_le (by have := Hn.out; omega), List.take_of_length_le (by have := Hm.out; omega)] at h
          exact h)
        go_wp2
        go_ret
        exact ⟨by rw [eqB_true he.out]; rfl, _, rfl⟩
  · have hne : ((n : Int) != (m : Int)) = true := by simp; omega
    go_wp2
    go_ret
    exact ⟨by rw [eqB_false (fun e => hl (by rw [Hn.out, Hm.out, e]))]; rfl, 0, rfl⟩
set_option maxRecDepth 10000 in
set_option maxHeartbeats 2000000 in
theorem eqRow43 (W : World) (p q : Option Addr) (c d : Nat) (xs ys : List (Bool × Int)) (hx : RowOf W 2 upE p xs) (hy : RowOf W 2 upE q ys) (lx : xs.length ≤ maxLen) (ly : ys.length ≤ maxLen) :
    Calls Tryd.prog 43 #[.slice p xs.length c, .slice q ys.length d] W fun e w' => e = .returned (.bool (eqB xs ys)) ∧ ∃ r, w' = W.drewN r := by
  have Hx := hid hx
  have Hy := hid hy
  clear hx hy
  obtain ⟨m, hm⟩ : ∃ m, m = ys.length := ⟨_, rfl⟩
  obtain ⟨n, hn⟩ : ∃ n, n = xs.length := ⟨_, rfl⟩
  rw [← hn] at lx ⊢
  rw [← hm] at ly ⊢
  have Hn := hid hn
  have Hm := hid hm
  unfold maxLen at lx ly
  have lx2 : (n : Int) ≤ 9223372036854775807 := by omega
  have ly2 : (m : Int) ≤ 9223372036854775807 := by omega
  clear hn hm lx ly
  go_enter Tryd.func43, Tryd.ntmps43
  by_cases hl : n = m
  · subst hl
    go_wp2
    go_loopw [13] (fun iv wr => ∃ (i : Nat) (r : Nat), i ≤ n ∧ iv = .int .i64 i ∧ wr = W.drewN r ∧ Hid (xs.take i = ys.take i)) (fun iv _ => n - (intOf iv).toNat)
    case atStart => exact ⟨0, 0, Nat.zero_le _, rfl, rfl, hid rfl⟩
    case round =>
      obtain ⟨i, r, hi, rfl, rfl, hI⟩ := hrel
      by_cases hin : i < n
      · have hix : i < xs.length := by have := Hn.out; omega
        have hiy : i < ys.length := by have := Hm.out; omega
        have n0 : (0 : Int) ≤ (i : Int) := by omega
        have n1 : (i : Int) < (n : Int) := by omega
        obtain ⟨b, o, x, y, hT, rfl, hb, c0, c1⟩ := up_cells Hx.out hix
        obtain ⟨b', o', x', y', hT', rfl, hb', c0', c1'⟩ := up_cells Hy.out hiy
        have Hno : Hid (xs[i] ≠ ys[i] → eqB xs ys = false) := hid fun h => eqB_false fun e => h (by subst e; rfl)
        have HT := hid hT
        have HT' := hid hT'
        have Hs := hid (List.take_succ_eq_append_getElem hix)
        have Hs' := hid (List.take_succ_eq_append_getElem hiy)
        rw [hT] at Hs Hno
        rw [hT'] at Hs' Hno
        clear hT hT' HT HT'
        obtain ⟨t, ht⟩ : ∃ t, eqB (x, y) (x', y') = t := ⟨_, rfl⟩
        have hq := up_eq x y x' y'
        rw [ht] at hq
        cases t with
        | true =>
          have Hd := hid (eqB_of ht)
          clear ht
          rw [Hd.out] at Hs
          go_wp2
          go_quiet (fail)
          go_wp2
          go_roundw
          case rel => exact ⟨i + 1, _, by omega, by go_num, by first | rfl | exact World.drewN_drewN _ _ _, hid (by rw [Hs.out, Hs'.out, hI.out])⟩
          case measure => simp [intOf]; omega
        | false =>
          have Hd := hid (eqB_no ht)
          clear ht
          go_wp2
          go_quiet (fail)
          go_wp2
          go_ret
          exact ⟨by rw [Hno.out Hd.out]; rfl, by first | exact ⟨_, rfl⟩ | exact ⟨_, World.drewN_drewN _ _ _⟩⟩
      · obtain rfl : i = n := by omega
        have he : Hid (xs = ys) := hid (by
          have h := hI.out
          rw [List.take_of_length_le (by have := Hn.out; omega), List.take_of_length_le (by have := Hm.out; omega)] at h
          exact h)
        go_wp2
        go_ret
        exact ⟨by rw [eqB_true he.out]; rfl, _, rfl⟩
  · have hne : ((n : Int) != (m : Int)) = true := by simp; omega
    go_wp2
    go_ret
    exact ⟨by rw [eqB_false (fun e => hl (by rw [Hn.out, Hm.out, e]))]; rfl, 0, rfl⟩
set_option maxRecDepth 10000 in
set_option maxHeartbeats 2000000 in
theorem eqRow42 (W : World) (p q : Option Addr) (c d : Nat) (xs ys : List Cn) (hx : RowOf W 4 cnE p xs) (hy : RowOf W 4 cnE q ys) (lx : xs.length ≤ maxLen) (ly : ys.length ≤ maxLen) :
    Calls Tryd.prog 42 #[.slice p xs.length c, .slice q ys.length d] W fun e w' => e = .returned (.bool (eqB xs ys)) ∧ ∃ r, w' = W.drewN r := by
  have Hx := hid hx
  have Hy := hid hy
  clear hx hy
  obtain ⟨m, hm⟩ : ∃ m, m = ys.length := ⟨_, rfl⟩
  obtain ⟨n, hn⟩ : ∃ n, n = xs.length := ⟨_, rfl⟩
  rw [← hn] at lx ⊢
  rw [← hm] at ly ⊢
  have Hn := hid hn
  have Hm := hid hm
  unfold maxLen at lx ly
  have lx2 : (n : Int) ≤ 9223372036854775807 := by omega
  have ly2 : (m : Int) ≤ 9223372036854775807 := by omega
  clear hn hm lx ly
  go_enter Tryd.func42, Tryd.ntmps42
  by_cases hl : n = m
  · subst hl
    go_wp2
    go_loopw [13] (fun iv wr => ∃ (i : Nat) (r : Nat), i ≤ n ∧ iv = .int .i64 i ∧ wr = W.drewN r ∧ Hid (xs.take i = ys.take i)) (fun iv _ => n - (intOf iv).toNat)
    case atStart => exact ⟨0, 0, Nat.zero_le _, rfl, rfl, hid rfl⟩
    case round =>
      obtain ⟨i, r, hi, rfl, rfl, hI⟩ := hrel
      by_cases hin : i < n
      · have hix : i < xs.length := by have := Hn.out; omega
        have hiy : i < ys.length := by have := Hm.out; omega
        have n0 : (0 : Int) ≤ (i : Int) := by omega
        have n1 : (i : Int) < (n : Int) := by omega
        obtain ⟨b, o, k, a, s, l, hT, rfl, hb, c0, c1, c2, c3⟩ := cn_cells Hx.out hix
        obtain ⟨b', o', k', a', s', l', hT', rfl, hb', c0', c1', c2', c3'⟩ := cn_cells Hy.out hiy
        have Hno : Hid (xs[i] ≠ ys[i] → eqB xs ys = false) := hid fun h => eqB_false fun e => h (by subst e; rfl)
        have HT := hid hT
        have HT' := hid hT'
        have Hs := hid (List.take_succ_eq_append_getElem hix)
        have Hs' := hid (List.take_succ_eq_append_getElem hiy)
        rw [hT] at Hs Hno
        rw [hT'] at Hs' Hno
        clear hT hT' HT HT'
        obtain ⟨t, ht⟩ : ∃ t, eqB (Cn.mk k a s l) (Cn.mk k' a' s' l') = t := ⟨_, rfl⟩
        have hq := cn_eq k a s l k' a' s' l'
        rw [ht] at hq
        cases t with
        | true =>
          have Hd := hid (eqB_of ht)
          clear ht
          rw [Hd.out] at Hs
          go_wp2
          go_quiet (fail)
          go_wp2
          go_roundw
          case rel => exact ⟨i + 1, _, by omega, by go_num, by first | rfl | exact World.drewN_drewN _ _ _, hid (by rw [Hs.out, Hs'.out, hI.out])⟩
          case measure => simp [intOf]; omega
        | false =>
          have Hd := hid (eqB_no ht)
          clear ht
          go_wp2
          go_quiet (fail)
          go_wp2
          go_ret
          exact ⟨by rw [Hno.out Hd.out]; rfl, by first | exact ⟨_, rfl⟩ | exact ⟨_, World.drewN_drewN _ _ _⟩⟩
      · obtain rfl : i = n := by omega
        have he : Hid (xs = ys) := hid (by
          have h := hI.out
          rw [List.take_of_length_le (by have := Hn.out; omega), List.take_of_length_le (by have := Hm.out; omega)] at h
          exact h)
        go_wp2
        go_ret
        exact ⟨by rw [eqB_true he.out]; rfl, _, rfl⟩
  · have hne : ((n : Int) != (m : Int)) = true := by simp; omega
    go_wp2
    go_ret
    exact ⟨by rw [eqB_false (fun e => hl (by rw [Hn.out, Hm.out, e]))]; rfl, 0, rfl⟩
end Go.Proofs.YtbgjanmheagilaaDoor

/- slices.Equal at texts, over rows as they lie. Conditions: none. -/
namespace Go.Proofs.YtbgjanmheagilaaDoor
open Go Go.RowKit Go.Nodes
set_option linter.unusedVariables false
theorem texts_cells {W : World} {p : Option Addr} {xs : List ByteArray} (h : RowOf W 1 textE p xs) (h0 : xs ≠ []) : ∃ b o, p = some ⟨b, o, none⟩ ∧ ∀ j, j < xs.length → W.cell? ⟨b, o + j, none⟩ = some (.string (xs.getD j ByteArray.empty)) := by
  rcases h with h | ⟨b, o, hp, hl, hc⟩
  · exact absurd h h0
  · refine ⟨b, o, hp, fun j hj => ?_⟩
    obtain ⟨vs, h1, h2, h3, _⟩ := hc j hj
    have := h2 0 (.string xs[j]) (by rw [h3]; rfl)
    rw [Nat.mul_one, Nat.add_zero] at this
    rw [this, List.getD, List.getElem?_eq_getElem hj]; rfl
theorem eqTexts (W : World) (p q : Option Addr) (c d : Nat) (xs ys : List ByteArray) (hx : RowOf W 1 textE p xs) (hy : RowOf W 1 textE q ys) (lx : xs.length ≤ maxLen) (ly : ys.length ≤ maxLen) :
    Calls Tryd.prog 47 #[.slice p xs.length c, .slice q ys.length d] W fun e w' => e = .returned (.bool (decide (xs = ys))) ∧ Below W.heap.size W w' :=
  (eqRow47 W p q c d xs ys hx hy lx ly).mono fun e w' ⟨h, r, hr⟩ => ⟨by rw [h, eqB_decide], by rw [hr]; exact _root_.Go.below_drewN (Below.refl _ _) r⟩
end Go.Proofs.YtbgjanmheagilaaDoor

/- slices.EqualFunc at types, walked. Conditions: what the function that is handed in answers. -/
namespace Go.Proofs.YtbgjanmheagilaaDoor
open Go Go.RowKit Go.Nodes
set_option linter.unusedVariables false
set_option linter.unusedSimpArgs false
theorem ty_cells {W : World} {f : Nat} {p : Option Addr} {xs : List Sk} (h : RowOf W 3 (TyAt W f) p xs) {i : Nat} (hi : i < xs.length) : ∃ b o k np nn nc ap an ac, p = some ⟨b, o, none⟩ ∧ b < W.heap.size ∧
    W.cell? ⟨b, o + i * 3, none⟩ = some (.int .i64 k) ∧ W.cell? ⟨b, o + i * 3 + 1, none⟩ = some (.slice np nn nc) ∧ W.cell? ⟨b, o + i * 3 + 2, none⟩ = some (.slice ap an ac) ∧ TyAt W f [.int .i64 k, .slice np nn nc, .slice ap an ac] xs[i] := by
  obtain ⟨b, o, hp, hl, vs, h1, h2, h3⟩ := h.at hi
  generalize hx : xs[i] = T at *
  cases f with
  | zero => exact h3.elim
  | succ f =>
    obtain ⟨k, names, args⟩ := T
    have h4 := h3
    obtain ⟨_, _, _, np, nc, ap, ac, rfl, _, _⟩ := h4
    exact ⟨b, o, k, np, _, nc, ap, _, ac, hp, hl, by simpa using h2 0 _ rfl, h2 1 _ rfl, h2 2 _ rfl, h3⟩
set_option maxRecDepth 10000 in
set_option maxHeartbeats 2000000 in
theorem equalFunc46 (W : World) (f g : Nat) (p q : Option Addr) (c d : Nat) (xs ys : List Sk) (hx : RowOf W 3 (TyAt W f) p xs) (hy : RowOf W 3 (TyAt W g) q ys) (lx : xs.length ≤ maxLen) (ly : ys.length ≤ maxLen)
    (H : ∀ W', Below W.heap.size W W' → ∀ va vb x y, TyAt W f va x → TyAt W g vb y → Calls Tryd.prog 29 #[.agg va.toArray, .agg vb.toArray] W' fun e w' => e = .returned (.bool (eqB x y)) ∧ Below W'.heap.size W' w') :
    Calls Tryd.prog 46 #[.slice p xs.length c, .slice q ys.length d, .func (.func 29) #[] #[]] W fun e w' => e = .returned (.bool (eqB xs ys)) ∧ Below W.heap.size W w' := by
  have Hx := hid hx
  have Hy := hid hy
  have HH := hid H
  clear hx hy H
  obtain ⟨m, hm⟩ : ∃ m, m = ys.length := ⟨_, rfl⟩
  obtain ⟨n, hn⟩ : ∃ n, n = xs.length := ⟨_, rfl⟩
  rw [← hn] at lx ⊢
  rw [← hm] at ly ⊢
  have Hn := hid hn
  have Hm := hid hm
  unfold maxLen at lx ly
  have lx2 : (n : Int) ≤ 9223372036854775807 := by omega
  have ly2 : (m : Int) ≤ 9223372036854775807 := by omega
  clear hn hm lx ly
  go_enter Tryd.func46, Tryd.ntmps46
  by_cases hl : n = m
  · subst hl
    go_wp2
    go_loopw [17] (fun iv wr => ∃ (i : Nat) (G : Gro), i ≤ n ∧ iv = .int .i64 i ∧ wr = grow W G ∧ Hid (xs.take i = ys.take i)) (fun iv _ => n - (intOf iv).toNat)
    case atStart =>
      obtain ⟨G0, hG0⟩ := bout (Below.refl _ W)
      exact ⟨0, G0, Nat.zero_le _, rfl, hG0, hid rfl⟩
    case round =>
      obtain ⟨i, G, hi, rfl, rfl, hI⟩ := hrel
      by_cases hin : i < n
      · have n0 : (0 : Int) ≤ (i : Int) := by omega
        have n1 : (i : Int) < (n : Int) := by omega
        obtain ⟨b, o, k, np, nn, nc, ap, an, ac, rfl, hb, c0, c1, c2, hT⟩ := ty_cells Hx.out (i := i) (by have := Hn.out; omega)
        obtain ⟨b', o', k', np', nn', nc', ap', an', ac', rfl, hb', c0', c1', c2', hT'⟩ := ty_cells Hy.out (i := i) (by have := Hm.out; omega)
        have hix : i < xs.length := by have := Hn.out; omega
        have hiy : i < ys.length := by have := Hm.out; omega
        obtain ⟨t, ht⟩ : ∃ t, eqB xs[i] ys[i] = t := ⟨_, rfl⟩
        have Hc : Hid (∀ W', Below W.heap.size W W' → Calls Tryd.prog 29 #[.agg #[.int .i64 k, .slice np nn nc, .slice ap an ac], .agg #[.int .i64 k', .slice np' nn' nc', .slice ap' an' ac']] W' fun e w' => e = .returned (.bool t) ∧ Below W'.heap.size W' w') := hid fun W' hW => by
          rw [← ht]; exact HH.out W' hW _ _ _ _ hT hT'
        have Ht := hid ht
        clear ht hT hT'
        cases t with
        | false =>
          have hno : Hid (xs ≠ ys) := hid fun e => eqB_no Ht.out (by subst e; rfl)
          go_wp2_with (refine (Hc.out _ (by repeat (first | exact Below.refl _ _ | refine bG ?_ _ | refine bA ?_ _))).mono ?_; rintro e w' ⟨rfl, hb⟩; obtain ⟨G2, rfl⟩ := bout hb; clear hb)
          go_ret
          exact ⟨by rw [eqB_false hno.out]; rfl, by repeat (first | exact Below.refl _ _ | refine bG ?_ _ | refine bI ?_ _ _ | refine bA ?_ _)⟩
        | true =>
          go_wp2_with (refine (Hc.out _ (by repeat (first | exact Below.refl _ _ | refine bG ?_ _ | refine bA ?_ _))).mono ?_; rintro e w' ⟨rfl, hb⟩; obtain ⟨G2, rfl⟩ := bout hb; clear hb)
          have hB3 : Below W.heap.size W (grow (((grow W G).alloc (.cells #[.int .i64 k, .slice np nn nc, .slice ap an ac] 48)).alloc (.cells #[.int .i64 k', .slice np' nn' nc', .slice ap' an' ac'] 48)) G2) := by
            repeat (first | exact Below.refl _ _ | refine bG ?_ _ | refine bA ?_ _)
          obtain ⟨G3, hG3⟩ := bout hB3
          refine ⟨⟨i + 1, G3, by omega, by go_num, hG3, hid ?_⟩, by simp [intOf]; omega⟩
          rw [List.take_succ_eq_append_getElem hix, List.take_succ_eq_append_getElem hiy, hI.out, eqB_of Ht.out]
      · obtain rfl : i = n := by omega
        have he : Hid (xs = ys) := hid (by
          have h := hI.out
          rw [List.take_of_length_le (by have := Hn.out; omega), List.take_of_length_le (by have := Hm.out; omega)] at h
          exact h)
        go_wp2
        go_ret
        exact ⟨by rw [eqB_true he.out]; rfl, by repeat (first | exact Below.refl _ _ | refine bG ?_ _ | refine bI ?_ _ _ | refine bA ?_ _)⟩
  · have hne : ((n : Int) != (m : Int)) = true := by simp; omega
    go_wp2
    go_ret
    exact ⟨by rw [eqB_false (fun e => hl (by rw [Hn.out, Hm.out, e]))]; rfl, Below.refl _ _⟩
end Go.Proofs.YtbgjanmheagilaaDoor

/- code.likeType, walked. Conditions: none. -/
namespace Go.Proofs.YtbgjanmheagilaaDoor
open Go Go.RowKit Go.Nodes
set_option linter.unusedVariables false
set_option linter.unusedSimpArgs false
theorem like28 (W : World) (f g : Nat) (p q : Option Addr) (c d : Nat) (xs ys : List Sk) (hx : RowOf W 3 (TyAt W f) p xs) (hy : RowOf W 3 (TyAt W g) q ys) (lx : xs.length ≤ maxLen) (ly : ys.length ≤ maxLen)
    (H : ∀ W', Below W.heap.size W W' → ∀ va vb x y, TyAt W f va x → TyAt W g vb y → Calls Tryd.prog 29 #[.agg va.toArray, .agg vb.toArray] W' fun e w' => e = .returned (.bool (eqB x y)) ∧ Below W'.heap.size W' w') :
    Calls Tryd.prog 28 #[.slice p xs.length c, .slice q ys.length d, .func (.func 29) #[] #[]] W fun e w' => e = .returned (.bool (eqB xs ys)) ∧ Below W.heap.size W w' := by
  have hc := equalFunc46 W f g p q c d xs ys hx hy lx ly H
  generalize eqB xs ys = t at *
  generalize xs.length = n at *
  generalize ys.length = m at *
  clear H hx hy
  go_enter Tryd.func28, Tryd.ntmps28
  go_wp2_with (go_at_call 46; refine hc.mono ?_; rintro e w' ⟨rfl, hb⟩)
  go_ret
  exact ⟨rfl, hb⟩
theorem eqB_mk (k k' : Int) (n n' : List ByteArray) (a a' : List Sk) : eqB (Sk.mk k n a) (Sk.mk k' n' a') = (decide (k = k') && decide (n = n') && eqB a a') := by
  by_cases h1 : k = k'
  · by_cases h2 : n = n'
    · by_cases h3 : a = a'
      · rw [eqB_true h3, eqB_true (by rw [h1, h2, h3])]; simp [h1, h2]
      · rw [eqB_false h3, eqB_false (by intro h; cases h; exact h3 rfl)]; simp
    · rw [eqB_false (by intro h; cases h; exact h2 rfl)]; simp [h2]
  · rw [eqB_false (by intro h; cases h; exact h1 rfl)]; simp [h1]
set_option maxRecDepth 10000 in
set_option maxHeartbeats 2000000 in
theorem like29 : ∀ (f : Nat) (W W0 : World) (va : List Value) (Ta : Sk), Below W0.heap.size W0 W → TyAt W0 f va Ta → ∀ (g : Nat) (vb : List Value) (Tb : Sk), TyAt W0 g vb Tb →
    Calls Tryd.prog 29 #[.agg va.toArray, .agg vb.toArray] W fun e w' => e = .returned (.bool (eqB Ta Tb)) ∧ Below W.heap.size W w'
  | 0, _, _, _, _, _, h, _, _, _, _ => h.elim
  | _ + 1, _, _, _, _, _, _, 0, _, _, h => h.elim
  | f + 1, W, W0, va, .mk k names args, hW, hA, g + 1, vb, .mk k' names' args', hB => by
    obtain ⟨_, l1, l2, np, nc, ap, ac, rfl, hn, ha⟩ := hA
    obtain ⟨_, l1', l2', np', nc', ap', ac', rfl, hn', ha'⟩ := hB
    have Hn : Hid (∀ W', Below W.heap.size W W' → Calls Tryd.prog 47 #[.slice np names.length nc, .slice np' names'.length nc'] W' fun e w' => e = .returned (.bool (decide (names = names'))) ∧ Below W'.heap.size W' w') := hid fun W' hb =>
      eqTexts W' _ _ _ _ _ _ (hn.later (hW.trans (hb.mono hW.size)) fun _ _ _ h => h) (hn'.later (hW.trans (hb.mono hW.size)) fun _ _ _ h => h) l1 l1'
    have Hc : Hid (∀ W', Below W.heap.size W W' → Calls Tryd.prog 28 #[.slice ap args.length ac, .slice ap' args'.length ac', .func (.func 29) #[] #[]] W' fun e w' => e = .returned (.bool (eqB args args')) ∧ Below W'.heap.size W' w') := hid fun W' hb => by
      have h0 : Below W0.heap.size W0 W' := hW.trans (hb.mono hW.size)
      exact like28 W' f g _ _ _ _ _ _ (ha.later h0 fun vs x _ h => TyAt.later h0 f vs x h) (ha'.later h0 fun vs x _ h => TyAt.later h0 g vs x h) l2 l2' fun W2 hb2 va vb x y hx hy => like29 f W2 W' va x hb2 hx g vb y hy
    rw [eqB_mk]
    generalize eqB args args' = t3 at *
    generalize decide (names = names') = t2 at *
    generalize names.length = n1 at *
    generalize names'.length = n2 at *
    generalize args.length = n3 at *
    generalize args'.length = n4 at *
    clear hn hn' ha ha' hW
    by_cases hk : k = k'
    · subst hk
      cases t2 with
      | false =>
        go_enter Tryd.func29, Tryd.ntmps29
        go_wp2_with (go_at_call 47; refine (Hn.out _ (by repeat (first | exact Below.refl _ _ | refine bG ?_ _ | refine bA ?_ _))).mono ?_; rintro e w' ⟨rfl, hb⟩; obtain ⟨G2, rfl⟩ := bout hb; clear hb)
        go_ret
        exact ⟨by simp, by repeat (first | exact Below.refl _ _ | refine bG ?_ _ | refine bI ?_ _ _ | refine bA ?_ _)⟩
      | true =>
        go_enter Tryd.func29, Tryd.ntmps29
        go_wp2_with (first
          | (go_at_call 47; refine (Hn.out _ (by repeat (first | exact Below.refl _ _ | refine bG ?_ _ | refine bA ?_ _))).mono ?_; rintro e w' ⟨rfl, hb⟩; obtain ⟨G2, rfl⟩ := bout hb; clear hb)
          | (go_at_call 28; refine (Hc.out _ (by repeat (first | exact Below.refl _ _ | refine bG ?_ _ | refine bA ?_ _))).mono ?_; rintro e w' ⟨rfl, hb⟩; obtain ⟨G3, rfl⟩ := bout hb; clear hb))
        go_ret
        exact ⟨by simp, by repeat (first | exact Below.refl _ _ | refine bG ?_ _ | refine bI ?_ _ _ | refine bA ?_ _)⟩
    · have h1 : (k == k') = false := by simp [hk]
      have Hk := hid hk
      clear hk
      go_enter Tryd.func29, Tryd.ntmps29
      go_wp2
      go_ret
      exact ⟨by rw [decide_eq_false Hk.out]; rfl, by repeat (first | exact Below.refl _ _ | refine bG ?_ _ | refine bI ?_ _ _ | refine bA ?_ _)⟩
end Go.Proofs.YtbgjanmheagilaaDoor

/- The reference's types, walked. Conditions: none. -/
namespace Go.Proofs.YtbgjanmheagilaaDoor
open Go Go.RowKit Go.Nodes
set_option linter.unusedVariables false
set_option linter.unusedSimpArgs false
/-- Named parts of one of a row. -/
theorem ty_parts {W : World} {f : Nat} {p : Option Addr} {xs : List Sk} (h : RowOf W 3 (TyAt W (f + 1)) p xs) {i : Nat} (hi : i < xs.length) : ∃ b o k names args np nc ap ac, xs[i] = Sk.mk k names args ∧ p = some ⟨b, o, none⟩ ∧ b < W.heap.size ∧
    W.cell? ⟨b, o + i * 3, none⟩ = some (.int .i64 k) ∧ W.cell? ⟨b, o + i * 3 + 1, none⟩ = some (.slice np names.length nc) ∧ W.cell? ⟨b, o + i * 3 + 2, none⟩ = some (.slice ap args.length ac) ∧
    names.length ≤ maxLen ∧ args.length ≤ maxLen ∧ RowOf W 1 textE np names ∧ RowOf W 3 (TyAt W f) ap args := by
  obtain ⟨b, o, hp, hl, vs, h1, h2, h3⟩ := h.at hi
  generalize hx : xs[i] = T at *
  obtain ⟨k, names, args⟩ := T
  obtain ⟨_, l1, l2, np, nc, ap, ac, rfl, hn, ha⟩ := h3
  exact ⟨b, o, k, names, args, np, nc, ap, ac, rfl, hp, hl, by simpa using h2 0 _ rfl, h2 1 _ rfl, h2 2 _ rfl, l1, l2, hn, ha⟩
theorem row_zero {W : World} {p : Option Addr} {xs : List Sk} (h : RowOf W 3 (TyAt W 0) p xs) : xs = [] := by
  cases xs with
  | nil => rfl
  | cons x l =>
    obtain ⟨b, o, _, _, vs, _, _, h3⟩ := h.at (i := 0) (by simp)
    exact h3.elim
theorem types30_nil (W : World) (p q : Option Addr) (c d n m : Nat) (hn : n = 0 ∨ m = 0) (ln : (n : Int) ≤ 9223372036854775807) (lm : (m : Int) ≤ 9223372036854775807) :
    Calls Tryd.prog 30 #[.slice p n c, .slice q m d] W fun e w' => e = .returned (.bool (decide (n = m))) ∧ ∃ r, w' = W.drewN r := by
  by_cases hl : n = m
  · subst hl
    obtain rfl : n = 0 := by omega
    go_enter Tryd.func30, Tryd.ntmps30
    go_wp2
    go_loopw [14] (fun iv wr => iv = .int .i64 0 ∧ wr = W) (fun iv _ => 0)
    case atStart => exact ⟨rfl, rfl⟩
    case round =>
      obtain ⟨rfl, rfl⟩ := hrel
      go_wp2
      go_ret
      exact ⟨rfl, 0, rfl⟩
  · have hne : ((n : Int) != (m : Int)) = true := by simp; omega
    rw [decide_eq_false hl]
    clear hn hl
    go_enter Tryd.func30, Tryd.ntmps30
    go_wp2
    go_ret
    exact ⟨rfl, 0, rfl⟩
set_option maxRecDepth 10000 in
set_option maxHeartbeats 2000000 in
theorem types30 : ∀ (f : Nat) (W : World) (g : Nat) (p q : Option Addr) (c d : Nat) (xs ys : List Sk), RowOf W 3 (TyAt W f) p xs → RowOf W 3 (TyAt W g) q ys → xs.length ≤ maxLen → ys.length ≤ maxLen →
    Calls Tryd.prog 30 #[.slice p xs.length c, .slice q ys.length d] W fun e w' => e = .returned (.bool (eqB xs ys)) ∧ ∃ r, w' = W.drewN r := by
  intro f
  induction f with
  | zero =>
    intro W g p q c d xs ys hx hy lx ly
    unfold maxLen at lx ly
    have h0 := row_zero hx
    refine (types30_nil W p q c d xs.length ys.length (.inl (by rw [h0]; rfl)) (by omega) (by omega)).mono fun e w' h => ⟨by rw [h.1]; subst h0; cases ys with | nil => rw [eqB_true rfl]; rfl | cons y l => rw [eqB_false (by intro h; cases h)]; rfl, h.2⟩
  | succ f ih =>
    intro W g p q c d xs ys hx hy lx ly
    cases g with
    | zero =>
      unfold maxLen at lx ly
      have h0 := row_zero hy
      refine (types30_nil W p q c d xs.length ys.length (.inr (by rw [h0]; rfl)) (by omega) (by omega)).mono fun e w' h => ⟨by rw [h.1]; subst h0; cases xs with | nil => rw [eqB_true rfl]; rfl | cons y l => rw [eqB_false (by intro h; cases h)]; rfl, h.2⟩
    | succ g =>
      have Hx := hid hx
      have Hy := hid hy
      clear hx hy
      obtain ⟨m, hm⟩ : ∃ m, m = ys.length := ⟨_, rfl⟩
      obtain ⟨n, hn⟩ : ∃ n, n = xs.length := ⟨_, rfl⟩
      rw [← hn] at lx ⊢
      rw [← hm] at ly ⊢
      have Hn := hid hn
      have Hm := hid hm
      unfold maxLen at lx ly
      have lx2 : (n : Int) ≤ 9223372036854775807 := by omega
      have ly2 : (m : Int) ≤ 9223372036854775807 := by omega
      clear hn hm lx ly
      go_enter Tryd.func30, Tryd.ntmps30
      by_cases hl : n = m
      · subst hl
        go_wp2
        go_loopw [14] (fun iv wr => ∃ (i : Nat) (r : Nat), i ≤ n ∧ iv = .int .i64 i ∧ wr = W.drewN r ∧ Hid (xs.take i = ys.take i)) (fun iv _ => n - (intOf iv).toNat)
        case atStart => exact ⟨0, 0, Nat.zero_le _, rfl, rfl, hid rfl⟩
        case round =>
          obtain ⟨i, r, hi, rfl, rfl, hI⟩ := hrel
          by_cases hin : i < n
          · have hix : i < xs.length := by have := Hn.out; omega
            have hiy : i < ys.length := by have := Hm.out; omega
            have n0 : (0 : Int) ≤ (i : Int) := by omega
            have n1 : (i : Int) < (n : Int) := by omega
            obtain ⟨b, o, k, nms, args, np, nc, ap, ac, hT, rfl, hb, c0, c1, c2, l1, l2, hn1, ha1⟩ := ty_parts Hx.out hix
            obtain ⟨b', o', k', nms', args', np', nc', ap', ac', hT', rfl, hb', c0', c1', c2', l1', l2', hn1', ha1'⟩ := ty_parts Hy.out hiy
            have Hih : Hid (∀ W', Below W.heap.size W W' → Calls Tryd.prog 30 #[.slice ap args.length ac, .slice ap' args'.length ac'] W' fun e w' => e = .returned (.bool (eqB args args')) ∧ ∃ r, w' = W'.drewN r) := hid fun W' hb =>
              ih W' g ap ap' ac ac' args args' (ha1.later hb fun vs x _ h => TyAt.later hb f vs x h) (ha1'.later hb fun vs x _ h => TyAt.later hb g vs x h) l2 l2'
            have HT := hid hT
            have HT' := hid hT'
            have Hno : Hid (xs[i] ≠ ys[i] → eqB xs ys = false) := hid fun h => eqB_false fun e => h (by subst e; rfl)
            have Hn1 := hid hn1
            have Hn1' := hid hn1'
            have lu : (nms.length : Int) ≤ 9223372036854775807 := by unfold maxLen at l1; omega
            clear ha1 ha1' hT hT' l1 l2 l1' l2' hn1 hn1'
            by_cases hk : k = k'
            · subst hk
              obtain ⟨u, hu⟩ : ∃ u, u = nms.length := ⟨_, rfl⟩
              obtain ⟨u', hu'⟩ : ∃ u', u' = nms'.length := ⟨_, rfl⟩
              rw [← hu] at c1 lu
              rw [← hu'] at c1'
              have Hu := hid hu
              have Hu' := hid hu'
              clear hu hu'
              by_cases hul : u = u'
              · subst hul
                obtain ⟨t, ht⟩ : ∃ t, eqB args args' = t := ⟨_, rfl⟩
                rw [ht] at Hih
                have Ht := hid ht
                clear ht
                generalize args.length = v1 at *
                generalize args'.length = v2 at *
                cases t with
                | false =>
                  go_wp2
                  go_quiet ((go_at_call 30; refine (Hih.out _ (_root_.Go.below_drewN (Below.refl _ _) _)).mono ?_; rintro e w' ⟨he, m, hm⟩; exact ⟨he, _, by rw [hm]; first | exact World.drewN_drewN _ _ _ | (rw [World.drewN_drewN, World.drewN_drewN, Nat.add_assoc]) | (rw [World.drewN_drewN, Nat.add_assoc])⟩))
                  go_wp2
                  go_ret
                  exact ⟨by rw [Hno.out (by rw [HT.out, HT'.out]; intro h; cases h; exact eqB_no Ht.out rfl)]; rfl, by first | exact ⟨_, rfl⟩ | exact ⟨_, World.drewN_drewN _ _ _⟩⟩
                | true =>
                  go_wp2
                  go_quiet ((go_at_call 30; refine (Hih.out _ (_root_.Go.below_drewN (Below.refl _ _) _)).mono ?_; rintro e w' ⟨he, m, hm⟩; exact ⟨he, _, by rw [hm]; first | exact World.drewN_drewN _ _ _ | (rw [World.drewN_drewN, World.drewN_drewN, Nat.add_assoc]) | (rw [World.drewN_drewN, Nat.add_assoc])⟩))
                  go_wp2
                  go_loopw [63] (fun jv wr => ∃ (j : Nat) (r : Nat), j ≤ u ∧ jv = .int .i64 j ∧ wr = W.drewN r ∧ Hid (nms.take j = nms'.take j)) (fun jv _ => u - (intOf jv).toNat)
                  case atStart => exact ⟨0, _, Nat.zero_le _, rfl, by first | rfl | exact World.drewN_drewN _ _ _, hid rfl⟩
                  case round =>
                    obtain ⟨j, r2, hj, rfl, rfl, hJ⟩ := hrel
                    by_cases hju : j < u
                    · have hj1 : j < nms.length := by rw [← Hu.out]; exact hju
                      have hj2 : j < nms'.length := by rw [← Hu'.out]; exact hju
                      obtain ⟨b1, o1, rfl, k1⟩ := texts_cells Hn1.out (fun e => by rw [e] at hj1; simp at hj1)
                      obtain ⟨b2, o2, rfl, k2⟩ := texts_cells Hn1'.out (fun e => by rw [e] at hj2; simp at hj2)
                      replace k1 := k1 j hj1
                      replace k2 := k2 j hj2
                      rw [List.getD, List.getElem?_eq_getElem hj1] at k1
                      rw [List.getD, List.getElem?_eq_getElem hj2] at k2
                      simp only [Option.getD_some] at k1 k2
                      have j0 : (0 : Int) ≤ (j : Int) := by omega
                      have j1 : (j : Int) < (u : Int) := by omega
                      have Htk := hid (List.take_succ_eq_append_getElem hj1)
                      have Htk' := hid (List.take_succ_eq_append_getElem hj2)
                      have Hne : Hid (nms[j] ≠ nms'[j] → nms ≠ nms') := hid fun h e => h (by subst e; rfl)
                      generalize nms[j] = s at *
                      generalize nms'[j] = s' at *
                      clear hj1 hj2
                      by_cases hs : s = s'
                      · subst hs
                        go_wp2
                        go_quiet (fail)
                        go_wp2
                        go_roundw
                        case rel => exact ⟨j + 1, _, by omega, by go_num, by first | rfl | exact World.drewN_drewN _ _ _, hid (by rw [Htk.out, Htk'.out, hJ.out])⟩
                        case measure => simp [intOf]; omega
                      · have Hs := hid hs
                        have f1 : (s.toList == s'.toList) = false := by
                          cases h : (s.toList == s'.toList) with
                          | false => rfl
                          | true => exact absurd (ByteArray.ext (by have := eq_of_beq h; rw [ByteArray.toList_eq, ByteArray.toList_eq] at this; exact Array.ext' (by simpa using this))) hs
                        clear hs
                        go_wp2
                        go_quiet (fail)
                        go_wp2
                        go_ret
                        exact ⟨by rw [Hno.out (by rw [HT.out, HT'.out]; intro h; cases h; exact Hne.out Hs.out rfl)]; rfl, by first | exact ⟨_, rfl⟩ | exact ⟨_, World.drewN_drewN _ _ _⟩⟩
                    · obtain rfl : j = u := by omega
                      have hnm : nms = nms' := by
                        have h := hJ.out
                        rw [List.take_of_length_le (by have := Hu.out; omega), List.take_of_length_le (by have := Hu'.out; omega)] at h
                        exact h
                      have hxy : Hid (xs[i] = ys[i]) := hid (by rw [HT.out, HT'.out, hnm, eqB_of Ht.out])
                      clear hnm
                      go_wp2
                      go_roundw
                      case rel => exact ⟨i + 1, _, by omega, by go_num, by first | rfl | exact World.drewN_drewN _ _ _, hid (by rw [List.take_succ_eq_append_getElem hix, List.take_succ_eq_append_getElem hiy, hI.out, hxy.out])⟩
                      case measure => simp [intOf]; omega
              · have h1 : ((u : Int) != (u' : Int)) = true := by simp; omega
                have Hul := hid hul
                clear hul
                go_wp2
                go_quiet (fail)
                go_wp2
                go_ret
                exact ⟨by rw [Hno.out (by rw [HT.out, HT'.out]; intro h; cases h; exact Hul.out (by rw [Hu.out, Hu'.out]))]; rfl, by first | exact ⟨_, rfl⟩ | exact ⟨_, World.drewN_drewN _ _ _⟩⟩
            · have h1 : (k != k') = true := by simp [hk]
              have Hk := hid hk
              clear hk
              go_wp2
              go_quiet (fail)
              go_wp2
              go_ret
              exact ⟨by rw [Hno.out (by rw [HT.out, HT'.out]; intro h; cases h; exact Hk.out rfl)]; rfl, by first | exact ⟨_, rfl⟩ | exact ⟨_, World.drewN_drewN _ _ _⟩⟩
          · obtain rfl : i = n := by omega
            have he : Hid (xs = ys) := hid (by
              have h := hI.out
              rw [List.take_of_length_le (by have := Hn.out; omega), List.take_of_length_le (by have := Hm.out; omega)] at h
              exact h)
            go_wp2
            go_ret
            exact ⟨by rw [eqB_true he.out]; rfl, _, rfl⟩
      · have hne : ((n : Int) != (m : Int)) = true := by simp; omega
        go_wp2
        go_ret
        exact ⟨by rw [eqB_false (fun e => hl (by rw [Hn.out, Hm.out, e]))]; rfl, 0, rfl⟩
end Go.Proofs.YtbgjanmheagilaaDoor
