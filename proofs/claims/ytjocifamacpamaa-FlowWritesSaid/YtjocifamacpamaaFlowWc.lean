/- The reference's nearest place: plain; a frame behind a region that drew its order, written out. Conditions: none. -/
import Derived.Test.YtjocifamacpamaaFlowTh
import Derived.Test.YtjocifamacpamaaAmP
import Derived.Test.YtjocifamacpamaaFlowWb
namespace Go.Proofs.Ytjocifamacpamaa
set_option linter.unusedVariables false
variable {nx : Nat → List Int}
theorem BestTo.ex (P : Nat → Prop) (c : Nat → Nat) (k : Nat) : ∃ b m, BestTo P c k b m := by
  induction k with
  | zero => exact ⟨-1, -1, .zero P c⟩
  | succ k ih =>
    obtain ⟨b, m, h⟩ := ih
    by_cases hp : P k
    · by_cases hc : m < c k
      · exact ⟨_, _, h.take hp hc⟩
      · exact ⟨b, m, h.keep fun _ => by omega⟩
    · exact ⟨b, m, h.keep fun h => absurd h hp⟩
theorem near_ex {len : Nat} (hlen : len ≤ 64) (hnx : ∀ i, ∀ x ∈ nx i, -1 ≤ x ∧ x < len) (hn2 : ∀ i, (nx i).length ≤ 2) {a n : Nat} (ha : a < len) (hw : Way nx (-2) a (-1)) (hn : n < len) (hna : n ≠ a) (hp : Pd nx n a) : ∃ d : Nat, d < len ∧ d ≠ a ∧ Pd nx d a ∧ Near nx len a d := by
  obtain ⟨_, _, F, _, _, _, hD⟩ := done_any nx hlen hnx hn2
  obtain ⟨b, m, hb⟩ := BestTo.ex (fun n => n ≠ a ∧ Pd nx n a) (fun n => manyS ((F.getD n none).getD 0) len) len
  rcases hb with ⟨_, _, h⟩ | ⟨d, hd, ⟨h1, h2⟩, _, _, hmax⟩
  · exact absurd ⟨hna, hp⟩ (h n hn)
  · exact ⟨d, hd, h1, h2, near_most (fun i x hx => (hnx i x hx).1) ha hw (hD.good.bits hD.few hD.nxs hD.fix) hd h1 h2 fun m hm hma hpm => hmax m hm ⟨hma, hpm⟩⟩
/-- Whether a place lies behind a word. -/
noncomputable def sB (nx : Nat → List Int) (a n : Nat) : Bool := @decide (n ≠ a ∧ Pd nx n a) (Classical.propDecidable _)
theorem sB_iff {a n : Nat} : sB nx a n = true ↔ n ≠ a ∧ Pd nx n a := @decide_eq_true_iff _ (Classical.propDecidable _)
/-- What lies behind a word, in order. -/
noncomputable def allS (nx : Nat → List Int) (a k : Nat) : List Int := ((List.range k).filter (sB nx a)).map fun n : Nat => (n : Int)
theorem allS_succ (a k : Nat) : allS nx a (k + 1) = if sB nx a k = true then allS nx a k ++ [(k : Int)] else allS nx a k := by
  unfold allS
  rw [List.range_succ, List.filter_append, List.map_append]
  by_cases h : sB nx a k = true
  · simp [h]
  · simp [h]
theorem mem_allS {a k : Nat} {x : Int} : x ∈ allS nx a k ↔ ∃ n : Nat, x = n ∧ n < k ∧ n ≠ a ∧ Pd nx n a := by
  unfold allS
  simp only [List.mem_map, List.mem_filter, List.mem_range, sB_iff]
  constructor
  · rintro ⟨n, ⟨h1, h2⟩, rfl⟩; exact ⟨n, rfl, h1, h2⟩
  · rintro ⟨n, rfl, h1, h2⟩; exact ⟨n, ⟨h1, h2⟩, rfl⟩
theorem allS_len (a k : Nat) : (allS nx a k).length ≤ k := by
  unfold allS
  rw [List.length_map]
  exact Nat.le_trans (List.length_filter_le _ _) (by simp)
/-- Who comes to none of the others is the nearest; and the other way round. -/
theorem near_first {len : Nat} (hlen : len ≤ 64) (hnx : ∀ i, ∀ x ∈ nx i, -1 ≤ x ∧ x < len) (hn2 : ∀ i, (nx i).length ≤ 2) {a : Nat} (ha : a < len) (hw : Way nx (-2) a (-1)) {x : Int} (hx : x ∈ allS nx a len) :
    (∀ m ∈ allS nx a len, m ≠ x → ¬ ∃ b ∈ nx a, Way nx x b m) ↔ Near nx len a x := by
  have hnx1 : ∀ i, ∀ x ∈ nx i, -1 ≤ x := fun i x hx => (hnx i x hx).1
  obtain ⟨n, rfl, hn, hna, hp⟩ := mem_allS.1 hx
  constructor
  · intro h
    obtain ⟨d, hd, hda, hpd, hD⟩ := near_ex hlen hnx hn2 ha hw hn hna hp
    by_cases e : d = n
    · subst e; exact hD
    · exact absurd (by simpa using hD.meets hnx1 (by omega) hw (n := n) (by omega) (by omega) (by omega) (by omega) hp) (h d (mem_allS.2 ⟨d, rfl, hd, hda, hpd⟩) (by omega))
  · rintro hD m hm hmn ⟨b, hb, hw2⟩
    obtain ⟨k, rfl, hk, hka, hpk⟩ := mem_allS.1 hm
    exact hD.apart hnx1 (by omega) hw (m := k) (by omega) (by omega) (by omega) hmn hpk (by simpa using hb) hw2
theorem near_mem {len a : Nat} {d : Int} (h : Near nx len a d) : d ∈ allS nx a len := by
  have h1 := h.lo
  have h2 := h.hi
  have h3 := h.ne
  exact mem_allS.2 ⟨d.toNat, by omega, by omega, by omega, by rw [show ((d.toNat : Nat) : Int) = d by omega]; exact h.pd⟩
/-- A frame behind operations that ran in any order. -/
theorem frame_out {ops : List Oper} {a0 ca : Act} (hd : ca.defers = a0.defers) (hs : ca.tmps.size = a0.tmps.size) (hoth : ∀ t, (∀ (j : Nat) p, ops[j]? = some p → p.dst ≠ some t) → ca.tmps.getD t undef = a0.tmps.getD t undef) :
    ca = ⟨ops.foldl (fun tm o => match o.dst with
      | some d => tm.setIfInBounds d (ca.tmps.getD d undef)
      | none => tm) a0.tmps, a0.defers⟩ := by
  have key : ∀ (ops : List Oper) (tm : Array Value), tm.size = ca.tmps.size → (∀ t, (∀ (j : Nat) p, ops[j]? = some p → p.dst ≠ some t) → ca.tmps.getD t undef = tm.getD t undef) →
      ca.tmps = ops.foldl (fun tm o => match o.dst with
        | some d => tm.setIfInBounds d (ca.tmps.getD d undef)
        | none => tm) tm := by
    intro ops
    induction ops with
    | nil =>
      intro tm hs h
      apply Array.ext
      · exact hs.symm
      · intro i h1 h2
        have := h i (fun j p hp => by simp at hp)
        have h2' : i < tm.size := h2
        simp only [Array.getD, h1, h2', dif_pos] at this
        exact this
    | cons o ops ih =>
      intro tm hs h
      rw [List.foldl_cons]
      refine ih _ ?_ fun t ht => ?_
      · cases o.dst <;> simp [hs]
      · cases e : o.dst with
        | none =>
          refine h t fun j p hp => ?_
          cases j with
          | zero => simp at hp; subst hp; rw [e]; simp
          | succ j => exact ht j p (by simpa using hp)
        | some d =>
          by_cases hdt : d = t
          · subst hdt
            by_cases hlt : d < tm.size
            · simp [Array.getElem?_setIfInBounds, hlt]
            · simp [Array.getElem?_setIfInBounds, hlt, ← hs]
          · have h1 : ca.tmps.getD t undef = tm.getD t undef := h t fun j p hp => by
              cases j with
              | zero => simp at hp; subst hp; rw [e]; simpa using hdt
              | succ j => exact ht j p (by simpa using hp)
            rw [h1]
            simp [Array.getElem?_setIfInBounds, hdt]
  have := key ops a0.tmps hs.symm hoth
  cases ca with
  | mk tm df =>
    simp only at hd this ⊢
    rw [hd]
    congr 1
end Go.Proofs.Ytjocifamacpamaa

/- The reference's Post, walked. Conditions: none. -/
namespace Go.Proofs.Ytjocifamacpamaa
open Go.RowKit
set_option linter.unusedVariables false
set_option linter.unusedSimpArgs false
theorem Wds.refNext {base : Nat} {w : World} {p : Option Addr} {len : Nat} {ws : Nat → Int} (h : Wds base w p len ws) (v0 v1 v3 v4 v5 : Value) (cap i : Nat) (hi : i < len) (hbase : base ≤ w.heap.size) :
    Calls Try.prog 25 #[.agg #[v0, v1, .slice p len cap, v3, v4, v5], .int .i64 i] w fun e w' => ∃ v, e = .returned v ∧ Below w.heap.size w w' ∧ Ints w.heap.size w' v (nxW len ws i) := by
  obtain ⟨b, o, rfl, h1, h2⟩ := h.lie (by omega)
  have := h.few
  exact refNext_inn v0 v1 v3 v4 v5 b o len cap i (ws i) (h.wf i hi).1 (h.wf i hi).2 hi (by omega) w (by omega) (h2 i hi)
theorem bools_at {w : World} {B len : Nat} {v : Value} {R : List Bool} (hR : R.length = len + 1) (h : w.ownsRow B 4 1 v (len + 1) (R.map Value.bool)) :
    ∃ g c, v = .slice (some ⟨g, 0, none⟩) (len + 1) c ∧ B ≤ g ∧ g < w.heap.size ∧ ∀ i, i < len + 1 → w.cell? ⟨g, i, none⟩ = some (.bool (R.getD i false)) := by
  have h0 := h
  rcases h.2 with ⟨_, h⟩ | ⟨g, c, cur, rfl, hg, hh, _⟩
  · omega
  · refine ⟨g, c, rfl, hg, (Array.getElem?_eq_some_iff.1 hh).1, fun i hi => ?_⟩
    rw [World.ownsRow.cellAt h0 i (by omega)]
    simp [List.getD, hR, hi]
theorem own_base {w : World} {B B' : Nat} {e : TypeId} {size n : Nat} {v : Value} {xs : List Value} (h : w.ownsRow B e size v n xs) (hB : B' ≤ B) : w.ownsRow B' e size v n xs := by
  obtain ⟨h1, h2⟩ := h
  refine ⟨h1, ?_⟩
  rcases h2 with h2 | ⟨g, cap, cur, hv, hg, hr⟩
  · exact .inl h2
  · exact .inr ⟨g, cap, cur, hv, by omega, hr⟩
theorem cell_stays {w w' : World} {g i : Nat} {v : Value} (hb : Below w.heap.size w w') (h : w.cell? ⟨g, i, none⟩ = some v) : w'.cell? ⟨g, i, none⟩ = some v :=
  (hb.cell (p := ⟨g, i, none⟩) (World.block_lt_of_cell? _ _ h)).trans h
/-- What reach answers, for any place that is shut. -/
theorem reach_ex (len : Nat) (ws : Nat → Int) (hl : len ≤ 40) (l : List Int) (hl2 : l.length ≤ 2) (hl0 : l ≠ []) (hin : ∀ x ∈ l, -1 ≤ x ∧ x < len) (shut : Int) : ∃ R : List Bool, R.length = len + 1 ∧
    (∀ n : Int, -1 ≤ n → n < len → (mkd len R n = true ↔ ∃ a ∈ l, Way (nxW len ws) shut a n)) ∧
    ∀ (v0 v1 v3 v4 v5 : Value) (p : Option Addr) (cap : Nat) (w : World) (B base : Nat) (fv : Value), 0 < len → Wds base w p len ws → base ≤ w.heap.size → Ints B w fv l →
      Calls Try.prog 49 #[.agg #[v0, v1, .slice p len cap, v3, v4, v5], fv, .int .i64 shut] w fun e w' => ∃ v, e = .returned v ∧ Below w.heap.size w w' ∧ w'.ownsRow w.heap.size 4 1 v (len + 1) (R.map Value.bool) := by
  have hnx : ∀ i, ∀ x ∈ nxW len ws i, -1 ≤ x ∧ x < len := fun i x hx => nextS_in len (ws i) i x hx
  have hn2 : ∀ i, (nxW len ws i).length ≤ 2 := fun i => nextS_len len (ws i) i
  obtain ⟨R, hR⟩ := refF_total len shut hn2 (2 + 3 * 41 + 1) l (List.replicate (len + 1) false) (by simp; omega)
  obtain ⟨h1, h2⟩ := refF_way hnx hin hR
  refine ⟨R, h1, h2, fun v0 v1 v3 v4 v5 p cap w B base fv h0 hw hb hT => ?_⟩
  obtain ⟨b, o, rfl, hbl, hc⟩ := hw.lie h0
  exact reach_any v0 v1 v3 v4 v5 b o len cap B ws hw.wf hl w (by omega) hc fv l hl0 hT hin shut _ R (by omega) hR
def phiQ (A : Value) (B PB n a len : Nat) (p : Option Addr) (cap : Nat) (nv : Value) (R : List Bool) : Nat → World → Value → Prop
  | 0, w, v => v = .int .i64 n
  | 1, w, v => v = .int .i64 a
  | 2, w, v => v = .bool true
  | 3, w, v => v = .bool true
  | 4, w, v => v = A
  | 5, w, v => v = nv
  | 6, w, v => v = .int .i64 n
  | 7, w, v => w.ownsRow B 4 1 v (len + 1) (R.map Value.bool)
  | 8, w, v => v = .pointer (some ⟨PB, 2, none⟩)
  | 9, w, v => v = .slice p len cap
  | 10, w, v => v = .int .i64 len
  | 11, w, v => ∃ g : Nat, v = .pointer (some ⟨g, len, none⟩) ∧ w.cell? ⟨g, len, none⟩ = some (.bool (R.getD len false))
  | 12, w, v => v = .bool (R.getD len false)
  | 13, w, v => v = .bool (!R.getD len false)
  | _, w, v => v = .bool (!R.getD len false)
theorem phiQ_below {A : Value} {B PB n a len : Nat} {p : Option Addr} {cap : Nat} {nv : Value} {R : List Bool} : ∀ (k : Nat) (w w' : World) (v : Value), Below w.heap.size w w' → phiQ A B PB n a len p cap nv R k w v → phiQ A B PB n a len p cap nv R k w' v := by
  intro k w w' v hb h
  unfold phiQ at *
  split at h <;> first | exact h | exact own_below h hb | exact (fun ⟨g, e, hc⟩ => ⟨g, e, cell_stays hb hc⟩) h
def phiQ2 (A : Value) (B PB len : Nat) (p : Option Addr) (cap : Nat) (nv : Value) (R : List Bool) : Nat → World → Value → Prop
  | 0, w, v => v = A
  | 1, w, v => v = nv
  | 2, w, v => w.ownsRow B 4 1 v (len + 1) (R.map Value.bool)
  | 3, w, v => v = .pointer (some ⟨PB, 2, none⟩)
  | 4, w, v => v = .slice p len cap
  | 5, w, v => v = .int .i64 len
  | 6, w, v => ∃ g : Nat, v = .pointer (some ⟨g, len, none⟩) ∧ w.cell? ⟨g, len, none⟩ = some (.bool (R.getD len false))
  | 7, w, v => v = .bool (R.getD len false)
  | _, w, v => v = .bool (!R.getD len false)
theorem phiQ2_below {A : Value} {B PB len : Nat} {p : Option Addr} {cap : Nat} {nv : Value} {R : List Bool} : ∀ (k : Nat) (w w' : World) (v : Value), Below w.heap.size w w' → phiQ2 A B PB len p cap nv R k w v → phiQ2 A B PB len p cap nv R k w' v := by
  intro k w w' v hb h
  unfold phiQ2 at *
  split at h <;> first | exact h | exact own_below h hb | exact (fun ⟨g, e, hc⟩ => ⟨g, e, cell_stays hb hc⟩) h
theorem way_step {nx : Nat → List Int} {s : Int} {a : Nat} : Way nx s a (-1) ↔ (a : Int) ≠ s ∧ ∃ b ∈ nx a, Way nx s b (-1) := by
  constructor
  · intro h
    generalize hc : (a : Int) = c at h
    cases h with
    | here h => omega
    | step h1 h2 h3 h4 => subst hc; exact ⟨h1, _, by simpa using h3, h4⟩
  · rintro ⟨h1, b, h3, h4⟩
    exact .step h1 (by omega) (by simpa using h3) h4
set_option maxRecDepth 10000 in
set_option maxHeartbeats 8000000 in
theorem post_any (v0 v1 v3 v4 v5 : Value) (p : Option Addr) (len cap : Nat) (ws : Nat → Int) (a : Nat) (ha : a < len) (w : World) (hw : Wds w.heap.size w p len ws) :
    Calls Try.prog 47 #[.agg #[v0, v1, .slice p len cap, v3, v4, v5], .int .i64 a] w fun e w' => e = .returned (.int .i64 (postS (nxW len ws) len a)) ∧ Below w.heap.size w w' := by
  have hl := hw.few
  have hnx : ∀ i, ∀ x ∈ nxW len ws i, -1 ≤ x ∧ x < len := fun i x hx => nextS_in len (ws i) i x hx
  have hn2 : ∀ i, (nxW len ws i).length ≤ 2 := fun i => nextS_len len (ws i) i
  have hn0 : ∀ i, nxW len ws i ≠ [] := fun i => nextS_ne len (ws i) i
  have hre := fun shut => reach_ex len ws hl (nxW len ws a) (hn2 a) (hn0 a) (hnx a) shut
  obtain ⟨R0, hR0l, hR0, hc0⟩ := hre (-2)
  have Hnx := hid hnx
  have Hn2 := hid hn2
  have Hn0 := hid hn0
  have Hre := hid hre
  have Hw := hid hw
  have HR0l := hid hR0l
  have HR0 := hid hR0
  have Hc0 := hid hc0
  have hlt1 : (len : Int) < (len : Int) + 1 := by omega
  clear hnx hn2 hn0 hre hw hR0l hR0 hc0
  go_enter Try.func47, Try.ntmps47
  go_wp2_with (go_at_call 25; refine ((Hw.out.up (bA (Below.refl _ _) _) (by simp)).refNext v0 v1 v3 v4 v5 cap a ha (Nat.le_refl _)).mono ?_; rintro e w2 ⟨nv, rfl, hb2, hI2⟩; obtain ⟨g1, rfl⟩ := bout hb2; have HI2 := hid hI2; clear hb2 hI2)
  have hB1 : Below w.heap.size w (grow (w.alloc (.cells #[v0, v1, .slice p len cap, v3, v4, v5] 48)) g1) := bG (bA (Below.refl _ _) _) _
  have hP : (grow (w.alloc (.cells #[v0, v1, .slice p len cap, v3, v4, v5] 48)) g1).heap[w.heap.size]? = some (.cells #[v0, v1, .slice p len cap, v3, v4, v5] 48 (0, 0)) := by
    rw [heap_grow _ _ _ (by simp)]; exact heap_alloc_new _ _
  generalize grow (w.alloc (.cells #[v0, v1, .slice p len cap, v3, v4, v5] 48)) g1 = W1 at *
  have hbs1 := hB1.size
  replace Hc0 : Hid (∀ w1, Below W1.heap.size W1 w1 → Calls Try.prog 49 #[.agg #[v0, v1, .slice p len cap, v3, v4, v5], nv, .int .i64 (-2)] w1 fun e w' => ∃ v, e = .returned v ∧ Below w1.heap.size w1 w' ∧ w'.ownsRow w1.heap.size 4 1 v (len + 1) (R0.map Value.bool)) :=
    hid fun w1 h => Hc0.out v0 v1 v3 v4 v5 p cap w1 _ w.heap.size nv (by omega) (Hw.out.below (hB1.trans (h.mono hbs1))) (by have := h.size; omega) (Ints_below HI2.out h)
  have HB1 := hid hB1
  have HP := hid hP
  clear hB1 hP
  refine Am.draw_phi (Φ := phiQ2 (.agg #[v0, v1, .slice p len cap, v3, v4, v5]) W1.heap.size w.heap.size len p cap nv R0) (by kernel_rfl) (by kernel_rfl) (by kernel_rfl) phiQ2_below ?_ ?_
  · intro k o ca w1 ho hb hlook K hK
    have hb0 : Below W1.heap.size W1 w1 := hb.trans (Below.refl _ _)
    have hP1 : w1.heap[w.heap.size]? = some (.cells #[v0, v1, .slice p len cap, v3, v4, v5] 48 (0, 0)) := (hb0.block _ (Array.getElem?_eq_some_iff.1 HP.out).1).trans HP.out
    have hfn : ∀ f, ca.eval (.func f) = .func (.func f) #[] #[] := fun _ => rfl
    have hcs : ∀ v, ca.eval (.const v) = v := fun _ => rfl
    rcases k with _ | _ | _ | _ | _ | _ | _ | _ | _ | k
    · cases ho
      have h2 := Am.eval_tmp (Am.look_old (t := 2) hlook (by kernel_rfl) (by kernel_rfl) rfl)
      have hc0 : w1.cell? ⟨w.heap.size, 0, none⟩ = some (v0) := by simp [World.cell?, hP1]
      have hc1 : w1.cell? ⟨w.heap.size, 1, none⟩ = some (v1) := by simp [World.cell?, hP1]
      have hc2 : w1.cell? ⟨w.heap.size, 2, none⟩ = some (.slice p len cap) := by simp [World.cell?, hP1]
      have hc3 : w1.cell? ⟨w.heap.size, 3, none⟩ = some (v3) := by simp [World.cell?, hP1]
      have hc4 : w1.cell? ⟨w.heap.size, 4, none⟩ = some (v4) := by simp [World.cell?, hP1]
      have hc5 : w1.cell? ⟨w.heap.size, 5, none⟩ = some (v5) := by simp [World.cell?, hP1]
      refine Am.wpOp_run rfl rfl (Am.wp_value (v := .agg #[v0, v1, .slice p len cap, v3, v4, v5]) ?_ (hK _ _ (Below.refl _ _) rfl))
      generalize ca.eval = ev at *
      simp [go_sem, execOp, hfn, hcs, h2, hc0, hc1, hc2, hc3, hc4, hc5]
    · cases ho
      have h5 := Am.eval_tmp (Am.look_old (t := 5) hlook (by kernel_rfl) (by kernel_rfl) rfl)
      refine Am.wpOp_run rfl rfl (Am.wp_value (v := nv) ?_ (hK _ _ (Below.refl _ _) rfl))
      generalize ca.eval = ev at *
      simp [go_sem, execOp, hfn, hcs, h5]
    · cases ho
      have h17 : (ca.tmps.getD 17 undef) = (.agg #[v0, v1, .slice p len cap, v3, v4, v5]) := Am.look_of (j := 0) hlook (by kernel_rfl) rfl rfl
      replace h17 := Am.eval_tmp h17
      have h18 : (ca.tmps.getD 18 undef) = nv := Am.look_of (j := 1) hlook (by kernel_rfl) rfl rfl
      replace h18 := Am.eval_tmp h18
      refine Am.wpOp_run rfl rfl (Am.wp_enter (w' := w1) (f := 49) (args := #[.agg #[v0, v1, .slice p len cap, v3, v4, v5], nv, .int .i64 (-2)]) ?_ ((Hc0.out w1 hb0).mono ?_))
      · generalize ca.eval = ev at *
        simp [go_sem, execOp, hfn, hcs, h17, h18]
      · rintro e w' ⟨v, rfl, hb', hi⟩
        exact ⟨_, rfl, hK _ _ hb' (own_base hi hb0.size)⟩
    · cases ho
      have h2 := Am.eval_tmp (Am.look_old (t := 2) hlook (by kernel_rfl) (by kernel_rfl) rfl)
      refine Am.wpOp_run rfl rfl (Am.wp_value (v := .pointer (some ⟨w.heap.size, 2, none⟩)) ?_ (hK _ _ (Below.refl _ _) rfl))
      generalize ca.eval = ev at *
      simp [go_sem, execOp, hfn, hcs, h2]
    · cases ho
      have h20 : (ca.tmps.getD 20 undef) = .pointer (some ⟨w.heap.size, 2, none⟩) := Am.look_of (j := 3) hlook (by kernel_rfl) rfl rfl
      replace h20 := Am.eval_tmp h20
      have hc0 : w1.cell? ⟨w.heap.size, 0, none⟩ = some (v0) := by simp [World.cell?, hP1]
      have hc1 : w1.cell? ⟨w.heap.size, 1, none⟩ = some (v1) := by simp [World.cell?, hP1]
      have hc2 : w1.cell? ⟨w.heap.size, 2, none⟩ = some (.slice p len cap) := by simp [World.cell?, hP1]
      have hc3 : w1.cell? ⟨w.heap.size, 3, none⟩ = some (v3) := by simp [World.cell?, hP1]
      have hc4 : w1.cell? ⟨w.heap.size, 4, none⟩ = some (v4) := by simp [World.cell?, hP1]
      have hc5 : w1.cell? ⟨w.heap.size, 5, none⟩ = some (v5) := by simp [World.cell?, hP1]
      refine Am.wpOp_run rfl rfl (Am.wp_value (v := .slice p len cap) ?_ (hK _ _ (Below.refl _ _) rfl))
      generalize ca.eval = ev at *
      simp [go_sem, execOp, hfn, hcs, h20, hc2]
    · cases ho
      have h21 : (ca.tmps.getD 21 undef) = .slice p len cap := Am.look_of (j := 4) hlook (by kernel_rfl) rfl rfl
      replace h21 := Am.eval_tmp h21
      refine Am.wpOp_run rfl rfl (Am.wp_value (v := .int .i64 len) ?_ (hK _ _ (Below.refl _ _) rfl))
      generalize ca.eval = ev at *
      simp [go_sem, execOp, hfn, hcs, h21]
    · cases ho
      have h19 : w1.ownsRow W1.heap.size 4 1 (ca.tmps.getD 19 undef) (len + 1) (R0.map Value.bool) := Am.look_of (j := 2) hlook (by kernel_rfl) rfl rfl
      have e19 : ca.eval (.tmp 19) = ca.tmps.getD 19 undef := rfl
      generalize ca.tmps.getD 19 undef = x19 at *
      have h22 : (ca.tmps.getD 22 undef) = .int .i64 len := Am.look_of (j := 5) hlook (by kernel_rfl) rfl rfl
      replace h22 := Am.eval_tmp h22
      obtain ⟨q, c, rfl, _, _, hcell⟩ := bools_at HR0l.out h19
      have hq := hcell len (Nat.lt_succ_self len)
      have hge1 : (0 : Int) ≤ (len : Int) := by omega
      refine Am.wpOp_run rfl rfl (Am.wp_value (v := .pointer (some ⟨q, len, none⟩)) ?_ (hK _ _ (Below.refl _ _) ⟨q, rfl, hq⟩))
      generalize ca.eval = ev at *
      simp [go_sem, execOp, hfn, hcs, e19, h22, hlt1, hge1]
    · cases ho
      have h23 : ∃ g : Nat, (ca.tmps.getD 23 undef) = .pointer (some ⟨g, len, none⟩) ∧ w1.cell? ⟨g, len, none⟩ = some (.bool (R0.getD len false)) := Am.look_of (j := 6) hlook (by kernel_rfl) rfl rfl
      obtain ⟨q, h23, hq⟩ := h23
      replace h23 := Am.eval_tmp h23
      refine Am.wpOp_run rfl rfl (Am.wp_value (v := .bool (R0.getD len false)) ?_ (hK _ _ (Below.refl _ _) rfl))
      generalize ca.eval = ev at *
      simp [go_sem, execOp, hfn, hcs, h23, hq]
    · cases ho
      have h24 : (ca.tmps.getD 24 undef) = .bool (R0.getD len false) := Am.look_of (j := 7) hlook (by kernel_rfl) rfl rfl
      replace h24 := Am.eval_tmp h24
      refine Am.wpOp_run rfl rfl (Am.wp_value (v := .bool (!R0.getD len false)) ?_ (hK _ _ (Below.refl _ _) rfl))
      generalize ca.eval = ev at *
      simp [go_sem, execOp, hfn, hcs, h24]
    · simp at ho
  · intro ca w1 hb hd hs hphi hoth
    have h25 : ca.tmps.getD 25 undef = .bool (!R0.getD len false) := hphi 8 _ 25 rfl rfl
    have hca := frame_out hd hs hoth
    simp only [List.foldl_cons, List.foldl_nil, h25] at hca
    generalize ca.tmps.getD 17 undef = x17 at hca
    generalize ca.tmps.getD 18 undef = x18 at hca
    generalize ca.tmps.getD 19 undef = x19 at hca
    generalize ca.tmps.getD 20 undef = x20 at hca
    generalize ca.tmps.getD 21 undef = x21 at hca
    generalize ca.tmps.getD 22 undef = x22 at hca
    generalize ca.tmps.getD 23 undef = x23 at hca
    generalize ca.tmps.getD 24 undef = x24 at hca
    subst hca
    simp only [List.setIfInBounds_toArray, List.set_cons_succ, List.set_cons_zero]
    have hb0 : Below W1.heap.size W1 w1 := hb.trans (Below.refl _ _)
    clear hb hd hs hphi hoth h25
    generalize w1 = W2 at *
    have hP2 := (hb0.block _ (Array.getElem?_eq_some_iff.1 HP.out).1).trans HP.out
    have hB2 : Below w.heap.size w W2 := HB1.out.trans (hb0.mono hbs1)
    have hI2 := Ints_below HI2.out hb0
    have hE0 := HR0.out (-1) (by omega) (by omega)
    have hwe : Way (nxW len ws) (-2) a (-1) ↔ R0.getD len false = true := by
      rw [way_step, ← show mkd len R0 (-1) = R0.getD len false from rfl, hE0]
      exact ⟨fun h => h.2, fun h => ⟨by omega, h⟩⟩
    have HB2 := hid hB2
    have HI3 := hid hI2
    clear HR0 HP HB1 HI2 Hc0 hE0 hB2 hI2 hb0
    generalize R0.getD len false = E0 at *
    cases E0 with
    | false =>
      have Hno := hid (postS_no (len := len) (fun h => by have := hwe.1 h; cases this))
      clear hwe
      simp only [Bool.not_false]
      go_wp2
      go_ret
      exact ⟨by rw [Hno.out]; rfl, HB2.out⟩
    | true =>
      have Hway := hid (hwe.2 rfl)
      clear hwe
      simp only [Bool.not_true]
      have hc2 : W2.cell? ⟨w.heap.size, 2, none⟩ = some (.slice p len cap) := by simp [World.cell?, hP2]
      have hbs2 := HB2.out.size
      have HP := hid hP2
      clear hP2
      go_wp2
      go_loopw [6, 29] (fun av i wr => ∃ k : Nat, k ≤ len ∧ i = .int .i64 k ∧ Below W2.heap.size W2 wr ∧ Ints W2.heap.size wr av (allS (nxW len ws) a k)) (fun _ i _ => len - (intOf i).toNat)
      case atStart => exact ⟨0, by omega, rfl, Below.refl _ _, rfl, .inl ⟨rfl, rfl⟩⟩
      case round =>
        clear hc2
        obtain ⟨k, hk, rfl, hB, hI⟩ := hrel
        have hbs := hB.size
        have HB := hid hB
        have HI := hid hI
        clear hB hI
        by_cases hlt : k < len
        · have hk1 : (k : Int) < (len : Int) := by omega
          by_cases hkk : k = a
          · subst hkk
            have hka : ((k : Int) != (k : Int)) = false := by simp
            have Hs : Hid (sB (nxW len ws) k k = false) := hid (by
              cases h : sB (nxW len ws) k k
              · rfl
              · exact absurd rfl (sB_iff.1 h).1)
            go_wp2
            go_quiet (fail)
            go_wp2
            go_roundw
            case rel =>
              refine ⟨k + 1, by omega, by go_num, bN HB.out _, ?_⟩
              rw [allS_succ, if_neg (by rw [Hs.out]; simp)]
              exact Ints_below HI.out (bN (Below.refl _ _) _)
            case measure => simp [intOf]; omega
          · have hka : ((k : Int) != (a : Int)) = true := by rw [bne_iff_ne]; omega
            obtain ⟨R, hRl, hR, hcR⟩ := Hre.out k
            have Hreach : Hid (∀ w1, Below wr.heap.size wr w1 → Calls Try.prog 49 #[.agg #[v0, v1, .slice p len cap, v3, v4, v5], nv, .int .i64 k] w1 fun e w' => ∃ v, e = .returned v ∧ Below w1.heap.size w1 w' ∧ w'.ownsRow w1.heap.size 4 1 v (len + 1) (R.map Value.bool)) :=
              hid fun w1 h => by
                have hbb : Below W2.heap.size W2 w1 := HB.out.trans (h.mono hbs)
                exact hcR v0 v1 v3 v4 v5 p cap w1 _ w.heap.size nv (by omega) (Hw.out.below (HB2.out.trans (hbb.mono hbs2))) (by have := h.size; omega) (Ints_below HI3.out hbb)
            have HRl := hid hRl
            have hE := hR (-1) (by omega) (by omega)
            have hpd : sB (nxW len ws) a k = true ↔ R.getD len false = false := by
              rw [sB_iff]
              unfold Pd
              rw [way_step, ← show mkd len R (-1) = R.getD len false from rfl]
              constructor
              · rintro ⟨h1, h2⟩
                cases h : mkd len R (-1)
                · rfl
                · exact absurd ⟨by omega, hE.1 h⟩ h2
              · intro h
                refine ⟨hkk, fun h2 => ?_⟩
                rw [hE.2 h2.2] at h; cases h
            have Hpd := hid hpd
            clear hRl hR hcR hE hpd
            go_wp2
            refine Am.draw_phi (Φ := phiQ (.agg #[v0, v1, .slice p len cap, v3, v4, v5]) wr.heap.size w.heap.size k a len p cap nv R) (by kernel_rfl) (by kernel_rfl) (by kernel_rfl) phiQ_below ?_ ?_
            · intro k o ca w1 ho hb hlook K hK
              have hb0 : Below wr.heap.size wr w1 := hb.trans (Below.refl _ _)
              have hB1 : Below W2.heap.size W2 w1 := HB.out.trans (hb0.mono hbs)
              have hP1 : w1.heap[w.heap.size]? = some (.cells #[v0, v1, .slice p len cap, v3, v4, v5] 48 (0, 0)) := (hB1.block _ (Array.getElem?_eq_some_iff.1 HP.out).1).trans HP.out
              have hfn : ∀ f, ca.eval (.func f) = .func (.func f) #[] #[] := fun _ => rfl
              have hcs : ∀ v, ca.eval (.const v) = v := fun _ => rfl
              rcases k with _ | _ | _ | _ | _ | _ | _ | _ | _ | _ | _ | _ | _ | _ | _ | k
              · cases ho
                have h7 := Am.eval_tmp (Am.look_old (t := 7) hlook (by kernel_rfl) (by kernel_rfl) rfl)
                refine Am.wpOp_run rfl rfl (Am.wp_value (v := .int .i64 k) ?_ (hK _ _ (Below.refl _ _) rfl))
                generalize ca.eval = ev at *
                simp [go_sem, execOp, hfn, hcs, h7]
              · cases ho
                have h1 := Am.eval_tmp (Am.look_old (t := 1) hlook (by kernel_rfl) (by kernel_rfl) rfl)
                refine Am.wpOp_run rfl rfl (Am.wp_value (v := .int .i64 a) ?_ (hK _ _ (Below.refl _ _) rfl))
                generalize ca.eval = ev at *
                simp [go_sem, execOp, hfn, hcs, h1]
              · cases ho
                have h32 : (ca.tmps.getD 32 undef) = .int .i64 k := Am.look_of (j := 0) hlook (by kernel_rfl) rfl rfl
                replace h32 := Am.eval_tmp h32
                have h33 : (ca.tmps.getD 33 undef) = .int .i64 a := Am.look_of (j := 1) hlook (by kernel_rfl) rfl rfl
                replace h33 := Am.eval_tmp h33
                refine Am.wpOp_run rfl rfl (Am.wp_value (v := .bool true) ?_ (hK _ _ (Below.refl _ _) rfl))
                generalize ca.eval = ev at *
                simp [go_sem, execOp, hfn, hcs, h32, h33, hka]
              · cases ho
                have h34 : (ca.tmps.getD 34 undef) = .bool true := Am.look_of (j := 2) hlook (by kernel_rfl) rfl rfl
                replace h34 := Am.eval_tmp h34
                refine Am.wpOp_run rfl rfl (Am.wp_value (v := .bool true) ?_ (hK _ _ (Below.refl _ _) rfl))
                generalize ca.eval = ev at *
                simp [go_sem, execOp, hfn, hcs, h34]
              · cases ho
                have hg : ca.tmps.getD 35 undef = .bool true := Am.look_of (j := 3) hlook (by kernel_rfl) rfl rfl
                have h2 := Am.eval_tmp (Am.look_old (t := 2) hlook (by kernel_rfl) (by kernel_rfl) rfl)
                have hc0 : w1.cell? ⟨w.heap.size, 0, none⟩ = some (v0) := by simp [World.cell?, hP1]
                have hc1 : w1.cell? ⟨w.heap.size, 1, none⟩ = some (v1) := by simp [World.cell?, hP1]
                have hc2 : w1.cell? ⟨w.heap.size, 2, none⟩ = some (.slice p len cap) := by simp [World.cell?, hP1]
                have hc3 : w1.cell? ⟨w.heap.size, 3, none⟩ = some (v3) := by simp [World.cell?, hP1]
                have hc4 : w1.cell? ⟨w.heap.size, 4, none⟩ = some (v4) := by simp [World.cell?, hP1]
                have hc5 : w1.cell? ⟨w.heap.size, 5, none⟩ = some (v5) := by simp [World.cell?, hP1]
                refine Am.wpOp_run_g rfl rfl rfl hg rfl (Am.wp_value (v := .agg #[v0, v1, .slice p len cap, v3, v4, v5]) ?_ (hK _ _ (Below.refl _ _) rfl))
                generalize ca.eval = ev at *
                simp [go_sem, execOp, hfn, hcs, h2, hc0, hc1, hc2, hc3, hc4, hc5]
              · cases ho
                have hg : ca.tmps.getD 35 undef = .bool true := Am.look_of (j := 3) hlook (by kernel_rfl) rfl rfl
                have h5 := Am.eval_tmp (Am.look_old (t := 5) hlook (by kernel_rfl) (by kernel_rfl) rfl)
                refine Am.wpOp_run_g rfl rfl rfl hg rfl (Am.wp_value (v := nv) ?_ (hK _ _ (Below.refl _ _) rfl))
                generalize ca.eval = ev at *
                simp [go_sem, execOp, hfn, hcs, h5]
              · cases ho
                have hg : ca.tmps.getD 35 undef = .bool true := Am.look_of (j := 3) hlook (by kernel_rfl) rfl rfl
                have h7 := Am.eval_tmp (Am.look_old (t := 7) hlook (by kernel_rfl) (by kernel_rfl) rfl)
                refine Am.wpOp_run_g rfl rfl rfl hg rfl (Am.wp_value (v := .int .i64 k) ?_ (hK _ _ (Below.refl _ _) rfl))
                generalize ca.eval = ev at *
                simp [go_sem, execOp, hfn, hcs, h7]
              · cases ho
                have hg : ca.tmps.getD 35 undef = .bool true := Am.look_of (j := 3) hlook (by kernel_rfl) rfl rfl
                have h36 : (ca.tmps.getD 36 undef) = (.agg #[v0, v1, .slice p len cap, v3, v4, v5]) := Am.look_of (j := 4) hlook (by kernel_rfl) rfl rfl
                replace h36 := Am.eval_tmp h36
                have h37 : (ca.tmps.getD 37 undef) = nv := Am.look_of (j := 5) hlook (by kernel_rfl) rfl rfl
                replace h37 := Am.eval_tmp h37
                have h38 : (ca.tmps.getD 38 undef) = .int .i64 k := Am.look_of (j := 6) hlook (by kernel_rfl) rfl rfl
                replace h38 := Am.eval_tmp h38
                refine Am.wpOp_run_g rfl rfl rfl hg rfl (Am.wp_enter (w' := w1) (f := 49) (args := #[.agg #[v0, v1, .slice p len cap, v3, v4, v5], nv, .int .i64 k]) ?_ ((Hreach.out w1 hb0).mono ?_))
                · generalize ca.eval = ev at *
                  simp [go_sem, execOp, hfn, hcs, h36, h37, h38]
                · rintro e w' ⟨v, rfl, hb', hi⟩
                  exact ⟨_, rfl, hK _ _ hb' (own_base hi hb0.size)⟩
              · cases ho
                have hg : ca.tmps.getD 35 undef = .bool true := Am.look_of (j := 3) hlook (by kernel_rfl) rfl rfl
                have h2 := Am.eval_tmp (Am.look_old (t := 2) hlook (by kernel_rfl) (by kernel_rfl) rfl)
                refine Am.wpOp_run_g rfl rfl rfl hg rfl (Am.wp_value (v := .pointer (some ⟨w.heap.size, 2, none⟩)) ?_ (hK _ _ (Below.refl _ _) rfl))
                generalize ca.eval = ev at *
                simp [go_sem, execOp, hfn, hcs, h2]
              · cases ho
                have hg : ca.tmps.getD 35 undef = .bool true := Am.look_of (j := 3) hlook (by kernel_rfl) rfl rfl
                have h40 : (ca.tmps.getD 40 undef) = .pointer (some ⟨w.heap.size, 2, none⟩) := Am.look_of (j := 8) hlook (by kernel_rfl) rfl rfl
                replace h40 := Am.eval_tmp h40
                have hc0 : w1.cell? ⟨w.heap.size, 0, none⟩ = some (v0) := by simp [World.cell?, hP1]
                have hc1 : w1.cell? ⟨w.heap.size, 1, none⟩ = some (v1) := by simp [World.cell?, hP1]
                have hc2 : w1.cell? ⟨w.heap.size, 2, none⟩ = some (.slice p len cap) := by simp [World.cell?, hP1]
                have hc3 : w1.cell? ⟨w.heap.size, 3, none⟩ = some (v3) := by simp [World.cell?, hP1]
                have hc4 : w1.cell? ⟨w.heap.size, 4, none⟩ = some (v4) := by simp [World.cell?, hP1]
                have hc5 : w1.cell? ⟨w.heap.size, 5, none⟩ = some (v5) := by simp [World.cell?, hP1]
                refine Am.wpOp_run_g rfl rfl rfl hg rfl (Am.wp_value (v := .slice p len cap) ?_ (hK _ _ (Below.refl _ _) rfl))
                generalize ca.eval = ev at *
                simp [go_sem, execOp, hfn, hcs, h40, hc2]
              · cases ho
                have hg : ca.tmps.getD 35 undef = .bool true := Am.look_of (j := 3) hlook (by kernel_rfl) rfl rfl
                have h41 : (ca.tmps.getD 41 undef) = .slice p len cap := Am.look_of (j := 9) hlook (by kernel_rfl) rfl rfl
                replace h41 := Am.eval_tmp h41
                refine Am.wpOp_run_g rfl rfl rfl hg rfl (Am.wp_value (v := .int .i64 len) ?_ (hK _ _ (Below.refl _ _) rfl))
                generalize ca.eval = ev at *
                simp [go_sem, execOp, hfn, hcs, h41]
              · cases ho
                have hg : ca.tmps.getD 35 undef = .bool true := Am.look_of (j := 3) hlook (by kernel_rfl) rfl rfl
                have h39 : w1.ownsRow wr.heap.size 4 1 (ca.tmps.getD 39 undef) (len + 1) (R.map Value.bool) := Am.look_of (j := 7) hlook (by kernel_rfl) rfl rfl
                have e39 : ca.eval (.tmp 39) = ca.tmps.getD 39 undef := rfl
                generalize ca.tmps.getD 39 undef = x39 at *
                have h42 : (ca.tmps.getD 42 undef) = .int .i64 len := Am.look_of (j := 10) hlook (by kernel_rfl) rfl rfl
                replace h42 := Am.eval_tmp h42
                obtain ⟨q, c, rfl, _, _, hcell⟩ := bools_at HRl.out h39
                have hq := hcell len (Nat.lt_succ_self len)
                have hlt1 : (len : Int) < (len : Int) + 1 := by omega
                have hge1 : (0 : Int) ≤ (len : Int) := by omega
                refine Am.wpOp_run_g rfl rfl rfl hg rfl (Am.wp_value (v := .pointer (some ⟨q, len, none⟩)) ?_ (hK _ _ (Below.refl _ _) ⟨q, rfl, hq⟩))
                generalize ca.eval = ev at *
                simp [go_sem, execOp, hfn, hcs, e39, h42, hlt1, hge1]
              · cases ho
                have hg : ca.tmps.getD 35 undef = .bool true := Am.look_of (j := 3) hlook (by kernel_rfl) rfl rfl
                have h43 : ∃ g : Nat, (ca.tmps.getD 43 undef) = .pointer (some ⟨g, len, none⟩) ∧ w1.cell? ⟨g, len, none⟩ = some (.bool (R.getD len false)) := Am.look_of (j := 11) hlook (by kernel_rfl) rfl rfl
                obtain ⟨q, h43, hq⟩ := h43
                replace h43 := Am.eval_tmp h43
                refine Am.wpOp_run_g rfl rfl rfl hg rfl (Am.wp_value (v := .bool (R.getD len false)) ?_ (hK _ _ (Below.refl _ _) rfl))
                generalize ca.eval = ev at *
                simp [go_sem, execOp, hfn, hcs, h43, hq]
              · cases ho
                have hg : ca.tmps.getD 35 undef = .bool true := Am.look_of (j := 3) hlook (by kernel_rfl) rfl rfl
                have h44 : (ca.tmps.getD 44 undef) = .bool (R.getD len false) := Am.look_of (j := 12) hlook (by kernel_rfl) rfl rfl
                replace h44 := Am.eval_tmp h44
                refine Am.wpOp_run_g rfl rfl rfl hg rfl (Am.wp_value (v := .bool (!R.getD len false)) ?_ (hK _ _ (Below.refl _ _) rfl))
                generalize ca.eval = ev at *
                simp [go_sem, execOp, hfn, hcs, h44]
              · cases ho
                have h35 : (ca.tmps.getD 35 undef) = .bool true := Am.look_of (j := 3) hlook (by kernel_rfl) rfl rfl
                replace h35 := Am.eval_tmp h35
                have h45 : (ca.tmps.getD 45 undef) = .bool (!R.getD len false) := Am.look_of (j := 13) hlook (by kernel_rfl) rfl rfl
                replace h45 := Am.eval_tmp h45
                refine Am.wpOp_run rfl rfl (Am.wp_value (v := .bool (!R.getD len false)) ?_ (hK _ _ (Below.refl _ _) rfl))
                generalize ca.eval = ev at *
                simp [go_sem, execOp, hfn, hcs, h35, h45]
              · simp at ho
            · intro ca w1 hb hd hs hphi hoth
              have h46 : ca.tmps.getD 46 undef = .bool (!R.getD len false) := hphi 14 _ 46 rfl rfl
              have hca := frame_out hd hs hoth
              simp only [List.foldl_cons, List.foldl_nil, h46] at hca
              generalize ca.tmps.getD 32 undef = x32 at hca
              generalize ca.tmps.getD 33 undef = x33 at hca
              generalize ca.tmps.getD 34 undef = x34 at hca
              generalize ca.tmps.getD 35 undef = x35 at hca
              generalize ca.tmps.getD 36 undef = x36 at hca
              generalize ca.tmps.getD 37 undef = x37 at hca
              generalize ca.tmps.getD 38 undef = x38 at hca
              generalize ca.tmps.getD 39 undef = x39 at hca
              generalize ca.tmps.getD 40 undef = x40 at hca
              generalize ca.tmps.getD 41 undef = x41 at hca
              generalize ca.tmps.getD 42 undef = x42 at hca
              generalize ca.tmps.getD 43 undef = x43 at hca
              generalize ca.tmps.getD 44 undef = x44 at hca
              generalize ca.tmps.getD 45 undef = x45 at hca
              subst hca
              simp only [List.setIfInBounds_toArray, List.set_cons_succ, List.set_cons_zero]
              have hb0 : Below wr.heap.size wr w1 := hb.trans (Below.refl _ _)
              have hB1 : Below W2.heap.size W2 w1 := HB.out.trans (hb0.mono hbs)
              have HB1 := hid hB1
              have Hb0 := hid hb0
              clear hb hd hs hphi hoth h46 hB1 hb0
              generalize hE : R.getD len false = E at *
              cases E with
              | true =>
                have Hs : Hid (sB (nxW len ws) a k = false) := hid (by
                  cases h : sB (nxW len ws) a k
                  · rfl
                  · have := Hpd.out.1 h; cases this)
                clear Hpd
                simp only [Bool.not_true]
                go_wp2
                go_roundw
                case rel =>
                  refine ⟨k + 1, by omega, by go_num, HB1.out, ?_⟩
                  rw [allS_succ, if_neg (by rw [Hs.out]; simp)]
                  exact Ints_below HI.out Hb0.out
                case measure => simp [intOf]; omega
              | false =>
                have Hs : Hid (sB (nxW len ws) a k = true) := hid (Hpd.out.2 rfl)
                have hal := allS_len (nx := nxW len ws) a k
                have Hal := hid hal
                clear Hpd hal
                simp only [Bool.not_false]
                go_wp2_with (at_builtin; go_loud (refine wpList_append_int rfl _ _ rfl W2.heap.size u6 (allS (nxW len ws) a k) (k : Int) w1.heap.size 1 rfl ?qown rfl ?qcell ?qlen ?qbase ?qrest))
                case qown => exact Ints_below (Ints_below HI.out Hb0.out) (bA (Below.refl _ _) _)
                case qcell => exact cell_one_new w1 (.int .i64 k) 3 0 _ rfl
                case qlen => have := Hal.out; omega
                case qbase => have := HB1.out.size; first | omega | (simp; omega)
                case qrest =>
                  intro v' w5 h1 h2 h3
                  go_wp2
                  go_roundw
                  case rel =>
                    refine ⟨k + 1, by omega, by go_num, ?_, ?_⟩
                    · exact Below.grown (HB1.out.alloc HB1.out.size _) h2 (by have := HB1.out.size; simp; omega) fun g hg => HI.out.2.elim (fun h => by rw [h.1] at hg; cases hg) fun ⟨g', _, _, e, hle, _⟩ => by rw [e] at hg; cases hg; exact hle
                    · rw [allS_succ, if_pos Hs.out]; exact h1
                  case measure => simp [intOf]; omega
        · obtain rfl : k = len := by omega
          obtain ⟨pv, cv, rfl, hpv⟩ := HI.out.out
          have hal := allS_len (nx := nxW k ws) a k
          have hmem : ∀ x ∈ allS (nxW k ws) a k, ∃ n : Nat, x = n ∧ n < k := fun x hx => by
            obtain ⟨n, h1, h2, _⟩ := mem_allS.1 hx
            exact ⟨n, h1, h2⟩
          have hnf : ∀ x ∈ allS (nxW k ws) a k, (∀ m ∈ allS (nxW k ws) a k, m ≠ x → ¬ ∃ b ∈ nxW k ws a, Way (nxW k ws) x b m) ↔ Near (nxW k ws) k a x := fun x hx => near_first (by omega) Hnx.out Hn2.out ha Hway.out hx
          have hnm : ∀ d, Near (nxW k ws) k a d → d ∈ allS (nxW k ws) a k := fun d hd => near_mem hd
          have Hpv := hid hpv
          have Hmem := hid hmem
          have Hnf := hid hnf
          have Hnm := hid hnm
          clear hpv hmem hnf hnm HI
          generalize allS (nxW k ws) a k = L at *
          generalize wr = W3 at *
          have HW3 : Hid (Below w.heap.size w W3) := hid (HB2.out.trans (HB.out.mono hbs2))
          have hbs3 := HW3.out.size
          go_wp2
          go_loopw [54] (fun i wr => ∃ j : Nat, j ≤ L.length ∧ i = .int .i64 j ∧ Below W3.heap.size W3 wr ∧ Hid (∀ x ∈ L.take j, ¬ Near (nxW k ws) k a x)) (fun i _ => L.length - (intOf i).toNat)
          case atStart => exact ⟨0, by omega, rfl, Below.refl _ _, fun x hx => by simp at hx⟩
          case round =>
            obtain ⟨j, hj, rfl, hB3, Hno⟩ := hrel
            have hbsr := hB3.size
            by_cases hlt2 : j < L.length
            · obtain ⟨b, o, rfl, _, hbl, hcell⟩ := Hpv.out (fun e => by subst e; simp at hlt2)
              obtain ⟨n, hxn, hnk⟩ := Hmem.out _ (List.getElem_mem hlt2)
              have hcx : wr.cell? ⟨b, o + j, none⟩ = some (.int .i64 n) := by rw [← hxn]; exact (hB3.cell (p := ⟨b, o + j, none⟩) hbl).trans (hcell j hlt2)
              have hnL : (n : Int) ∈ L := by rw [← hxn]; exact List.getElem_mem hlt2
              have hP1 : wr.heap[w.heap.size]? = some (.cells #[v0, v1, .slice p k cap, v3, v4, v5] 48 (0, 0)) :=
                (hB3.block _ (by have := (Array.getElem?_eq_some_iff.1 HP.out).1; omega)).trans ((HB.out.block _ (Array.getElem?_eq_some_iff.1 HP.out).1).trans HP.out)
              have hc0 : wr.cell? ⟨w.heap.size, 0, none⟩ = some (v0) := by simp [World.cell?, hP1]
              have hc1 : wr.cell? ⟨w.heap.size, 1, none⟩ = some (v1) := by simp [World.cell?, hP1]
              have hc2 : wr.cell? ⟨w.heap.size, 2, none⟩ = some (.slice p k cap) := by simp [World.cell?, hP1]
              have hc3 : wr.cell? ⟨w.heap.size, 3, none⟩ = some (v3) := by simp [World.cell?, hP1]
              have hc4 : wr.cell? ⟨w.heap.size, 4, none⟩ = some (v4) := by simp [World.cell?, hP1]
              have hc5 : wr.cell? ⟨w.heap.size, 5, none⟩ = some (v5) := by simp [World.cell?, hP1]
              obtain ⟨R, hRl, hR, hcR⟩ := Hre.out n
              have Hreach := hid (hcR v0 v1 v3 v4 v5 p cap wr _ w.heap.size nv (by omega) (Hw.out.below (HW3.out.trans (hB3.mono hbs3))) (by omega) (Ints_below (Ints_below HI3.out HB.out) hB3))
              have HRl := hid hRl
              have HR := hid hR
              have Hcell := hid hcell
              have HB3 := hid hB3
              have Hxn := hid hxn
              have hjl : (j : Int) < (L.length : Int) := by omega
              clear hRl hR hcR hP1 hcell hB3 hxn
              go_wp2_with (go_at_call 49; refine Hreach.out.mono ?_; rintro e w4 ⟨v, rfl, hb4, ho4⟩; have hon := bools_at HRl.out ho4; have Hb4 := hid hb4; have Hon := hid hon; clear hb4 ho4 hon hc0 hc1 hc2 hc3 hc4 hc5 hcx)
              go_loop [10, 64] (fun fv i => ∃ (q : Nat) (f : Bool), q ≤ L.length ∧ i = .int .i64 q ∧ fv = .bool f ∧ Hid (f = true ↔ ∀ m ∈ L.take q, m ≠ (n : Int) → mkd k R m = false)) (fun _ i => L.length - (intOf i).toNat)
              case atStart => exact ⟨0, true, by omega, rfl, rfl, hid ⟨fun _ m hm => by simp at hm, fun _ => rfl⟩⟩
              case round =>
                obtain ⟨q, f, hq, rfl, rfl, Hf⟩ := hrel
                by_cases hlt3 : q < L.length
                · obtain ⟨m, hxm, hmk⟩ := Hmem.out _ (List.getElem_mem hlt3)
                  have hcm : w4.cell? ⟨b, o + q, none⟩ = some (.int .i64 m) := by
                    rw [← hxm]; exact (Hb4.out.cell (p := ⟨b, o + q, none⟩) (by show b < wr.heap.size; omega)).trans ((HB3.out.cell (p := ⟨b, o + q, none⟩) hbl).trans (Hcell.out q hlt3))
                  have htk : L.take (q + 1) = L.take q ++ [(m : Int)] := by rw [← hxm, List.take_append_getElem hlt3]
                  have Htk := hid htk
                  clear htk hxm
                  have hql : (q : Int) < (L.length : Int) := by omega
                  obtain ⟨g4, c4, rfl, _, _, hon⟩ := Hon.out
                  by_cases hmn : m = n
                  · subst hmn
                    have hne : ((m : Int) != (m : Int)) = false := by simp
                    clear hon
                    go_wp2
                    go_round
                    case rel =>
                      refine ⟨q + 1, f, by omega, by go_num, rfl, hid ?_⟩
                      rw [Htk.out, Hf.out]
                      exact ⟨fun h x hx hxm => (List.mem_append.1 hx).elim (fun h1 => h x h1 hxm) (fun h1 => absurd (by simpa using h1) hxm), fun h x hx => h x (by simp [hx])⟩
                    case measure => simp [intOf]; omega
                  · have hne : ((m : Int) != (n : Int)) = true := by rw [bne_iff_ne]; omega
                    have hcon := hon m (by omega)
                    have hm1 : (m : Int) < (k : Int) + 1 := by omega
                    have hmkd : mkd k R (m : Int) = R.getD m false := by unfold mkd; rw [if_neg (by omega), Int.toNat_natCast]
                    have Hmkd := hid hmkd
                    clear hon hmkd
                    cases hv : R.getD m false with
                    | true =>
                      rw [hv] at hcon
                      have Hv := hid hv
                      clear hv
                      go_wp2
                      go_round
                      case rel =>
                        refine ⟨q + 1, false, by omega, by go_num, rfl, hid ?_⟩
                        rw [Htk.out]
                        refine ⟨fun h => (by cases h), fun h => ?_⟩
                        have := h m (by simp) (by omega)
                        rw [Hmkd.out, Hv.out] at this; cases this
                      case measure => simp [intOf]; omega
                    | false =>
                      rw [hv] at hcon
                      have Hv := hid hv
                      clear hv
                      go_wp2
                      go_round
                      case rel =>
                        refine ⟨q + 1, f, by omega, by go_num, rfl, hid ?_⟩
                        rw [Htk.out, Hf.out]
                        exact ⟨fun h x hx hxm => (List.mem_append.1 hx).elim (fun h1 => h x h1 hxm) (fun h1 => by rw [List.mem_singleton.1 h1, Hmkd.out]; exact Hv.out), fun h x hx => h x (by simp [hx])⟩
                      case measure => simp [intOf]; omega
                · have hql : q = L.length := by omega
                  have hf := Hf.out
                  rw [hql, List.take_length] at hf
                  have hnear : f = true ↔ Near (nxW k ws) k a n := by
                    rw [hf, ← Hnf.out n hnL]
                    constructor
                    · intro h m hm hmn hw2
                      obtain ⟨z, rfl, hz⟩ := Hmem.out m hm
                      have := h _ hm hmn
                      rw [(HR.out _ (by omega) (by omega)).2 hw2] at this
                      cases this
                    · intro h m hm hmn
                      obtain ⟨z, rfl, hz⟩ := Hmem.out m hm
                      cases h2 : mkd k R (z : Int)
                      · rfl
                      · exact absurd ((HR.out _ (by omega) (by omega)).1 h2) (h _ hm hmn)
                  have Hnear := hid hnear
                  clear hf hnear
                  cases f with
                  | true =>
                    have Hpost := hid (postS_near (fun i x hx => (Hnx.out i x hx).1) Hway.out (Hnear.out.1 rfl))
                    clear Hnear
                    go_wp2
                    go_ret
                    exact ⟨by rw [Hpost.out]; rfl, HW3.out.trans ((HB3.out.trans (Hb4.out.mono hbsr)).mono hbs3)⟩
                  | false =>
                    have Hnn : Hid (¬ Near (nxW k ws) k a n) := hid fun h => by have := Hnear.out.2 h; cases this
                    clear Hnear
                    go_wp2
                    go_roundw
                    case rel =>
                      refine ⟨j + 1, by omega, by go_num, HB3.out.trans (Hb4.out.mono hbsr), hid fun x hx => ?_⟩
                      rw [← List.take_append_getElem hlt2, Hxn.out] at hx
                      rcases List.mem_append.1 hx with h | h
                      · exact Hno.out x h
                      · rw [List.mem_singleton.1 h]; exact Hnn.out
                    case measure => simp [intOf]; omega
            · have hjl : j = L.length := by omega
              have hno := Hno.out
              rw [hjl, List.take_length] at hno
              have Hpost : Hid (postS (nxW k ws) k a = -1) := hid (postS_none fun d hd => hno d (Hnm.out d hd) hd)
              clear hno
              go_wp2
              go_ret
              exact ⟨by rw [Hpost.out]; rfl, HW3.out.trans (hB3.mono hbs3)⟩
end Go.Proofs.Ytjocifamacpamaa
