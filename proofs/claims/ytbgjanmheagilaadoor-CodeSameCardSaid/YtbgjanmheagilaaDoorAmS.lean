/- A region that draws its order, the last operations of which stand behind all the others. Conditions: none. -/
import Derived.Test.YtbgjanmheagilaaDoorAmP
import Derived.Test.YtbgjanmheagilaaDoorAmOX
set_option linter.unusedVariables false
set_option linter.unusedSimpArgs false
namespace Go.Am
open Go Go.RowKit
set_option linter.unusedVariables false
set_option linter.unusedSimpArgs false
variable {P : Program}
theorem draw_phi_any {ops : List Oper} {Φ : Nat → World → Value → Prop} {a0 : Act} {w0 : World} {Q : Exit → Act → World → Prop}
    (hap : apartAll ops (masks ops []) = true) (hdst : ops.all (fun o => match o.dst with | some d => Nat.blt d a0.tmps.size | none => true) = true)
    (hstab : ∀ i w w' v, Below w.heap.size w w' → Φ i w v → Φ i w' v)
    (hop : ∀ i o ca w, ops[i]? = some o → Below w0.heap.size w0 w → LookAt ops Φ a0 o ca w → ∀ K : Act → World → Prop, (∀ v w', Below w.heap.size w w' → Φ i w' v → K (ca.put o.dst v) w') → wpOp P ops.toArray Q i K ca w)
    (hfin : ∀ ca w, Below w0.heap.size w0 w → ca.defers = a0.defers → ca.tmps.size = a0.tmps.size → (∀ (j : Nat) (p : Oper) d, ops[j]? = some p → p.dst = some d → Φ j w (ca.tmps.getD d undef)) → (∀ t, (∀ (j : Nat) (p : Oper), ops[j]? = some p → p.dst ≠ some t) → ca.tmps.getD t undef = a0.tmps.getD t undef) → Q .normal ca w) (w1 : World) (hw1 : Below w0.heap.size w0 w1) :
    wpAny P .any ops.toArray Q ops.toArray.size (Array.replicate ops.toArray.size false) a0 w1 := by
  obtain ⟨hchk, hown, hedge⟩ := apartAll_spec hap
  have key : ∀ (fuel : Nat) (listed : Array Bool) ca w, listed.size = ops.length → listed.toList.count false ≤ fuel → Below w0.heap.size w0 w → ca.defers = a0.defers → ca.tmps.size = a0.tmps.size → ClosedS ops (fun i => listed.getD i false) →
      (∀ (j : Nat) (p : Oper) d, ops[j]? = some p → p.dst = some d → listed.getD j false = true → Φ j w (ca.tmps.getD d undef)) → (∀ t, (∀ (j : Nat) (p : Oper), ops[j]? = some p → p.dst ≠ some t) → ca.tmps.getD t undef = a0.tmps.getD t undef) →
      wpAny P .any ops.toArray Q fuel listed ca w := by
    intro fuel
    induction fuel with
    | zero =>
      intro listed ca w hsz hcnt hb hd hs hcl hphi hoth
      have hall : ∀ i, i < ops.length → listed.getD i false = true := fun i hi => by
        have hi' : i < listed.size := by omega
        cases hv : listed[i] with
        | true => simp [hi', hv]
        | false =>
          have hmem : false ∈ listed.toList := by rw [List.mem_iff_getElem]; exact ⟨i, by simpa using hi', by simpa using hv⟩
          have := List.count_pos_iff.2 hmem
          omega
      refine ⟨?_, hfin ca w hb hd hs (fun j p d hp hpd => hphi j p d hp hpd (hall j (List.getElem?_eq_some_iff.1 hp).1)) hoth⟩
      apply List.eq_nil_iff_forall_not_mem.2
      intro i hi
      obtain ⟨h4, o, ho, _⟩ := mem_ready.1 hi
      have hlt : i < ops.length := by have := (Array.getElem?_eq_some_iff.1 ho).1; simpa using this
      have := hall i hlt
      have hi' : i < listed.size := by omega
      simp [hi'] at this h4
      rw [this] at h4; cases h4
    | succ fuel ih =>
      intro listed ca w hsz hcnt hb hd hs hcl hphi hoth
      constructor
      · intro hnone
        have hall : ∀ i, i < ops.length → listed.getD i false = true := by
          intro i
          induction i using Nat.strongRecOn with
          | _ i ihi =>
            intro hi
            have hi' : i < listed.size := by omega
            cases hv : listed[i] with
            | true => simp [hi', hv]
            | false =>
              exfalso
              have : i ∈ Region.ready .any ops.toArray listed := mem_ready.2 ⟨by simp [hi', hv], ops[i], by simp [hi], fun e he hb => by
                have hlt := hedge i ops[i] e (by simp [hi]) he hb
                exact ihi e.on hlt (by omega)⟩
              rw [hnone] at this; cases this
        exact hfin ca w hb hd hs (fun j p d hp hpd => hphi j p d hp hpd (hall j (List.getElem?_eq_some_iff.1 hp).1)) hoth
      · intro i hi
        obtain ⟨h4, o, ho', hall⟩ := mem_ready.1 hi
        have ho : ops[i]? = some o := by simpa using ho'
        have hlt : i < ops.length := (List.getElem?_eq_some_iff.1 ho).1
        have hi' : i < listed.size := by omega
        have h4' : listed.getD i false = false := by simp [hi'] at h4 ⊢; exact h4
        have hbehind : ∀ j, Ahead ops j i → listed.getD j false = false := fun j h => by
          cases hs2 : listed.getD j false with
          | false => rfl
          | true => have := h.mem hcl hs2; rw [h4'] at this; cases this
        have hahead : ∀ j, Ahead ops i j → listed.getD j false = true := fun j h => by
          cases h with
          | edge ho2 he hb2 => rw [ho] at ho2; cases ho2; exact hall _ he hb2
          | step ho2 he hb2 h2 => rw [ho] at ho2; cases ho2; exact h2.mem hcl (hall _ he hb2)
        have hlook : LookAt ops Φ a0 o ca w := fun t ht => by
          refine ⟨fun j p hp hpd => ?_, fun hno => hoth t hno⟩
          refine hphi j p t hp hpd ?_
          rcases Nat.lt_trichotomy j i with hji | hji | hji
          · rcases (hchk j i p o hp ho hji).2 with h | h
            · exact hahead j h
            · exact absurd ht ((Oper.apart_spec h).1 t hpd)
          · exact absurd ht (hown i j o p t ho hp (by omega) hpd)
          · exact absurd ht (hown i j o p t ho hp (by omega) hpd)
        refine hop i o ca w ho hb hlook _ fun v w' hb' hv => ?_
        refine ih _ _ _ (by simpa using hsz) (by have := count_set_true listed i h4; omega) (hb.trans (hb'.mono hb.size)) ?_ ?_ ?_ ?_ ?_
        · rw [← hd]; cases o.dst <;> rfl
        · rw [← hs]; cases o.dst <;> simp [Act.put]
        · intro j p e hj hp he hbd
          simp only at hj ⊢
          by_cases e1 : j = i
          · subst e1
            rw [ho] at hp; cases hp
            have := hall e he hbd
            by_cases e2 : e.on = j
            · simp [e2, hi']
            · have hne : ¬ j = e.on := fun h => e2 h.symm
              simpa [Array.getElem?_setIfInBounds, hne] using this
          · have hne : ¬ i = j := fun h => e1 h.symm
            have hj' : listed.getD j false = true := by simpa [Array.getElem?_setIfInBounds, hne] using hj
            have := hcl j p e hj' hp he hbd
            by_cases e2 : e.on = i
            · simp [e2, hi']
            · have hne2 : ¬ i = e.on := fun h => e2 h.symm
              simpa [Array.getElem?_setIfInBounds, hne2] using this
        · intro j p d hp hpd hj
          by_cases e1 : j = i
          · subst e1
            rw [ho] at hp; cases hp
            have hdlt : d < ca.tmps.size := by
              have := List.all_eq_true.1 hdst o (List.mem_of_getElem? ho)
              simp only [hpd, blt_eq] at this
              rw [hs]; simpa using this
            have : (ca.put o.dst v).tmps.getD d undef = v := by simp [Act.put, hpd, hdlt]
            rw [this]; exact hv
          · have hne : ¬ i = j := fun h => e1 h.symm
            have hj' : listed.getD j false = true := by simpa [Array.getElem?_setIfInBounds, hne] using hj
            have h0 := hphi j p d hp hpd hj'
            have hdd : o.dst ≠ some d := fun hod => by
              rcases Nat.lt_or_gt_of_ne e1 with h | h
              · exact (hchk j i p o hp ho h).1 d hpd hod
              · exact (hchk i j o p ho hp h).1 d hod hpd
            have : (ca.put o.dst v).tmps.getD d undef = ca.tmps.getD d undef := by
              cases hod : o.dst with
              | none => rfl
              | some d' =>
                have hne2 : ¬ d' = d := fun e => hdd (by rw [hod, e])
                simp [Act.put, Array.getElem?_setIfInBounds, hne2]
            rw [this]; exact hstab j w w' _ hb' h0
        · intro t hno
          have hod : o.dst ≠ some t := hno i o ho
          have : (ca.put o.dst v).tmps.getD t undef = ca.tmps.getD t undef := by
            cases hd2 : o.dst with
            | none => rfl
            | some d' =>
              have hne2 : ¬ d' = t := fun e => hod (by rw [hd2, e])
              simp [Act.put, Array.getElem?_setIfInBounds, hne2]
          rw [this]; exact hoth t hno
  refine key ops.toArray.size _ a0 _ (by simp) (by simp) hw1 rfl rfl (fun j o e hj => ?_) (fun j p d hp hpd hj => ?_) (fun t _ => rfl)
  · simp [Array.getElem?_replicate] at hj
    split at hj <;> simp at hj
  · simp [Array.getElem?_replicate] at hj
    split at hj <;> simp at hj

theorem any_lastP {ops : Array Oper} {p : Oper} {Q : Exit → Act → World → Prop} {ca : Act} {w : World} (h : lastP ops = some p) (main : wpAny P .any ops.pop (Last P ops p Q) ops.pop.size (Array.replicate ops.pop.size false) ca w) :
    wpAny P .any ops Q ops.size (Array.replicate ops.size false) ca w := by
  obtain ⟨heq, h1, h2, h3⟩ := lastP_spec h
  have hsz : ops.size = ops.pop.size + 1 := by
    have := congrArg Array.size heq
    simpa using this
  have key := any_last (P := P) (Q := Q) h1 h2 (fun i hi => by rw [← heq]; exact h3 i hi) ops.pop.size (Array.replicate ops.pop.size false) ca w (by simp) (fun j o e hj => by
      simp [Array.getElem?_replicate] at hj
      split at hj <;> simp at hj) (by rw [← heq]; exact main)
  rw [← heq] at key
  have hrep : (Array.replicate ops.pop.size false).push false = Array.replicate ops.size false := by
    rw [hsz]; exact Array.replicate_succ.symm
  rw [hrep, ← hsz] at key
  exact key
/-- The same, the operations as a list. -/
theorem any_cut (l : List Oper) (n : Nat) {p : Oper} {Q : Exit → Act → World → Prop} {ca : Act} {w : World} (hl : l = l.take n ++ [p]) (h : lastP l.toArray = some p) (main : wpAny P .any (l.take n).toArray (Last P l.toArray p Q) (l.take n).toArray.size (Array.replicate (l.take n).toArray.size false) ca w) :
    wpAny P .any l.toArray Q l.toArray.size (Array.replicate l.toArray.size false) ca w := by
  refine any_lastP h ?_
  have : l.toArray.pop = (l.take n).toArray := by
    rw [List.pop_toArray]
    congr 1
    have h2 := congrArg List.dropLast hl
    rw [List.dropLast_concat] at h2
    exact h2
  rw [this]
  exact main
/-- A frame behind operations that ran in any order. -/
theorem frame_out {ops : List Oper} {a0 ca : Act} (hd : ca.defers = a0.defers) (hs : ca.tmps.size = a0.tmps.size) (hoth : ∀ t, (∀ (j : Nat) p, ops[j]? = some p → p.dst ≠ some t) → ca.tmps.getD t undef = a0.tmps.getD t undef) :
    ca = ⟨ops.foldl (fun tm o => match o.dst with
      | some d => tm.setIfInBounds d (ca.tmps.getD d undef)
      | none => tm) a0.tmps, a0.defers⟩ := by
  have key : ∀ (ops : List Oper) (tm : Array Value), tm.size = ca.tmps.size → (∀ t, (∀ (j : Nat) p, ops[j]? = some p → p.dst ≠ some t) → ca.tmps.getD t undef = tm.getD t undef) →
      ca.tmps = ops.foldl (fun tm o => match o.dst with
        | some d => tm.setIfInBounds d (ca.tmps.getD d undef)
        | none => tm) tm := by
    intro ops
    induction ops with
    | nil =>
      intro tm hs h
      apply Array.ext
      · exact hs.symm
      · intro i h1 h2
        have := h i (fun j p hp => by simp at hp)
        have h2' : i < tm.size := h2
        simp only [Array.getD, h1, h2', dif_pos] at this
        exact this
    | cons o ops ih =>
      intro tm hs h
      rw [List.foldl_cons]
      refine ih _ ?_ fun t ht => ?_
      · cases o.dst <;> simp [hs]
      · cases e : o.dst with
        | none =>
          refine h t fun j p hp => ?_
          cases j with
          | zero => simp at hp; subst hp; rw [e]; simp
          | succ j => exact ht j p (by simpa using hp)
        | some d =>
          by_cases hdt : d = t
          · subst hdt
            by_cases hlt : d < tm.size
            · simp [Array.getElem?_setIfInBounds, hlt]
            · simp [Array.getElem?_setIfInBounds, hlt, ← hs]
          · have h1 : ca.tmps.getD t undef = tm.getD t undef := h t fun j p hp => by
              cases j with
              | zero => simp at hp; subst hp; rw [e]; simpa using hdt
              | succ j => exact ht j p (by simpa using hp)
            rw [h1]
            simp [Array.getElem?_setIfInBounds, hdt]
  have := key ops a0.tmps hs.symm hoth
  cases ca with
  | mk tm df =>
    simp only at hd this ⊢
    rw [hd]
    congr 1
end Go.Am
