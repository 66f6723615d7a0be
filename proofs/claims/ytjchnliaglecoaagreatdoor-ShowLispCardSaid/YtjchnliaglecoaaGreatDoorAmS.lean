/- A region that draws its order, the last operations of which stand behind all the others. Conditions: none. -/
import Derived.Test.YtjchnliaglecoaaGreatDoorAmP
import Derived.Test.YtjchnliaglecoaaGreatDoorAmOX
set_option linter.unusedVariables false
set_option linter.unusedSimpArgs false
namespace Go.Am
open Go Go.RowKit
set_option linter.unusedVariables false
set_option linter.unusedSimpArgs false
variable {P : Program}
theorem wp_exits {o : Oper} {a : Act} {w : World} {K : Act → World → Prop} {Q Q1 : Exit → Act → World → Prop} (hp : ∀ c a w, Q1 (.panic c) a w → Q (.panic c) a w) (hl : LetsOut Q1 → LetsOut Q) (h : o.wp P a w K Q1) : o.wp P a w K Q := by
  unfold Oper.wp at *
  generalize (execOp a.eval o).run P w = r at *
  cases r with
  | ok n w' =>
    cases n <;> simp only [Oper.upon] at h ⊢ <;>
      first
        | exact h
        | exact Calls.mono h (fun e w'' he => by cases e <;> first | exact he | exact hp _ _ _ he | exact hl he)
  | halt x w' => cases x <;> simp only [Oper.upon] at h ⊢ <;> first | exact h | exact hp _ _ _ h
theorem any_doneW {ops : Array Oper} {Q : Exit → Act → World → Prop} {listed : Array Bool} {a : Act} {w : World} (h : Region.ready .any ops listed = []) (hQ : Q .normal a w) : ∀ fuel, wpAny P .any ops Q fuel listed a w
  | 0 => ⟨h, hQ⟩
  | fuel + 1 => ⟨fun _ => hQ, fun i hi => by rw [h] at hi; cases hi⟩
/-- What the others hand on to the last. -/
def LastW (P : Program) (ops : Array Oper) (p : Oper) (Q : Exit → Act → World → Prop) : Exit → Act → World → Prop
  | .normal, a, w => wpList P ops Q [p] a w
  | e, a, w => Q e a w
theorem any_lastW {pre : Array Oper} {p : Oper} {Q : Exit → Act → World → Prop} (hpre : ∀ i o, pre[i]? = some o → (∀ e ∈ o.after, Region.binds .any e = true → e.on < i) ∧ ∀ j b, o.guard = some (j, b) → j < pre.size)
    (hp : ∀ e ∈ p.after, Region.binds .any e = true → e.on < pre.size) (hlast : ∀ i, i < pre.size → Ahead (pre.push p).toList pre.size i) :
    ∀ (fuel : Nat) (l : Array Bool) (a : Act) (w : World), l.size = pre.size → ClosedS pre.toList (fun i => l.getD i false) → wpAny P .any pre (LastW P (pre.push p) p Q) fuel l a w → wpAny P .any (pre.push p) Q (fuel + 1) (l.push false) a w := by
  intro fuel
  have getlt : ∀ (l : Array Bool) (d : Bool) i, i < l.size → (l.push false).getD i d = l.getD i d := fun l d i hi => by
    simp [Array.getD_eq_getD_getElem?, Array.getElem?_push, Nat.ne_of_lt hi]
  have getn : ∀ (l : Array Bool), (l.push false).getD l.size true = false := fun l => by
    simp [Array.getD_eq_getD_getElem?]
  have opslt : ∀ i, i < pre.size → (pre.push p)[i]? = pre[i]? := fun i hi => by simp [Array.getElem?_push, Nat.ne_of_lt hi]
  have opsn : (pre.push p)[pre.size]? = some p := by simp
  -- ready here, ready there
  have rdy : ∀ (l : Array Bool), l.size = pre.size → ∀ i, i < pre.size → (i ∈ Region.ready .any (pre.push p) (l.push false) ↔ i ∈ Region.ready .any pre l) := fun l hl i hi => by
    rw [mem_ready, mem_ready, opslt i hi, getlt l true i (by omega)]
    constructor
    · rintro ⟨h1, o, h2, h3⟩
      refine ⟨h1, o, h2, fun e he hb => ?_⟩
      have := (hpre i o h2).1 e he hb
      rw [← getlt l false e.on (by omega)]; exact h3 e he hb
    · rintro ⟨h1, o, h2, h3⟩
      refine ⟨h1, o, h2, fun e he hb => ?_⟩
      have := (hpre i o h2).1 e he hb
      rw [getlt l false e.on (by omega)]; exact h3 e he hb
  have inlt : ∀ (l : Array Bool), l.size = pre.size → ∀ i, i ∈ Region.ready .any (pre.push p) (l.push false) → i < pre.size ∨ i = pre.size := fun l hl i hi => by
    obtain ⟨_, o, ho, _⟩ := mem_ready.1 hi
    have := (Array.getElem?_eq_some_iff.1 ho).1
    simp at this; omega
  -- the last is ready when all is done
  have full : ∀ (l : Array Bool), l.size = pre.size → ClosedS pre.toList (fun i => l.getD i false) → pre.size ∈ Region.ready .any (pre.push p) (l.push false) → ∀ i, i < pre.size → l.getD i false = true := fun l hl hc hn i hi => by
    obtain ⟨_, o, ho, hall⟩ := mem_ready.1 hn
    rw [opsn] at ho; cases ho
    have hc2 : ClosedS (pre.push p).toList (fun i => decide (i < pre.size) && l.getD i false) := fun j o e hj ho he hb => by
      simp only [Bool.and_eq_true, decide_eq_true_eq] at hj
      have ho' : pre[j]? = some o := by
        have : (pre.push p)[j]? = some o := by rw [← ho]; simp only [Array.getElem?_toList]
        rw [opslt j hj.1] at this; exact this
      have h1 := (hpre j o ho').1 e he hb
      simp only [Bool.and_eq_true, decide_eq_true_eq]
      exact ⟨by omega, hc j o e hj.2 (by simpa using ho') he hb⟩
    have hS : ∀ e ∈ p.after, Region.binds .any e = true → (decide (e.on < pre.size) && l.getD e.on false) = true := fun e he hb => by
      have h1 := hp e he hb
      have h2 := hall e he hb
      rw [getlt l false e.on (by omega)] at h2
      simp [h1, h2]
    have hA := hlast i hi
    have key : (decide (i < pre.size) && l.getD i false) = true := by
      cases hA with
      | edge ho he hb =>
        have ho' := ho; rw [Array.getElem?_toList] at ho'
        rw [opsn] at ho'; cases ho'
        exact hS _ he hb
      | step ho he hb h2 =>
        have ho' := ho; rw [Array.getElem?_toList] at ho'
        rw [opsn] at ho'; cases ho'
        exact h2.mem hc2 (hS _ he hb)
    simp only [Bool.and_eq_true, decide_eq_true_eq] at key
    exact key.2
  have none : ∀ (l : Array Bool), (∀ i, i < pre.size → l.getD i false = true) → l.size = pre.size → Region.ready .any pre l = [] := fun l hl hsz => by
    apply List.eq_nil_iff_forall_not_mem.2
    intro i hi
    obtain ⟨h1, o, ho, _⟩ := mem_ready.1 hi
    have hlt := (Array.getElem?_eq_some_iff.1 ho).1
    have := hl i hlt
    have hi' : i < l.size := by omega
    simp [Array.getD_eq_getD_getElem?, hi'] at this h1
    rw [this] at h1; cases h1
  -- the last one's turn
  have fin : ∀ (fuel : Nat) (l : Array Bool) (a : Act) (w : World), l.size = pre.size → (∀ i, i < pre.size → l.getD i false = true) → wpList P (pre.push p) Q [p] a w → wpOp P (pre.push p) Q pre.size (wpAny P .any (pre.push p) Q fuel ((l.push false).setIfInBounds pre.size true)) a w := fun fuel l a w hl hall h => by
    have hr : Region.ready .any (pre.push p) ((l.push false).setIfInBounds pre.size true) = [] := by
      apply List.eq_nil_iff_forall_not_mem.2
      intro i hi
      obtain ⟨h1, o, ho, _⟩ := mem_ready.1 hi
      have hlt := (Array.getElem?_eq_some_iff.1 ho).1
      simp at hlt
      by_cases e : i = pre.size
      · subst e
        simp [Array.getD_eq_getD_getElem?, hl] at h1
      · have h2 := hall i (by omega)
        have hi' : i < l.size := by omega
        have e' : ¬ pre.size = i := fun h => e h.symm
        have e2 : ¬ i = l.size := by omega
        simp [Array.getD_eq_getD_getElem?, Array.getElem?_setIfInBounds, Array.getElem?_push, e', e2, hi'] at h1 h2
        rw [h2] at h1; cases h1
    unfold wpList at h
    unfold wpOp
    simp only [opsn]
    split
    · rename_i hw
      rw [if_pos hw] at h
      exact h.imp (Oper.wp_mono fun a w h => any_doneW hr h fuel) id
    · rename_i hw
      rw [if_neg hw] at h
      exact any_doneW hr h fuel
  have some_ready : ∀ (l : Array Bool), l.size = pre.size → Region.ready .any (pre.push p) (l.push false) = [] → False := fun l hl h => by
    have hall : ∀ i, i < pre.size → l.getD i false = true := by
      intro i
      induction i using Nat.strongRecOn with
      | _ i ihi =>
        intro hi
        have hi' : i < l.size := by omega
        cases hv : l[i] with
        | true => simp [Array.getD_eq_getD_getElem?, hi', hv]
        | false =>
          exfalso
          have : i ∈ Region.ready .any pre l := mem_ready.2 ⟨by simp [Array.getD_eq_getD_getElem?, hi', hv], pre[i], by simp [hi], fun e he hb => by
            have hlt := (hpre i pre[i] (by simp [hi])).1 e he hb
            exact ihi e.on hlt (by omega)⟩
          rw [← rdy l hl i hi, h] at this; cases this
    have : pre.size ∈ Region.ready .any (pre.push p) (l.push false) := mem_ready.2 ⟨by rw [← hl]; exact getn l, p, opsn, fun e he hb => by
      have := hp e he hb
      rw [getlt l false e.on (by omega)]; exact hall e.on this⟩
    rw [h] at this; cases this
  induction fuel with
  | zero =>
    intro l a w hl hc h
    refine ⟨fun hn => (some_ready l hl hn).elim, fun i hi => ?_⟩
    rcases inlt l hl i hi with hlt | rfl
    · have := (rdy l hl i hlt).1 hi
      rw [h.1] at this; cases this
    · exact fin 0 l a w hl (full l hl hc hi) h.2
  | succ fuel ih =>
    intro l a w hl hc h
    refine ⟨fun hn => (some_ready l hl hn).elim, fun i hi => ?_⟩
    rcases inlt l hl i hi with hlt | rfl
    · have hi2 := (rdy l hl i hlt).1 hi
      have h2 := h.2 i hi2
      obtain ⟨q1, o, ho, hedges⟩ := mem_ready.1 hi2
      have hil : i < l.size := by omega
      have hset : (l.push false).setIfInBounds i true = (l.setIfInBounds i true).push false := by
        apply Array.ext_getElem?
        intro k
        by_cases hk : k = i
        · subst hk
          have e1 : ¬ k = l.size := by omega
          have hR : ((l.setIfInBounds k true).push false)[k]? = some true := by
            rw [Array.getElem?_push, if_neg (by rw [Array.size_setIfInBounds]; exact e1)]
            simp [hil]
          have hL : ((l.push false).setIfInBounds k true)[k]? = some true := by
            have h9 : k < (l.push false).size := by rw [Array.size_push]; omega
            rw [Array.getElem?_setIfInBounds, if_pos rfl, if_pos h9]
          rw [hR, hL]
        · have hk' : ¬ i = k := fun h => hk h.symm
          simp [Array.getElem?_setIfInBounds, Array.getElem?_push, hk']
      have hcl : ClosedS pre.toList (fun j => (l.setIfInBounds i true).getD j false) := fun j o' e hj ho' he hb => by
        have hget : ∀ k, (l.setIfInBounds i true).getD k false = (l.getD k false || decide (k = i)) := fun k => by
          by_cases hk : k = i
          · subst hk; simp [Array.getD_eq_getD_getElem?, hil]
          · have hk' : ¬ i = k := fun h => hk h.symm
            simp [Array.getD_eq_getD_getElem?, Array.getElem?_setIfInBounds, hk, hk']
        simp only at hj ⊢
        rw [hget] at hj ⊢
        rw [Bool.or_eq_true, decide_eq_true_eq] at hj
        rcases hj with hj | hj
        · have h5 : l.getD e.on false = true := hc j o' e hj ho' he hb
          rw [h5]; rfl
        · subst hj
          have : pre[j]? = some o' := by simpa using ho'
          rw [ho] at this; cases this
          rw [hedges e he hb]; rfl
      rw [hset]
      unfold wpOp at h2 ⊢
      rw [opslt i hlt]
      simp only [ho] at h2 ⊢
      have hwant : Region.wanted o (yielded (pre.push p) a.tmps) = Region.wanted o (yielded pre a.tmps) := by
        unfold Region.wanted
        cases hg : o.guard with
        | none => rfl
        | some jw =>
          obtain ⟨j, b⟩ := jw
          have hj := (hpre i o ho).2 j b hg
          simp only
          have : yielded (pre.push p) a.tmps j = yielded pre a.tmps j := by
            unfold yielded
            rw [opslt j hj]
          rw [this]
      rw [hwant]
      split
      · rename_i hw
        rw [if_pos hw] at h2
        rcases h2 with h2 | h2
        · exact .inl (wp_exits (fun c a w h => h) (fun h => h) (Oper.wp_mono (fun a w h => ih _ a w (by simpa using hl) hcl h) h2))
        · exact .inr h2
      · rename_i hw
        rw [if_neg hw] at h2
        exact ih _ _ w (by simpa using hl) hcl h2
    · have hall := full l hl hc hi
      exact fin (fuel + 1) l a w hl hall (h.1 (none l hall hl))

theorem draw_phi_any {ops : List Oper} {Φ : Nat → World → Value → Prop} {a0 : Act} {w0 : World} {Q : Exit → Act → World → Prop}
    (hap : apartAll ops (masks ops []) = true) (hdst : ops.all (fun o => match o.dst with | some d => Nat.blt d a0.tmps.size | none => true) = true)
    (hstab : ∀ i w w' v, Below w.heap.size w w' → Φ i w v → Φ i w' v)
    (hop : ∀ i o ca w, ops[i]? = some o → Below w0.heap.size w0 w → LookAt ops Φ a0 o ca w → ∀ K : Act → World → Prop, (∀ v w', Below w.heap.size w w' → Φ i w' v → K (ca.put o.dst v) w') → wpOp P ops.toArray Q i K ca w)
    (hfin : ∀ ca w, Below w0.heap.size w0 w → ca.defers = a0.defers → ca.tmps.size = a0.tmps.size → (∀ (j : Nat) (p : Oper) d, ops[j]? = some p → p.dst = some d → Φ j w (ca.tmps.getD d undef)) → (∀ t, (∀ (j : Nat) (p : Oper), ops[j]? = some p → p.dst ≠ some t) → ca.tmps.getD t undef = a0.tmps.getD t undef) → Q .normal ca w) (w1 : World) (hw1 : Below w0.heap.size w0 w1) :
    wpAny P .any ops.toArray Q ops.toArray.size (Array.replicate ops.toArray.size false) a0 w1 := by
  obtain ⟨hchk, hown, hedge⟩ := apartAll_spec hap
  have key : ∀ (fuel : Nat) (listed : Array Bool) ca w, listed.size = ops.length → listed.toList.count false ≤ fuel → Below w0.heap.size w0 w → ca.defers = a0.defers → ca.tmps.size = a0.tmps.size → ClosedS ops (fun i => listed.getD i false) →
      (∀ (j : Nat) (p : Oper) d, ops[j]? = some p → p.dst = some d → listed.getD j false = true → Φ j w (ca.tmps.getD d undef)) → (∀ t, (∀ (j : Nat) (p : Oper), ops[j]? = some p → p.dst ≠ some t) → ca.tmps.getD t undef = a0.tmps.getD t undef) →
      wpAny P .any ops.toArray Q fuel listed ca w := by
    intro fuel
    induction fuel with
    | zero =>
      intro listed ca w hsz hcnt hb hd hs hcl hphi hoth
      have hall : ∀ i, i < ops.length → listed.getD i false = true := fun i hi => by
        have hi' : i < listed.size := by omega
        cases hv : listed[i] with
        | true => simp [hi', hv]
        | false =>
          have hmem : false ∈ listed.toList := by rw [List.mem_iff_getElem]; exact ⟨i, by simpa using hi', by simpa using hv⟩
          have := List.count_pos_iff.2 hmem
          omega
      refine ⟨?_, hfin ca w hb hd hs (fun j p d hp hpd => hphi j p d hp hpd (hall j (List.getElem?_eq_some_iff.1 hp).1)) hoth⟩
      apply List.eq_nil_iff_forall_not_mem.2
      intro i hi
      obtain ⟨h4, o, ho, _⟩ := mem_ready.1 hi
      have hlt : i < ops.length := by have := (Array.getElem?_eq_some_iff.1 ho).1; simpa using this
      have := hall i hlt
      have hi' : i < listed.size := by omega
      simp [hi'] at this h4
      rw [this] at h4; cases h4
    | succ fuel ih =>
      intro listed ca w hsz hcnt hb hd hs hcl hphi hoth
      constructor
      · intro hnone
        have hall : ∀ i, i < ops.length → listed.getD i false = true := by
          intro i
          induction i using Nat.strongRecOn with
          | _ i ihi =>
            intro hi
            have hi' : i < listed.size := by omega
            cases hv : listed[i] with
            | true => simp [hi', hv]
            | false =>
              exfalso
              have : i ∈ Region.ready .any ops.toArray listed := mem_ready.2 ⟨by simp [hi', hv], ops[i], by simp [hi], fun e he hb => by
                have hlt := hedge i ops[i] e (by simp [hi]) he hb
                exact ihi e.on hlt (by omega)⟩
              rw [hnone] at this; cases this
        exact hfin ca w hb hd hs (fun j p d hp hpd => hphi j p d hp hpd (hall j (List.getElem?_eq_some_iff.1 hp).1)) hoth
      · intro i hi
        obtain ⟨h4, o, ho', hall⟩ := mem_ready.1 hi
        have ho : ops[i]? = some o := by simpa using ho'
        have hlt : i < ops.length := (List.getElem?_eq_some_iff.1 ho).1
        have hi' : i < listed.size := by omega
        have h4' : listed.getD i false = false := by simp [hi'] at h4 ⊢; exact h4
        have hbehind : ∀ j, Ahead ops j i → listed.getD j false = false := fun j h => by
          cases hs2 : listed.getD j false with
          | false => rfl
          | true => have := h.mem hcl hs2; rw [h4'] at this; cases this
        have hahead : ∀ j, Ahead ops i j → listed.getD j false = true := fun j h => by
          cases h with
          | edge ho2 he hb2 => rw [ho] at ho2; cases ho2; exact hall _ he hb2
          | step ho2 he hb2 h2 => rw [ho] at ho2; cases ho2; exact h2.mem hcl (hall _ he hb2)
        have hlook : LookAt ops Φ a0 o ca w := fun t ht => by
          refine ⟨fun j p hp hpd => ?_, fun hno => hoth t hno⟩
          refine hphi j p t hp hpd ?_
          rcases Nat.lt_trichotomy j i with hji | hji | hji
          · rcases (hchk j i p o hp ho hji).2 with h | h
            · exact hahead j h
            · exact absurd ht ((Oper.apart_spec h).1 t hpd)
          · exact absurd ht (hown i j o p t ho hp (by omega) hpd)
          · exact absurd ht (hown i j o p t ho hp (by omega) hpd)
        refine hop i o ca w ho hb hlook _ fun v w' hb' hv => ?_
        refine ih _ _ _ (by simpa using hsz) (by have := count_set_true listed i h4; omega) (hb.trans (hb'.mono hb.size)) ?_ ?_ ?_ ?_ ?_
        · rw [← hd]; cases o.dst <;> rfl
        · rw [← hs]; cases o.dst <;> simp [Act.put]
        · intro j p e hj hp he hbd
          simp only at hj ⊢
          by_cases e1 : j = i
          · subst e1
            rw [ho] at hp; cases hp
            have := hall e he hbd
            by_cases e2 : e.on = j
            · simp [e2, hi']
            · have hne : ¬ j = e.on := fun h => e2 h.symm
              simpa [Array.getElem?_setIfInBounds, hne] using this
          · have hne : ¬ i = j := fun h => e1 h.symm
            have hj' : listed.getD j false = true := by simpa [Array.getElem?_setIfInBounds, hne] using hj
            have := hcl j p e hj' hp he hbd
            by_cases e2 : e.on = i
            · simp [e2, hi']
            · have hne2 : ¬ i = e.on := fun h => e2 h.symm
              simpa [Array.getElem?_setIfInBounds, hne2] using this
        · intro j p d hp hpd hj
          by_cases e1 : j = i
          · subst e1
            rw [ho] at hp; cases hp
            have hdlt : d < ca.tmps.size := by
              have := List.all_eq_true.1 hdst o (List.mem_of_getElem? ho)
              simp only [hpd, blt_eq] at this
              rw [hs]; simpa using this
            have : (ca.put o.dst v).tmps.getD d undef = v := by simp [Act.put, hpd, hdlt]
            rw [this]; exact hv
          · have hne : ¬ i = j := fun h => e1 h.symm
            have hj' : listed.getD j false = true := by simpa [Array.getElem?_setIfInBounds, hne] using hj
            have h0 := hphi j p d hp hpd hj'
            have hdd : o.dst ≠ some d := fun hod => by
              rcases Nat.lt_or_gt_of_ne e1 with h | h
              · exact (hchk j i p o hp ho h).1 d hpd hod
              · exact (hchk i j o p ho hp h).1 d hod hpd
            have : (ca.put o.dst v).tmps.getD d undef = ca.tmps.getD d undef := by
              cases hod : o.dst with
              | none => rfl
              | some d' =>
                have hne2 : ¬ d' = d := fun e => hdd (by rw [hod, e])
                simp [Act.put, Array.getElem?_setIfInBounds, hne2]
            rw [this]; exact hstab j w w' _ hb' h0
        · intro t hno
          have hod : o.dst ≠ some t := hno i o ho
          have : (ca.put o.dst v).tmps.getD t undef = ca.tmps.getD t undef := by
            cases hd2 : o.dst with
            | none => rfl
            | some d' =>
              have hne2 : ¬ d' = t := fun e => hod (by rw [hd2, e])
              simp [Act.put, Array.getElem?_setIfInBounds, hne2]
          rw [this]; exact hoth t hno
  refine key ops.toArray.size _ a0 _ (by simp) (by simp) hw1 rfl rfl (fun j o e hj => ?_) (fun j p d hp hpd hj => ?_) (fun t _ => rfl)
  · simp [Array.getElem?_replicate] at hj
    split at hj <;> simp at hj
  · simp [Array.getElem?_replicate] at hj
    split at hj <;> simp at hj

theorem any_lastP {ops : Array Oper} {p : Oper} {Q : Exit → Act → World → Prop} {ca : Act} {w : World} (h : lastP ops = some p) (main : wpAny P .any ops.pop (LastW P ops p Q) ops.pop.size (Array.replicate ops.pop.size false) ca w) :
    wpAny P .any ops Q ops.size (Array.replicate ops.size false) ca w := by
  obtain ⟨heq, h1, h2, h3⟩ := lastP_spec h
  have hsz : ops.size = ops.pop.size + 1 := by
    have := congrArg Array.size heq
    simpa using this
  have key := any_lastW (P := P) (Q := Q) h1 h2 (fun i hi => by rw [← heq]; exact h3 i hi) ops.pop.size (Array.replicate ops.pop.size false) ca w (by simp) (fun j o e hj => by
      simp [Array.getElem?_replicate] at hj
      split at hj <;> simp at hj) (by rw [← heq]; exact main)
  rw [← heq] at key
  have hrep : (Array.replicate ops.pop.size false).push false = Array.replicate ops.size false := by
    rw [hsz]; exact Array.replicate_succ.symm
  rw [hrep, ← hsz] at key
  exact key
/-- The same, the operations as a list. -/
theorem any_cut (l : List Oper) (n : Nat) {p : Oper} {Q : Exit → Act → World → Prop} {ca : Act} {w : World} (hl : l = l.take n ++ [p]) (h : lastP l.toArray = some p) (main : wpAny P .any (l.take n).toArray (LastW P l.toArray p Q) (l.take n).toArray.size (Array.replicate (l.take n).toArray.size false) ca w) :
    wpAny P .any l.toArray Q l.toArray.size (Array.replicate l.toArray.size false) ca w := by
  refine any_lastP h ?_
  have : l.toArray.pop = (l.take n).toArray := by
    rw [List.pop_toArray]
    congr 1
    have h2 := congrArg List.dropLast hl
    rw [List.dropLast_concat] at h2
    exact h2
  rw [this]
  exact main
/-- A frame behind operations that ran in any order. -/
theorem frame_out {ops : List Oper} {a0 ca : Act} (hd : ca.defers = a0.defers) (hs : ca.tmps.size = a0.tmps.size) (hoth : ∀ t, (∀ (j : Nat) p, ops[j]? = some p → p.dst ≠ some t) → ca.tmps.getD t undef = a0.tmps.getD t undef) :
    ca = ⟨ops.foldl (fun tm o => match o.dst with
      | some d => tm.setIfInBounds d (ca.tmps.getD d undef)
      | none => tm) a0.tmps, a0.defers⟩ := by
  have key : ∀ (ops : List Oper) (tm : Array Value), tm.size = ca.tmps.size → (∀ t, (∀ (j : Nat) p, ops[j]? = some p → p.dst ≠ some t) → ca.tmps.getD t undef = tm.getD t undef) →
      ca.tmps = ops.foldl (fun tm o => match o.dst with
        | some d => tm.setIfInBounds d (ca.tmps.getD d undef)
        | none => tm) tm := by
    intro ops
    induction ops with
    | nil =>
      intro tm hs h
      apply Array.ext
      · exact hs.symm
      · intro i h1 h2
        have := h i (fun j p hp => by simp at hp)
        have h2' : i < tm.size := h2
        simp only [Array.getD, h1, h2', dif_pos] at this
        exact this
    | cons o ops ih =>
      intro tm hs h
      rw [List.foldl_cons]
      refine ih _ ?_ fun t ht => ?_
      · cases o.dst <;> simp [hs]
      · cases e : o.dst with
        | none =>
          refine h t fun j p hp => ?_
          cases j with
          | zero => simp at hp; subst hp; rw [e]; simp
          | succ j => exact ht j p (by simpa using hp)
        | some d =>
          by_cases hdt : d = t
          · subst hdt
            by_cases hlt : d < tm.size
            · simp [Array.getElem?_setIfInBounds, hlt]
            · simp [Array.getElem?_setIfInBounds, hlt, ← hs]
          · have h1 : ca.tmps.getD t undef = tm.getD t undef := h t fun j p hp => by
              cases j with
              | zero => simp at hp; subst hp; rw [e]; simpa using hdt
              | succ j => exact ht j p (by simpa using hp)
            rw [h1]
            simp [Array.getElem?_setIfInBounds, hdt]
  have := key ops a0.tmps hs.symm hoth
  cases ca with
  | mk tm df =>
    simp only at hd this ⊢
    rw [hd]
    congr 1
end Go.Am
