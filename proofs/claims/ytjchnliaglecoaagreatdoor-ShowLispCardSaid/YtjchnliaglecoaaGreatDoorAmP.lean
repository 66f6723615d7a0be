/- A region that draws its order, by what holds of each of its answers in every later world. Conditions: none. -/
import Derived.Test.YtjchnliaglecoaaGreatDoorAmOX
set_option linter.unusedVariables false
set_option linter.unusedSimpArgs false
namespace Go.Am
open Go Go.RowKit
set_option linter.unusedVariables false
set_option linter.unusedSimpArgs false
variable {P : Program}

/-- No two operations write one slot; each that is not ahead of the other looks at nothing that the other writes. -/
def apartAll (ops : List Oper) (bef : List Nat) : Bool :=
  (ops.zipIdx.all fun (p, j) => ops.zipIdx.all fun (o, i) => !Nat.blt i j || (match o.dst, p.dst with | some d, some e => !Nat.beq d e | _, _ => true) && ((bef.getD j 0).testBit i || o.apart ops.toArray p)) &&
    (ops.zipIdx.all fun (p, j) => ops.zipIdx.all fun (o, i) => !Nat.ble i j || (match p.dst with | some d => !(o.looksAt ops.toArray).contains d | none => true)) &&
    ops.zipIdx.all fun (o, i) => o.after.all fun e => !Region.binds .any e || Nat.blt e.on i

/-- What an operation looks at is the answer of one that stands ahead of it, or stands from before. -/
def LookAt (ops : List Oper) (Φ : Nat → World → Value → Prop) (a0 : Act) (o : Oper) (ca : Act) (w : World) : Prop :=
  ∀ t ∈ o.looksAt ops.toArray, (∀ (j : Nat) (p : Oper), ops[j]? = some p → p.dst = some t → Φ j w (ca.tmps.getD t undef)) ∧ ((∀ (j : Nat) (p : Oper), ops[j]? = some p → p.dst ≠ some t) → ca.tmps.getD t undef = a0.tmps.getD t undef)

theorem apartAll_spec {ops : List Oper} (h : apartAll ops (masks ops []) = true) :
    (∀ i j o p, ops[i]? = some o → ops[j]? = some p → i < j → (∀ d, o.dst = some d → p.dst ≠ some d) ∧ (Ahead ops j i ∨ o.apart ops.toArray p = true)) ∧ (∀ (i j : Nat) (o p : Oper) (d : Tmp), ops[i]? = some o → ops[j]? = some p → i ≤ j → p.dst = some d → d ∉ o.looksAt ops.toArray) ∧ ∀ i o e, ops[i]? = some o → e ∈ o.after → Region.binds .any e = true → e.on < i := by
  unfold apartAll at h
  simp only [Bool.and_eq_true] at h
  obtain ⟨⟨h1, h0⟩, h2⟩ := h
  refine ⟨?_, ?_, ?_⟩
  · intro i j o p ho hp hlt
    have hm : (p, j) ∈ ops.zipIdx := by rw [List.mem_zipIdx_iff_getElem?]; exact hp
    have hm' : (o, i) ∈ ops.zipIdx := by rw [List.mem_zipIdx_iff_getElem?]; exact ho
    have h4 := List.all_eq_true.1 (List.all_eq_true.1 h1 _ hm) _ hm'
    simp only [Bool.or_eq_true, Bool.and_eq_true] at h4
    rcases h4 with h4 | ⟨h4, h5⟩
    · rw [blt_eq] at h4; simp at h4; omega
    · refine ⟨fun d hd he => ?_, ?_⟩
      · simp [hd, he] at h4
      · rcases h5 with h5 | h5
        · exact .inl (masks_spec ops ops [] (fun k o hk => by simpa using hk) (fun j i h => by simp at h) j i h5)
        · exact .inr h5
  · intro i j o p d ho hp hle hd
    have hm : (p, j) ∈ ops.zipIdx := by rw [List.mem_zipIdx_iff_getElem?]; exact hp
    have hm' : (o, i) ∈ ops.zipIdx := by rw [List.mem_zipIdx_iff_getElem?]; exact ho
    have h4 := List.all_eq_true.1 (List.all_eq_true.1 h0 _ hm) _ hm'
    have hbl : Nat.ble i j = true := Nat.ble_eq_true_of_le hle
    simpa [hbl, hd] using h4
  · intro i o e ho he hb
    have hm : (o, i) ∈ ops.zipIdx := by rw [List.mem_zipIdx_iff_getElem?]; exact ho
    have h3 := List.all_eq_true.1 h2 _ hm
    simp only [Array.all_eq_true_iff_forall_mem] at h3
    have h4 := h3 e he
    rw [hb, blt_eq] at h4
    simpa using h4

theorem draw_phi (hm : P.follows .mixedOrders = true) {id : Nat} {ops : List Oper} {Φ : Nat → World → Value → Prop} {a0 : Act} {w0 : World} {Q : Exit → Act → World → Prop}
    (hap : apartAll ops (masks ops []) = true) (hdst : ops.all (fun o => match o.dst with | some d => Nat.blt d a0.tmps.size | none => true) = true)
    (hstab : ∀ i w w' v, Below w.heap.size w w' → Φ i w v → Φ i w' v)
    (hop : ∀ i o ca w, ops[i]? = some o → Below w0.heap.size w0 w → LookAt ops Φ a0 o ca w → ∀ K : Act → World → Prop, (∀ v w', Below w.heap.size w w' → Φ i w' v → K (ca.put o.dst v) w') → wpOp P ops.toArray Q i K ca w)
    (hfin : ∀ ca w, Below w0.heap.size w0 w → ca.defers = a0.defers → ca.tmps.size = a0.tmps.size → (∀ (j : Nat) (p : Oper) d, ops[j]? = some p → p.dst = some d → Φ j w (ca.tmps.getD d undef)) → (∀ t, (∀ (j : Nat) (p : Oper), ops[j]? = some p → p.dst ≠ some t) → ca.tmps.getD t undef = a0.tmps.getD t undef) → Q .normal ca w) :
    (Code.region id ops.toArray true).wp P Q a0 w0 := by
  obtain ⟨hchk, hown, hedge⟩ := apartAll_spec hap
  refine wp_region_any hm ?_
  have key : ∀ (fuel : Nat) (listed : Array Bool) ca w, listed.size = ops.length → listed.toList.count false ≤ fuel → Below w0.heap.size w0 w → ca.defers = a0.defers → ca.tmps.size = a0.tmps.size → ClosedS ops (fun i => listed.getD i false) →
      (∀ (j : Nat) (p : Oper) d, ops[j]? = some p → p.dst = some d → listed.getD j false = true → Φ j w (ca.tmps.getD d undef)) → (∀ t, (∀ (j : Nat) (p : Oper), ops[j]? = some p → p.dst ≠ some t) → ca.tmps.getD t undef = a0.tmps.getD t undef) →
      wpAny P .any ops.toArray Q fuel listed ca w := by
    intro fuel
    induction fuel with
    | zero =>
      intro listed ca w hsz hcnt hb hd hs hcl hphi hoth
      have hall : ∀ i, i < ops.length → listed.getD i false = true := fun i hi => by
        have hi' : i < listed.size := by omega
        cases hv : listed[i] with
        | true => simp [hi', hv]
        | false =>
          have hmem : false ∈ listed.toList := by rw [List.mem_iff_getElem]; exact ⟨i, by simpa using hi', by simpa using hv⟩
          have := List.count_pos_iff.2 hmem
          omega
      refine ⟨?_, hfin ca w hb hd hs (fun j p d hp hpd => hphi j p d hp hpd (hall j (List.getElem?_eq_some_iff.1 hp).1)) hoth⟩
      apply List.eq_nil_iff_forall_not_mem.2
      intro i hi
      obtain ⟨h4, o, ho, _⟩ := mem_ready.1 hi
      have hlt : i < ops.length := by have := (Array.getElem?_eq_some_iff.1 ho).1; simpa using this
      have := hall i hlt
      have hi' : i < listed.size := by omega
      simp [hi'] at this h4
      rw [this] at h4; cases h4
    | succ fuel ih =>
      intro listed ca w hsz hcnt hb hd hs hcl hphi hoth
      constructor
      · intro hnone
        have hall : ∀ i, i < ops.length → listed.getD i false = true := by
          intro i
          induction i using Nat.strongRecOn with
          | _ i ihi =>
            intro hi
            have hi' : i < listed.size := by omega
            cases hv : listed[i] with
            | true => simp [hi', hv]
            | false =>
              exfalso
              have : i ∈ Region.ready .any ops.toArray listed := mem_ready.2 ⟨by simp [hi', hv], ops[i], by simp [hi], fun e he hb => by
                have hlt := hedge i ops[i] e (by simp [hi]) he hb
                exact ihi e.on hlt (by omega)⟩
              rw [hnone] at this; cases this
        exact hfin ca w hb hd hs (fun j p d hp hpd => hphi j p d hp hpd (hall j (List.getElem?_eq_some_iff.1 hp).1)) hoth
      · intro i hi
        obtain ⟨h4, o, ho', hall⟩ := mem_ready.1 hi
        have ho : ops[i]? = some o := by simpa using ho'
        have hlt : i < ops.length := (List.getElem?_eq_some_iff.1 ho).1
        have hi' : i < listed.size := by omega
        have h4' : listed.getD i false = false := by simp [hi'] at h4 ⊢; exact h4
        have hbehind : ∀ j, Ahead ops j i → listed.getD j false = false := fun j h => by
          cases hs2 : listed.getD j false with
          | false => rfl
          | true => have := h.mem hcl hs2; rw [h4'] at this; cases this
        have hahead : ∀ j, Ahead ops i j → listed.getD j false = true := fun j h => by
          cases h with
          | edge ho2 he hb2 => rw [ho] at ho2; cases ho2; exact hall _ he hb2
          | step ho2 he hb2 h2 => rw [ho] at ho2; cases ho2; exact h2.mem hcl (hall _ he hb2)
        have hlook : LookAt ops Φ a0 o ca w := fun t ht => by
          refine ⟨fun j p hp hpd => ?_, fun hno => hoth t hno⟩
          refine hphi j p t hp hpd ?_
          rcases Nat.lt_trichotomy j i with hji | hji | hji
          · rcases (hchk j i p o hp ho hji).2 with h | h
            · exact hahead j h
            · exact absurd ht ((Oper.apart_spec h).1 t hpd)
          · exact absurd ht (hown i j o p t ho hp (by omega) hpd)
          · exact absurd ht (hown i j o p t ho hp (by omega) hpd)
        refine hop i o ca w ho hb hlook _ fun v w' hb' hv => ?_
        refine ih _ _ _ (by simpa using hsz) (by have := count_set_true listed i h4; omega) (hb.trans (hb'.mono hb.size)) ?_ ?_ ?_ ?_ ?_
        · rw [← hd]; cases o.dst <;> rfl
        · rw [← hs]; cases o.dst <;> simp [Act.put]
        · intro j p e hj hp he hbd
          simp only at hj ⊢
          by_cases e1 : j = i
          · subst e1
            rw [ho] at hp; cases hp
            have := hall e he hbd
            by_cases e2 : e.on = j
            · simp [e2, hi']
            · have hne : ¬ j = e.on := fun h => e2 h.symm
              simpa [Array.getElem?_setIfInBounds, hne] using this
          · have hne : ¬ i = j := fun h => e1 h.symm
            have hj' : listed.getD j false = true := by simpa [Array.getElem?_setIfInBounds, hne] using hj
            have := hcl j p e hj' hp he hbd
            by_cases e2 : e.on = i
            · simp [e2, hi']
            · have hne2 : ¬ i = e.on := fun h => e2 h.symm
              simpa [Array.getElem?_setIfInBounds, hne2] using this
        · intro j p d hp hpd hj
          by_cases e1 : j = i
          · subst e1
            rw [ho] at hp; cases hp
            have hdlt : d < ca.tmps.size := by
              have := List.all_eq_true.1 hdst o (List.mem_of_getElem? ho)
              simp only [hpd, blt_eq] at this
              rw [hs]; simpa using this
            have : (ca.put o.dst v).tmps.getD d undef = v := by simp [Act.put, hpd, hdlt]
            rw [this]; exact hv
          · have hne : ¬ i = j := fun h => e1 h.symm
            have hj' : listed.getD j false = true := by simpa [Array.getElem?_setIfInBounds, hne] using hj
            have h0 := hphi j p d hp hpd hj'
            have hdd : o.dst ≠ some d := fun hod => by
              rcases Nat.lt_or_gt_of_ne e1 with h | h
              · exact (hchk j i p o hp ho h).1 d hpd hod
              · exact (hchk i j o p ho hp h).1 d hod hpd
            have : (ca.put o.dst v).tmps.getD d undef = ca.tmps.getD d undef := by
              cases hod : o.dst with
              | none => rfl
              | some d' =>
                have hne2 : ¬ d' = d := fun e => hdd (by rw [hod, e])
                simp [Act.put, Array.getElem?_setIfInBounds, hne2]
            rw [this]; exact hstab j w w' _ hb' h0
        · intro t hno
          have hod : o.dst ≠ some t := hno i o ho
          have : (ca.put o.dst v).tmps.getD t undef = ca.tmps.getD t undef := by
            cases hd2 : o.dst with
            | none => rfl
            | some d' =>
              have hne2 : ¬ d' = t := fun e => hod (by rw [hd2, e])
              simp [Act.put, Array.getElem?_setIfInBounds, hne2]
          rw [this]; exact hoth t hno
  refine key ops.toArray.size _ a0 _ (by simp) (by simp) (Below.refl _ _).drew rfl rfl (fun j o e hj => ?_) (fun j p d hp hpd hj => ?_) (fun t _ => rfl)
  · simp [Array.getElem?_replicate] at hj
    split at hj <;> simp at hj
  · simp [Array.getElem?_replicate] at hj
    split at hj <;> simp at hj

theorem wpOp_run {ops : Array Oper} {i : Nat} {o : Oper} {ca : Act} {w : World} {K : Act → World → Prop} {Q : Exit → Act → World → Prop} (ho : ops[i]? = some o) (hw : Region.wanted o (yielded ops ca.tmps) = true) (h : o.wp P ca w K Q) : wpOp P ops Q i K ca w := by
  unfold wpOp; simp only [ho, hw, if_true]; exact .inl h
theorem wpOp_skip {ops : Array Oper} {i : Nat} {o : Oper} {ca : Act} {w : World} {K : Act → World → Prop} {Q : Exit → Act → World → Prop} (ho : ops[i]? = some o) (hw : Region.wanted o (yielded ops ca.tmps) = false) (h : K (ca.put o.dst undef) w) : wpOp P ops Q i K ca w := by
  unfold wpOp; simp only [ho, hw, Bool.false_eq_true, if_false]; exact h
theorem wp_value {o : Oper} {ca : Act} {w w' : World} {v : Value} {K : Act → World → Prop} {Q : Exit → Act → World → Prop} (h : (execOp ca.eval o).run P w = .ok (.value v) w') (hk : K (ca.put o.dst v) w') : o.wp P ca w K Q := by
  unfold Oper.wp; rw [h]; exact hk
theorem wp_enter {o : Oper} {ca : Act} {w w' : World} {f : FuncId} {args : Array Value} {K : Act → World → Prop} {Q : Exit → Act → World → Prop} (h : (execOp ca.eval o).run P w = .ok (.enter f args) w') (hc : Calls P f args w' fun e w'' => ∃ v, e = .returned v ∧ K (ca.put o.dst v) w'') : o.wp P ca w K Q := by
  unfold Oper.wp; rw [h]; exact hc.mono fun e w'' ⟨v, he, hk⟩ => by subst he; exact hk
theorem yielded_at {ops : Array Oper} {j : Nat} {d : Tmp} {ca : Act} {b : Bool} (ho : (ops[j]?).bind (·.dst) = some d) (hv : ca.tmps.getD d undef = .bool b) : yielded ops ca.tmps j = some b := by
  unfold yielded
  rw [ho]
  cases h : ca.tmps[d]? with
  | none => simp [h, undef] at hv
  | some x =>
    have : x = .bool b := by simpa [h] using hv
    subst this; simp [h]
theorem look_of {ops : List Oper} {Φ : Nat → World → Value → Prop} {a0 ca : Act} {o p : Oper} {w : World} {j : Nat} {t : Tmp} (hl : LookAt ops Φ a0 o ca w) (ht : (o.looksAt ops.toArray).contains t = true) (hp : ops[j]? = some p) (hd : p.dst = some t) : Φ j w (ca.tmps.getD t undef) :=
  (hl t (by simpa using ht)).1 j p hp hd
theorem look_old {ops : List Oper} {Φ : Nat → World → Value → Prop} {a0 ca : Act} {o : Oper} {w : World} {t : Tmp} {v : Value} (hl : LookAt ops Φ a0 o ca w) (ht : (o.looksAt ops.toArray).contains t = true) (hno : ops.all (fun p => p.dst != some t) = true) (hv : a0.tmps.getD t undef = v) : ca.tmps.getD t undef = v := by
  rw [(hl t (by simpa using ht)).2 fun j p hp => ?_, hv]
  have := List.all_eq_true.1 hno p (List.mem_of_getElem? hp)
  simpa using this
theorem wanted_at {ops : Array Oper} {o : Oper} {j : Nat} {d : Tmp} {ca : Act} {b b' : Bool} (hg : o.guard = some (j, b')) (ho : (ops[j]?).bind (·.dst) = some d) (hv : ca.tmps.getD d undef = .bool b) : Region.wanted o (yielded ops ca.tmps) = (b == b') := by
  unfold Region.wanted
  rw [hg]
  simp [yielded_at ho hv]
theorem wpOp_run_g {ops : Array Oper} {i j : Nat} {d : Tmp} {b b' : Bool} {o : Oper} {ca : Act} {w : World} {K : Act → World → Prop} {Q : Exit → Act → World → Prop} (ho : ops[i]? = some o) (hg : o.guard = some (j, b')) (hd : (ops[j]?).bind (·.dst) = some d) (hv : ca.tmps.getD d undef = .bool b) (hbb : (b == b') = true) (h : o.wp P ca w K Q) : wpOp P ops Q i K ca w :=
  wpOp_run ho ((wanted_at hg hd hv).trans hbb) h
theorem wpOp_skip_g {ops : Array Oper} {i j : Nat} {d : Tmp} {b b' : Bool} {o : Oper} {ca : Act} {w : World} {K : Act → World → Prop} {Q : Exit → Act → World → Prop} (ho : ops[i]? = some o) (hg : o.guard = some (j, b')) (hd : (ops[j]?).bind (·.dst) = some d) (hv : ca.tmps.getD d undef = .bool b) (hbb : (b == b') = false) (h : K (ca.put o.dst undef) w) : wpOp P ops Q i K ca w :=
  wpOp_skip ho ((wanted_at hg hd hv).trans hbb) h
theorem eval_tmp {ca : Act} {t : Tmp} {v : Value} (h : ca.tmps.getD t undef = v) : ca.eval (.tmp t) = v := h
end Go.Am
