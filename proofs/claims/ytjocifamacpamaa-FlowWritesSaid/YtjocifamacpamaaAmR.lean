/- A region that draws its order, one of whose operations spends what others have answered. Conditions: none. -/
import Derived.Test.YtjocifamacpamaaAmP
namespace Go.Am
open Go Go.RowKit
set_option linter.unusedVariables false
set_option linter.unusedSimpArgs false
variable {P : Program}
/-- What is spent at place z is looked at by none but z, and those ahead of it. -/
def spentOK (ops : List Oper) (bef : List Nat) (z : Nat) (sp : Nat → Bool) : Bool :=
  ops.zipIdx.all fun (p, j) => !sp j || ops.zipIdx.all fun (o, k) => (match p.dst with | some d => !(o.looksAt ops.toArray).contains d | none => true) || Nat.beq k z || (bef.getD z 0).testBit k
theorem spent_spec {ops : List Oper} {z : Nat} {sp : Nat → Bool} (h : spentOK ops (masks ops []) z sp = true) {i j : Nat} {o p : Oper} {t : Tmp} (hsj : sp j = true) (hp : ops[j]? = some p) (hpd : p.dst = some t) (ho : ops[i]? = some o) (ht : t ∈ o.looksAt ops.toArray) : i = z ∨ Ahead ops z i := by
  unfold spentOK at h
  have hm : (p, j) ∈ ops.zipIdx := by rw [List.mem_zipIdx_iff_getElem?]; exact hp
  have hm' : (o, i) ∈ ops.zipIdx := by rw [List.mem_zipIdx_iff_getElem?]; exact ho
  have h1 := List.all_eq_true.1 h _ hm
  simp only [hsj, Bool.not_true, Bool.false_or] at h1
  have h2 := List.all_eq_true.1 h1 _ hm'
  simp only [hpd, Bool.or_eq_true] at h2
  rcases h2 with (h2 | h2) | h2
  · have : (o.looksAt ops.toArray).contains t = true := by simpa using ht
    rw [this] at h2; cases h2
  · exact .inl (Nat.eq_of_beq_eq_true h2)
  · exact .inr (masks_spec ops ops [] (fun k o hk => by simpa using hk) (fun j i h => by simp at h) z i h2)
theorem draw_phi2 (hm : P.follows .mixedOrders = true) {id : Nat} {ops : List Oper} {Φ : Nat → World → Value → Prop} {a0 : Act} {w0 : World} {Q : Exit → Act → World → Prop}
    (hap : apartAll ops (masks ops []) = true) (hdst : ops.all (fun o => match o.dst with | some d => Nat.blt d a0.tmps.size | none => true) = true)
    (z : Nat) (sp : Nat → Bool) (hsp : spentOK ops (masks ops []) z sp = true) (hstab : ∀ i w w' v, Below w.heap.size w w' → Φ i w v → Φ i w' v)
    (hstab2 : ∀ i w w' v, i ≠ z → sp i = false → Below w0.heap.size w w' → Φ i w v → Φ i w' v)
    (hop : ∀ i o ca w, ops[i]? = some o → Below w0.heap.size w0 w → LookAt ops Φ a0 o ca w → ∀ K : Act → World → Prop, (∀ v w', (if i = z then Below w0.heap.size w w' else Below w.heap.size w w') → Φ i w' v → K (ca.put o.dst v) w') → wpOp P ops.toArray Q i K ca w)
    (hfin : ∀ ca w, Below w0.heap.size w0 w → ca.defers = a0.defers → ca.tmps.size = a0.tmps.size → (∀ (j : Nat) (p : Oper) d, ops[j]? = some p → p.dst = some d → sp j = false → Φ j w (ca.tmps.getD d undef)) → (∀ t, (∀ (j : Nat) (p : Oper), ops[j]? = some p → p.dst ≠ some t) → ca.tmps.getD t undef = a0.tmps.getD t undef) → Q .normal ca w) :
    (Code.region id ops.toArray true).wp P Q a0 w0 := by
  obtain ⟨hchk, hown, hedge⟩ := apartAll_spec hap
  refine wp_region_any hm ?_
  have key : ∀ (fuel : Nat) (listed : Array Bool) ca w, listed.size = ops.length → listed.toList.count false ≤ fuel → Below w0.heap.size w0 w → ca.defers = a0.defers → ca.tmps.size = a0.tmps.size → ClosedS ops (fun i => listed.getD i false) →
      (∀ (j : Nat) (p : Oper) d, ops[j]? = some p → p.dst = some d → listed.getD j false = true → (sp j = true → listed.getD z false = false) → Φ j w (ca.tmps.getD d undef)) → (∀ t, (∀ (j : Nat) (p : Oper), ops[j]? = some p → p.dst ≠ some t) → ca.tmps.getD t undef = a0.tmps.getD t undef) →
      wpAny P .any ops.toArray Q fuel listed ca w := by
    intro fuel
    induction fuel with
    | zero =>
      intro listed ca w hsz hcnt hb hd hs hcl hphi hoth
      have hall : ∀ i, i < ops.length → listed.getD i false = true := fun i hi => by
        have hi' : i < listed.size := by omega
        cases hv : listed[i] with
        | true => simp [hi', hv]
        | false =>
          have hmem : false ∈ listed.toList := by rw [List.mem_iff_getElem]; exact ⟨i, by simpa using hi', by simpa using hv⟩
          have := List.count_pos_iff.2 hmem
          omega
      refine ⟨?_, hfin ca w hb hd hs (fun j p d hp hpd hsj => hphi j p d hp hpd (hall j (List.getElem?_eq_some_iff.1 hp).1) (fun h => by rw [hsj] at h; cases h)) hoth⟩
      apply List.eq_nil_iff_forall_not_mem.2
      intro i hi
      obtain ⟨h4, o, ho, _⟩ := mem_ready.1 hi
      have hlt : i < ops.length := by have := (Array.getElem?_eq_some_iff.1 ho).1; simpa using this
      have := hall i hlt
      have hi' : i < listed.size := by omega
      simp [hi'] at this h4
      rw [this] at h4; cases h4
    | succ fuel ih =>
      intro listed ca w hsz hcnt hb hd hs hcl hphi hoth
      constructor
      · intro hnone
        have hall : ∀ i, i < ops.length → listed.getD i false = true := by
          intro i
          induction i using Nat.strongRecOn with
          | _ i ihi =>
            intro hi
            have hi' : i < listed.size := by omega
            cases hv : listed[i] with
            | true => simp [hi', hv]
            | false =>
              exfalso
              have : i ∈ Region.ready .any ops.toArray listed := mem_ready.2 ⟨by simp [hi', hv], ops[i], by simp [hi], fun e he hb => by
                have hlt := hedge i ops[i] e (by simp [hi]) he hb
                exact ihi e.on hlt (by omega)⟩
              rw [hnone] at this; cases this
        exact hfin ca w hb hd hs (fun j p d hp hpd hsj => hphi j p d hp hpd (hall j (List.getElem?_eq_some_iff.1 hp).1) (fun h => by rw [hsj] at h; cases h)) hoth
      · intro i hi
        obtain ⟨h4, o, ho', hall⟩ := mem_ready.1 hi
        have ho : ops[i]? = some o := by simpa using ho'
        have hlt : i < ops.length := (List.getElem?_eq_some_iff.1 ho).1
        have hi' : i < listed.size := by omega
        have h4' : listed.getD i false = false := by simp [hi'] at h4 ⊢; exact h4
        have hbehind : ∀ j, Ahead ops j i → listed.getD j false = false := fun j h => by
          cases hs2 : listed.getD j false with
          | false => rfl
          | true => have := h.mem hcl hs2; rw [h4'] at this; cases this
        have hahead : ∀ j, Ahead ops i j → listed.getD j false = true := fun j h => by
          cases h with
          | edge ho2 he hb2 => rw [ho] at ho2; cases ho2; exact hall _ he hb2
          | step ho2 he hb2 h2 => rw [ho] at ho2; cases ho2; exact h2.mem hcl (hall _ he hb2)
        have hlook : LookAt ops Φ a0 o ca w := fun t ht => by
          refine ⟨fun j p hp hpd => ?_, fun hno => hoth t hno⟩
          refine hphi j p t hp hpd ?_ (fun hsj => ?_)
          rotate_left
          · rcases spent_spec hsp hsj hp hpd ho ht with h | h
            · subst h; exact h4'
            · cases hls : listed.getD z false with
              | false => rfl
              | true => have := h.mem hcl hls; rw [h4'] at this; cases this
          rcases Nat.lt_trichotomy j i with hji | hji | hji
          · rcases (hchk j i p o hp ho hji).2 with h | h
            · exact hahead j h
            · exact absurd ht ((Oper.apart_spec h).1 t hpd)
          · exact absurd ht (hown i j o p t ho hp (by omega) hpd)
          · exact absurd ht (hown i j o p t ho hp (by omega) hpd)
        refine hop i o ca w ho hb hlook _ fun v w' hb'' hv => ?_
        have hb0' : Below w0.heap.size w w' := by
          split at hb''
          · exact hb''
          · exact hb''.mono hb.size
        refine ih _ _ _ (by simpa using hsz) (by have := count_set_true listed i h4; omega) (hb.trans hb0') ?_ ?_ ?_ ?_ ?_
        · rw [← hd]; cases o.dst <;> rfl
        · rw [← hs]; cases o.dst <;> simp [Act.put]
        · intro j p e hj hp he hbd
          simp only at hj ⊢
          by_cases e1 : j = i
          · subst e1
            rw [ho] at hp; cases hp
            have := hall e he hbd
            by_cases e2 : e.on = j
            · simp [e2, hi']
            · have hne : ¬ j = e.on := fun h => e2 h.symm
              simpa [Array.getElem?_setIfInBounds, hne] using this
          · have hne : ¬ i = j := fun h => e1 h.symm
            have hj' : listed.getD j false = true := by simpa [Array.getElem?_setIfInBounds, hne] using hj
            have := hcl j p e hj' hp he hbd
            by_cases e2 : e.on = i
            · simp [e2, hi']
            · have hne2 : ¬ i = e.on := fun h => e2 h.symm
              simpa [Array.getElem?_setIfInBounds, hne2] using this
        · intro j p d hp hpd hj hspz
          by_cases e1 : j = i
          · subst e1
            rw [ho] at hp; cases hp
            have hdlt : d < ca.tmps.size := by
              have := List.all_eq_true.1 hdst o (List.mem_of_getElem? ho)
              simp only [hpd, blt_eq] at this
              rw [hs]; simpa using this
            have : (ca.put o.dst v).tmps.getD d undef = v := by simp [Act.put, hpd, hdlt]
            rw [this]; exact hv
          · have hne : ¬ i = j := fun h => e1 h.symm
            have hj' : listed.getD j false = true := by simpa [Array.getElem?_setIfInBounds, hne] using hj
            have hz : sp j = true → z ≠ i ∧ listed.getD z false = false := fun h => by
              have h1 := hspz h
              by_cases e3 : i = z
              · subst e3; simp [hi'] at h1
              · exact ⟨fun e => e3 e.symm, by simpa [Array.getElem?_setIfInBounds, e3] using h1⟩
            have h0 := hphi j p d hp hpd hj' fun h => (hz h).2
            have hdd : o.dst ≠ some d := fun hod => by
              rcases Nat.lt_or_gt_of_ne e1 with h | h
              · exact (hchk j i p o hp ho h).1 d hpd hod
              · exact (hchk i j o p ho hp h).1 d hod hpd
            have : (ca.put o.dst v).tmps.getD d undef = ca.tmps.getD d undef := by
              cases hod : o.dst with
              | none => rfl
              | some d' =>
                have hne2 : ¬ d' = d := fun e => hdd (by rw [hod, e])
                simp [Act.put, Array.getElem?_setIfInBounds, hne2]
            rw [this]
            by_cases e3 : i = z
            · rw [if_pos e3] at hb''
              refine hstab2 j w w' _ (fun e => e1 (e.trans e3.symm)) ?_ hb'' h0
              cases h : sp j with
              | false => rfl
              | true => exact absurd e3.symm (hz h).1
            · rw [if_neg e3] at hb''
              exact hstab j w w' _ hb'' h0
        · intro t hno
          have hod : o.dst ≠ some t := hno i o ho
          have : (ca.put o.dst v).tmps.getD t undef = ca.tmps.getD t undef := by
            cases hd2 : o.dst with
            | none => rfl
            | some d' =>
              have hne2 : ¬ d' = t := fun e => hod (by rw [hd2, e])
              simp [Act.put, Array.getElem?_setIfInBounds, hne2]
          rw [this]; exact hoth t hno
  refine key ops.toArray.size _ a0 _ (by simp) (by simp) (Below.refl _ _).drew rfl rfl (fun j o e hj => ?_) (fun j p d hp hpd hj _ => ?_) (fun t _ => rfl)
  · simp [Array.getElem?_replicate] at hj
    split at hj <;> simp at hj
  · simp [Array.getElem?_replicate] at hj
    split at hj <;> simp at hj

end Go.Am
