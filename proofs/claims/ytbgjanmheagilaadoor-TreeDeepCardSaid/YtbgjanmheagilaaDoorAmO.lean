/- The abstract evaluator: a region that draws its order and whose last operation stands behind all the others. Conditions: none. -/
import Derived.Test.YtbgjanmheagilaaDoorAmM
namespace Go.Am
open Go Go.RowKit
set_option linter.unusedVariables false
set_option linter.unusedSimpArgs false
variable {μ : Type} {I : MemI μ} {P : Program} {lo : Lim} {w0 : Bs} {X : Hk} {self : Self I} {ops : Array Oper}

theorem wp_exits {o : Oper} {a : Act} {w : World} {K : Act → World → Prop} {Q Q1 : Exit → Act → World → Prop} (hp : ∀ c a w, Q1 (.panic c) a w → Q (.panic c) a w) (hl : LetsOut Q1 → LetsOut Q) (h : o.wp P a w K Q1) : o.wp P a w K Q := by
  unfold Oper.wp at *
  generalize (execOp a.eval o).run P w = r at *
  cases r with
  | ok n w' =>
    cases n <;> simp only [Oper.upon] at h ⊢ <;>
      first
        | exact h
        | exact Calls.mono h (fun e w'' he => by cases e <;> first | exact he | exact hp _ _ _ he | exact hl he)
  | halt x w' => cases x <;> simp only [Oper.upon] at h ⊢ <;> first | exact h | exact hp _ _ _ h
theorem any_done {Q : Exit → Act → World → Prop} {listed : Array Bool} {a : Act} {w : World} (h : Region.ready .any ops listed = []) (hQ : Q .normal a w) : ∀ fuel, wpAny P .any ops Q fuel listed a w
  | 0 => ⟨h, hQ⟩
  | fuel + 1 => ⟨fun _ => hQ, fun i hi => by rw [h] at hi; cases hi⟩
/-- What the others hand on to the last. -/
def Last (P : Program) (ops : Array Oper) (p : Oper) (Q : Exit → Act → World → Prop) : Exit → Act → World → Prop
  | .normal, a, w => wpList P ops Q [p] a w
  | e, a, w => Q e a w
theorem any_last {pre : Array Oper} {p : Oper} {Q : Exit → Act → World → Prop} (hpre : ∀ i o, pre[i]? = some o → (∀ e ∈ o.after, Region.binds .any e = true → e.on < i) ∧ ∀ j b, o.guard = some (j, b) → j < pre.size)
    (hp : ∀ e ∈ p.after, Region.binds .any e = true → e.on < pre.size) (hlast : ∀ i, i < pre.size → Ahead (pre.push p).toList pre.size i) :
    ∀ (fuel : Nat) (l : Array Bool) (a : Act) (w : World), l.size = pre.size → ClosedS pre.toList (fun i => l.getD i false) → wpAny P .any pre (Last P (pre.push p) p Q) fuel l a w → wpAny P .any (pre.push p) Q (fuel + 1) (l.push false) a w := by
  intro fuel
  have getlt : ∀ (l : Array Bool) (d : Bool) i, i < l.size → (l.push false).getD i d = l.getD i d := fun l d i hi => by
    simp [Array.getD_eq_getD_getElem?, Array.getElem?_push, Nat.ne_of_lt hi]
  have getn : ∀ (l : Array Bool), (l.push false).getD l.size true = false := fun l => by
    simp [Array.getD_eq_getD_getElem?]
  have opslt : ∀ i, i < pre.size → (pre.push p)[i]? = pre[i]? := fun i hi => by simp [Array.getElem?_push, Nat.ne_of_lt hi]
  have opsn : (pre.push p)[pre.size]? = some p := by simp
  -- ready here, ready there
  have rdy : ∀ (l : Array Bool), l.size = pre.size → ∀ i, i < pre.size → (i ∈ Region.ready .any (pre.push p) (l.push false) ↔ i ∈ Region.ready .any pre l) := fun l hl i hi => by
    rw [mem_ready, mem_ready, opslt i hi, getlt l true i (by omega)]
    constructor
    · rintro ⟨h1, o, h2, h3⟩
      refine ⟨h1, o, h2, fun e he hb => ?_⟩
      have := (hpre i o h2).1 e he hb
      rw [← getlt l false e.on (by omega)]; exact h3 e he hb
    · rintro ⟨h1, o, h2, h3⟩
      refine ⟨h1, o, h2, fun e he hb => ?_⟩
      have := (hpre i o h2).1 e he hb
      rw [getlt l false e.on (by omega)]; exact h3 e he hb
  have inlt : ∀ (l : Array Bool), l.size = pre.size → ∀ i, i ∈ Region.ready .any (pre.push p) (l.push false) → i < pre.size ∨ i = pre.size := fun l hl i hi => by
    obtain ⟨_, o, ho, _⟩ := mem_ready.1 hi
    have := (Array.getElem?_eq_some_iff.1 ho).1
    simp at this; omega
  -- the last is ready when all is done
  have full : ∀ (l : Array Bool), l.size = pre.size → ClosedS pre.toList (fun i => l.getD i false) → pre.size ∈ Region.ready .any (pre.push p) (l.push false) → ∀ i, i < pre.size → l.getD i false = true := fun l hl hc hn i hi => by
    obtain ⟨_, o, ho, hall⟩ := mem_ready.1 hn
    rw [opsn] at ho; cases ho
    have hc2 : ClosedS (pre.push p).toList (fun i => decide (i < pre.size) && l.getD i false) := fun j o e hj ho he hb => by
      simp only [Bool.and_eq_true, decide_eq_true_eq] at hj
      have ho' : pre[j]? = some o := by
        have : (pre.push p)[j]? = some o := by rw [← ho]; simp only [Array.getElem?_toList]
        rw [opslt j hj.1] at this; exact this
      have h1 := (hpre j o ho').1 e he hb
      simp only [Bool.and_eq_true, decide_eq_true_eq]
      exact ⟨by omega, hc j o e hj.2 (by simpa using ho') he hb⟩
    have hS : ∀ e ∈ p.after, Region.binds .any e = true → (decide (e.on < pre.size) && l.getD e.on false) = true := fun e he hb => by
      have h1 := hp e he hb
      have h2 := hall e he hb
      rw [getlt l false e.on (by omega)] at h2
      simp [h1, h2]
    have hA := hlast i hi
    have key : (decide (i < pre.size) && l.getD i false) = true := by
      cases hA with
      | edge ho he hb =>
        have ho' := ho; rw [Array.getElem?_toList] at ho'
        rw [opsn] at ho'; cases ho'
        exact hS _ he hb
      | step ho he hb h2 =>
        have ho' := ho; rw [Array.getElem?_toList] at ho'
        rw [opsn] at ho'; cases ho'
        exact h2.mem hc2 (hS _ he hb)
    simp only [Bool.and_eq_true, decide_eq_true_eq] at key
    exact key.2
  have none : ∀ (l : Array Bool), (∀ i, i < pre.size → l.getD i false = true) → l.size = pre.size → Region.ready .any pre l = [] := fun l hl hsz => by
    apply List.eq_nil_iff_forall_not_mem.2
    intro i hi
    obtain ⟨h1, o, ho, _⟩ := mem_ready.1 hi
    have hlt := (Array.getElem?_eq_some_iff.1 ho).1
    have := hl i hlt
    have hi' : i < l.size := by omega
    simp [Array.getD_eq_getD_getElem?, hi'] at this h1
    rw [this] at h1; cases h1
  -- the last one's turn
  have fin : ∀ (fuel : Nat) (l : Array Bool) (a : Act) (w : World), l.size = pre.size → (∀ i, i < pre.size → l.getD i false = true) → wpList P (pre.push p) Q [p] a w → wpOp P (pre.push p) Q pre.size (wpAny P .any (pre.push p) Q fuel ((l.push false).setIfInBounds pre.size true)) a w := fun fuel l a w hl hall h => by
    have hr : Region.ready .any (pre.push p) ((l.push false).setIfInBounds pre.size true) = [] := by
      apply List.eq_nil_iff_forall_not_mem.2
      intro i hi
      obtain ⟨h1, o, ho, _⟩ := mem_ready.1 hi
      have hlt := (Array.getElem?_eq_some_iff.1 ho).1
      simp at hlt
      by_cases e : i = pre.size
      · subst e
        simp [Array.getD_eq_getD_getElem?, hl] at h1
      · have h2 := hall i (by omega)
        have hi' : i < l.size := by omega
        have e' : ¬ pre.size = i := fun h => e h.symm
        have e2 : ¬ i = l.size := by omega
        simp [Array.getD_eq_getD_getElem?, Array.getElem?_setIfInBounds, Array.getElem?_push, e', e2, hi'] at h1 h2
        rw [h2] at h1; cases h1
    unfold wpList at h
    unfold wpOp
    simp only [opsn]
    split
    · rename_i hw
      rw [if_pos hw] at h
      exact h.imp (Oper.wp_mono fun a w h => any_done hr h fuel) id
    · rename_i hw
      rw [if_neg hw] at h
      exact any_done hr h fuel
  have some_ready : ∀ (l : Array Bool), l.size = pre.size → Region.ready .any (pre.push p) (l.push false) = [] → False := fun l hl h => by
    have hall : ∀ i, i < pre.size → l.getD i false = true := by
      intro i
      induction i using Nat.strongRecOn with
      | _ i ihi =>
        intro hi
        have hi' : i < l.size := by omega
        cases hv : l[i] with
        | true => simp [Array.getD_eq_getD_getElem?, hi', hv]
        | false =>
          exfalso
          have : i ∈ Region.ready .any pre l := mem_ready.2 ⟨by simp [Array.getD_eq_getD_getElem?, hi', hv], pre[i], by simp [hi], fun e he hb => by
            have hlt := (hpre i pre[i] (by simp [hi])).1 e he hb
            exact ihi e.on hlt (by omega)⟩
          rw [← rdy l hl i hi, h] at this; cases this
    have : pre.size ∈ Region.ready .any (pre.push p) (l.push false) := mem_ready.2 ⟨by rw [← hl]; exact getn l, p, opsn, fun e he hb => by
      have := hp e he hb
      rw [getlt l false e.on (by omega)]; exact hall e.on this⟩
    rw [h] at this; cases this
  induction fuel with
  | zero =>
    intro l a w hl hc h
    refine ⟨fun hn => (some_ready l hl hn).elim, fun i hi => ?_⟩
    rcases inlt l hl i hi with hlt | rfl
    · have := (rdy l hl i hlt).1 hi
      rw [h.1] at this; cases this
    · exact fin 0 l a w hl (full l hl hc hi) h.2
  | succ fuel ih =>
    intro l a w hl hc h
    refine ⟨fun hn => (some_ready l hl hn).elim, fun i hi => ?_⟩
    rcases inlt l hl i hi with hlt | rfl
    · have hi2 := (rdy l hl i hlt).1 hi
      have h2 := h.2 i hi2
      obtain ⟨q1, o, ho, hedges⟩ := mem_ready.1 hi2
      have hil : i < l.size := by omega
      have hset : (l.push false).setIfInBounds i true = (l.setIfInBounds i true).push false := by
        apply Array.ext_getElem?
        intro k
        by_cases hk : k = i
        · subst hk
          have e1 : ¬ k = l.size := by omega
          have hR : ((l.setIfInBounds k true).push false)[k]? = some true := by
            rw [Array.getElem?_push, if_neg (by rw [Array.size_setIfInBounds]; exact e1)]
            simp [hil]
          have hL : ((l.push false).setIfInBounds k true)[k]? = some true := by
            have h9 : k < (l.push false).size := by rw [Array.size_push]; omega
            rw [Array.getElem?_setIfInBounds, if_pos rfl, if_pos h9]
          rw [hR, hL]
        · have hk' : ¬ i = k := fun h => hk h.symm
          simp [Array.getElem?_setIfInBounds, Array.getElem?_push, hk']
      have hcl : ClosedS pre.toList (fun j => (l.setIfInBounds i true).getD j false) := fun j o' e hj ho' he hb => by
        have hget : ∀ k, (l.setIfInBounds i true).getD k false = (l.getD k false || decide (k = i)) := fun k => by
          by_cases hk : k = i
          · subst hk; simp [Array.getD_eq_getD_getElem?, hil]
          · have hk' : ¬ i = k := fun h => hk h.symm
            simp [Array.getD_eq_getD_getElem?, Array.getElem?_setIfInBounds, hk, hk']
        simp only at hj ⊢
        rw [hget] at hj ⊢
        rw [Bool.or_eq_true, decide_eq_true_eq] at hj
        rcases hj with hj | hj
        · have h5 : l.getD e.on false = true := hc j o' e hj ho' he hb
          rw [h5]; rfl
        · subst hj
          have : pre[j]? = some o' := by simpa using ho'
          rw [ho] at this; cases this
          rw [hedges e he hb]; rfl
      rw [hset]
      unfold wpOp at h2 ⊢
      rw [opslt i hlt]
      simp only [ho] at h2 ⊢
      have hwant : Region.wanted o (yielded (pre.push p) a.tmps) = Region.wanted o (yielded pre a.tmps) := by
        unfold Region.wanted
        cases hg : o.guard with
        | none => rfl
        | some jw =>
          obtain ⟨j, b⟩ := jw
          have hj := (hpre i o ho).2 j b hg
          simp only
          have : yielded (pre.push p) a.tmps j = yielded pre a.tmps j := by
            unfold yielded
            rw [opslt j hj]
          rw [this]
      rw [hwant]
      split
      · rename_i hw
        rw [if_pos hw] at h2
        rcases h2 with h2 | h2
        · exact .inl (wp_exits (fun c a w h => h) (fun h => h) (Oper.wp_mono (fun a w h => ih _ a w (by simpa using hl) hcl h) h2))
        · exact .inr h2
      · rename_i hw
        rw [if_neg hw] at h2
        exact ih _ _ w (by simpa using hl) hcl h2
    · have hall := full l hl hc hi
      exact fin (fuel + 1) l a w hl hall (h.1 (none l hall hl))

theorem lastP_spec {p : Oper} (h : lastP ops = some p) : ops = ops.pop.push p ∧ (∀ i o, ops.pop[i]? = some o → (∀ e ∈ o.after, Region.binds .any e = true → e.on < i) ∧ ∀ j b, o.guard = some (j, b) → j < ops.pop.size) ∧
    (∀ e ∈ p.after, Region.binds .any e = true → e.on < ops.pop.size) ∧ ∀ i, i < ops.pop.size → Ahead ops.toList ops.pop.size i := by
  unfold lastP at h
  cases hb : ops.back? with
  | none => rw [hb] at h; cases h
  | some p' =>
    rw [hb] at h
    simp only at h
    · cases hk : ((ops.toList.zipIdx.all fun (o, i) => backOK ops.pop.size i o) && ((List.range ops.pop.size).all fun i => ((masks ops.toList []).getD ops.pop.size 0).testBit i)) with
      | false => rw [hk] at h; cases h
      | true =>
        rw [hk] at h
        cases h
        simp only [Bool.and_eq_true] at hk
        have hne : ops ≠ #[] := by rintro rfl; simp at hb
        have hsz : 0 < ops.size := Array.size_pos_iff.2 hne
        have heq : ops = ops.pop.push p := by
          have hpb : p = ops.back hsz := by
            rw [Array.back?_eq_getElem?] at hb
            have h1 : ops.size - 1 < ops.size := by omega
            rw [Array.getElem?_eq_getElem h1] at hb
            cases hb; rfl
          rw [hpb]
          apply Array.ext_getElem?
          intro k
          rw [Array.getElem?_push, Array.getElem?_pop]
          simp only [Array.size_pop]
          by_cases hk2 : k = ops.size - 1
          · subst hk2; rw [if_pos rfl, Array.getElem?_eq_getElem (by omega)]; rfl
          · rw [if_neg hk2]
            by_cases hk3 : k < ops.size - 1
            · rw [if_pos hk3]
            · rw [if_neg hk3, Array.getElem?_eq_none (by omega)]
        have hbk : ∀ i o, ops[i]? = some o → backOK ops.pop.size i o = true := fun i o ho => by
          have hm : (o, i) ∈ ops.toList.zipIdx := by rw [List.mem_zipIdx_iff_getElem?]; simpa using ho
          exact List.all_eq_true.1 hk.1 _ hm
        have hspec : ∀ i o, ops[i]? = some o → (∀ e ∈ o.after, Region.binds .any e = true → e.on < i) ∧ ∀ j b, o.guard = some (j, b) → j < ops.pop.size := fun i o ho => by
          have h1 := hbk i o ho
          unfold backOK at h1
          simp only [Bool.and_eq_true, Array.all_eq_true_iff_forall_mem] at h1
          refine ⟨fun e he hbd => ?_, fun j b hg => ?_⟩
          · have := h1.1 e he
            rw [hbd, blt_eq] at this
            simpa using this
          · have := h1.2
            rw [hg] at this
            simp only [blt_eq, decide_eq_true_eq] at this
            exact this
        refine ⟨heq, fun i o ho => hspec i o ?_, (hspec ops.pop.size p ?_).1, fun i hi => ?_⟩
        · rw [heq, Array.getElem?_push]
          have := (Array.getElem?_eq_some_iff.1 ho).1
          rw [if_neg (by omega)]
          exact ho
        · have h5 : (ops.pop.push p)[ops.pop.size]? = some p := Array.getElem?_push_size
          rw [← heq] at h5; exact h5
        · exact masks_spec ops.toList ops.toList [] (fun k o hk => by simpa using hk) (fun j i h => by simp at h) _ i (List.all_eq_true.1 hk.2 i (List.mem_range.2 hi))

theorem drawL_ok {H : Plain P X} (hc : CallOK P lo w0 self.call) (a : AAct) : CodeP P lo w0 (drawL P X lo self ops a) a (fun Q ca w => wpAny P .any ops Q ops.size (Array.replicate ops.size false) ca w) := by
  intro s e a' s' hr E g w ca Q hR hA hF ha hQ
  unfold drawL at hr
  cases hl : lastP ops with
  | none => rw [hl] at hr; exact draw_ok (H := H) hc a s e a' s' hr E g w ca Q hR hA hF ha hQ
  | some p =>
    rw [hl] at hr
    obtain ⟨heq, h1, h2, h3⟩ := lastP_spec hl
    obtain ⟨r, s1, q1, q2⟩ := bind_run hr
    have hle2 : St.Le I s1 s' := M.le _ _ _ _ q2
    obtain ⟨e1, a1⟩ := r
    have hsz : ops.size = ops.pop.size + 1 := by
      have := congrArg Array.size heq
      simpa using this
    have main : wpAny P .any ops.pop (Last P ops p Q) ops.pop.size (Array.replicate ops.pop.size false) ca w := by
      refine draw_ok (H := H) hc a s e1 a1 s1 q1 E g w ca _ hR (hA.first hle2) (hF.first hle2.next) ha fun E' ce ca' w' hx he ha' hR' => ?_
      obtain ⟨hA1, hF1, hX1, hm1⟩ := chain q1 hle2 hA hF hx
      cases e1 with
      | normal =>
        cases ce <;> first | exact he.elim | skip
        exact opsSeq_ok H hc [p] a1 s1 e a' s' q2 E' _ w' ca' Q hR' hA1 hF1 ha' fun E2 ce2 ca2 w2 hx2 he2 ha2 hR2 => hQ E2 ce2 ca2 w2 (hX1 E2 hx2) he2 ha2 (by rw [hm1] at hR2; exact hR2)
      | _ =>
        obtain ⟨h4, rfl⟩ := pure_run q2
        cases h4
        have := hQ E' ce ca' w' hx he ha' hR'
        cases ce <;> first | exact he.elim | exact this
    have key := any_last (P := P) (Q := Q) h1 h2 (fun i hi => by rw [← heq]; exact h3 i hi) ops.pop.size (Array.replicate ops.pop.size false) ca w (by simp) (fun j o e hj => by
      simp [Array.getElem?_replicate] at hj
      split at hj <;> simp at hj) (by rw [← heq]; exact main)
    rw [← heq] at key
    have hrep : (Array.replicate ops.pop.size false).push false = Array.replicate ops.size false := by
      rw [hsz]; exact Array.replicate_succ.symm
    rw [hrep, ← hsz] at key
    exact key
end Go.Am
