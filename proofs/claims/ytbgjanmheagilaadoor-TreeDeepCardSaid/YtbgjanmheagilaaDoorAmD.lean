/- The abstract evaluator: structs, arrays, slices, interfaces. Conditions: none. -/
import Derived.Test.YtbgjanmheagilaaDoorAmC
import Derived.Laws.Build
import Derived.Laws.Slices
namespace Go.Am
open Go Go.RowKit
set_option linter.unusedVariables false
set_option linter.unusedSimpArgs false
variable {μ : Type} {I : MemI μ} {P : Program} {lo : Lim} {w0 : Bs} {E : Env} {H : (Nat → Option Obj) → Prop}

/-- An answer that is worked out from the operands alone. -/
theorem Sim.val {v : Value} {c : Sem Value} (h : ∃ v', (∀ w, c.run P w = .ok v' w) ∧ VR E v v') : Sim P lo w0 E H (Pure.pure v : M I Value) c VR := by
  obtain ⟨v', h1, h2⟩ := h
  exact Sim.leaf fun E1 g w hE _ _ => ⟨v', h1 w, h2.mono hE⟩

/-! ### Interfaces -/
def mkIface (P : Program) (t : TypeId) (x : Value) : M I Value := match P.underlying t with
  | some (.interface _) => fail
  | some _ => pure (.iface t x)
  | none => fail
theorem sim_mkIface {t : TypeId} {x x' : Value} (h : VR E x x') : Sim P lo w0 E H (mkIface P t x : M I Value) (Instr.makeInterface t x') VR := by
  unfold mkIface
  split
  · exact Sim.fail
  · rename_i d hn hd
    refine Sim.val ⟨.iface t x', fun w => run_makeInterface w t x' ?_, .iface t h⟩
    unfold Program.concrete
    rw [hd]
    cases d <;> first | rfl | exact absurd rfl (hn _)
  · exact Sim.fail

def assertA (P : Program) (x : Value) (t : TypeId) (ok : Bool) : M I Value := match P.underlying t with
  | some (.interface _) => fail
  | none => fail
  | some _ => match x with
    | .iface t' v => bif Nat.beq t' t then pure (bif ok then .tuple #[v, .bool true] else v) else
      bif ok then match zeroOf P t with
        | some z => pure (.tuple #[z, .bool false])
        | none => fail
      else fail
    | .nilIface => bif ok then match zeroOf P t with
        | some z => pure (.tuple #[z, .bool false])
        | none => fail
      else fail
    | _ => fail
theorem VR.pair {a a' b b' : Value} (h : VR E a a') (k : VR E b b') : VR E (.tuple #[a, b]) (.tuple #[a', b']) :=
  .tuple rfl fun x y j hx hy => by
    rcases j with _ | _ | j
    · simp at hx hy; subst hx; subst hy; exact h
    · simp at hx hy; subst hx; subst hy; exact k
    · simp at hx
theorem run_assert_hit {t : TypeId} {d : TypeDesc} (hd : P.underlying t = some d) (hn : ∀ ms, d ≠ .interface ms) (v : Value) (xT : TypeId) (ok : Bool) (w : World) :
    (Instr.typeAssert (.iface t v) xT t ok).run P w = .ok (if ok then .tuple #[v, .bool true] else v) w := by
  cases d <;> first | exact absurd rfl (hn _) | (simp [Instr.typeAssert, run_underlying hd])
theorem run_assert_miss {t t' : TypeId} {d : TypeDesc} (hd : P.underlying t = some d) (hn : ∀ ms, d ≠ .interface ms) (ht : t' ≠ t) (v z : Value) (xT : TypeId) (w : World) (hz : (zeroValue t).run P w = .ok z w) :
    (Instr.typeAssert (.iface t' v) xT t true).run P w = .ok (.tuple #[z, .bool false]) w := by
  cases d <;> first | exact absurd rfl (hn _) | (simp [Instr.typeAssert, run_underlying hd, ht, hz])
theorem run_assert_nil {t : TypeId} {d : TypeDesc} (hd : P.underlying t = some d) (hn : ∀ ms, d ≠ .interface ms) (z : Value) (xT : TypeId) (w : World) (hz : (zeroValue t).run P w = .ok z w) :
    (Instr.typeAssert .nilIface xT t true).run P w = .ok (.tuple #[z, .bool false]) w := by
  cases d <;> first | exact absurd rfl (hn _) | (simp [Instr.typeAssert, run_underlying hd, hz])
theorem sim_assertA {x x' : Value} {xT t : TypeId} {ok : Bool} (h : VR E x x') : Sim P lo w0 E H (assertA P x t ok : M I Value) (Instr.typeAssert x' xT t ok) VR := by
  unfold assertA
  split
  · exact Sim.fail
  · exact Sim.fail
  · rename_i d hn hd
    cases h with
    | iface t' hv =>
      cases hb : Nat.beq t' t with
      | true =>
        simp only [hb, cond_true]
        have := Nat.eq_of_beq_eq_true hb
        subst this
        cases ok with
        | true => exact Sim.val ⟨_, fun w => (run_assert_hit hd hn _ _ true w).trans (by rw [if_pos rfl]), VR.pair hv (.bool true)⟩
        | false => exact Sim.val ⟨_, fun w => (run_assert_hit hd hn _ _ false w).trans (by rw [if_neg (by decide)]), hv⟩
      | false =>
        simp only [hb, cond_false]
        have hne : t' ≠ t := fun e => by subst e; simp at hb
        cases ok with
        | true =>
          simp only [cond_true]
          split
          · rename_i z hz
            exact Sim.val ⟨_, fun w => run_assert_miss hd hn hne _ _ _ w (zeroOf_run hz w).1, VR.pair (gnd_refl E 3 z (zeroOf_run hz default).2) (.bool false)⟩
          · exact Sim.fail
        | false => exact Sim.fail
    | nili =>
      cases ok with
      | true =>
        simp only [cond_true]
        split
        · rename_i z hz
          exact Sim.val ⟨_, fun w => run_assert_nil hd hn _ _ w (zeroOf_run hz w).1, VR.pair (gnd_refl E 3 z (zeroOf_run hz default).2) (.bool false)⟩
        · exact Sim.fail
      | false => exact Sim.fail
    | _ => exact Sim.fail

/-! ### Parts of aggregates -/
def partA (P : Program) (t : TypeId) (cs : Array Value) (off : Nat) : M I Value := match aggT P t with
  | some true => bif Nat.ble (off + P.cellsOf t) cs.size then pure (.agg ((cs.toList.drop off).take (P.cellsOf t)).toArray) else fail
  | some false => match cs[off]? with
    | some v => pure v
    | none => fail
  | none => fail
theorem extract_eq (cs : Array Value) (off n : Nat) : cs.extract off (off + n) = ((cs.toList.drop off).take n).toArray := by
  apply Array.toList_inj.1
  simp [List.take_drop, Nat.add_comm]
theorem sim_partA {t : TypeId} {cs cs' : Array Value} {off : Nat} (h : ARl E cs cs') : Sim P lo w0 E H (partA P t cs off : M I Value) (part t cs' off) VR := by
  unfold partA
  cases ha : aggT P t with
  | none => exact Sim.fail
  | some b =>
    obtain ⟨i, hi⟩ := aggT_info ha
    cases b with
    | true =>
      cases hb : Nat.ble (off + P.cellsOf t) cs.size with
      | false => simp only [hb]; exact Sim.fail
      | true =>
        simp only [hb]
        have hle := Nat.le_of_ble_eq_true hb
        refine Sim.val ⟨.agg ((cs'.toList.drop off).take (P.cellsOf t)).toArray, fun w => ?_, .agg ?_ fun a v j hj hv => ?_⟩
        · have hsz : (sizeOf t).run P w = .ok (P.cellsOf t) w := run_sizeOf w hi
          simp only [part, Sem.run_bind, aggT_run ha, Result.andThen_ok, if_true, hsz, Sem.run_pure, extract_eq]
        · simp; have := h.1; omega
        · simp only [List.getElem?_toArray, seg_getElem?] at hj hv
          split at hj
          · rw [if_pos (by assumption)] at hv; exact h.2 a v _ hj hv
          · cases hj
    | false =>
      cases hc : cs[off]? with
      | none => simp only [hc]; exact Sim.fail
      | some v =>
        simp only [hc]
        have ho : off < cs'.size := by have := (Array.getElem?_eq_some_iff.1 hc).1; have := h.1; omega
        refine Sim.val ⟨cs'[off], fun w => ?_, h.2 v _ off hc (by simp [ho])⟩
        simp [part, aggT_run ha, ho]

def fieldA (P : Program) (t : TypeId) (x : Value) (f : Nat) : M I Value := match P.underlying t with
  | some (.struct fs) => match fs[f]? with
    | some fd => match x with
      | .agg cs => partA P fd.type cs fd.offset
      | _ => fail
    | none => fail
  | _ => fail
theorem sim_fieldA {t : TypeId} {x x' : Value} {f : Nat} (h : VR E x x') : Sim P lo w0 E H (fieldA P t x f : M I Value) (Instr.field t x' f) VR := by
  unfold fieldA
  split
  · rename_i fs hu
    split
    · rename_i fd hf
      cases h with
      | agg h1 h2 =>
        refine Sim.eqrun (c := part fd.type _ fd.offset) (fun w => ?_) (sim_partA ⟨h1, h2⟩)
        simp [Instr.field, run_underlying hu, hf, asAgg]
      | _ => exact Sim.fail
    · exact Sim.fail
  · exact Sim.fail

def indexA (P : Program) (t : TypeId) (x i : Value) : M I Value := match P.underlying t, x, i with
  | some (.array n e), .agg cs, .int _ j => match P.info? e with
    | some ie => bif decide (0 ≤ j) && decide (j < n) then partA P e cs (j.toNat * ie.size) else fail
    | none => fail
  | _, _, _ => fail
theorem sim_indexA {t : TypeId} {x x' i i' : Value} (h : VR E x x') (hi : VR E i i') : Sim P lo w0 E H (indexA P t x i : M I Value) (Instr.index t x' i') VR := by
  unfold indexA
  split
  · rename_i n e cs k j hu
    cases hi
    cases h with
    | agg h1 h2 =>
      split
      · rename_i ie hie
        cases hb : (decide (0 ≤ j) && decide (j < n)) with
        | false => exact Sim.fail
        | true =>
          simp only [Bool.and_eq_true, decide_eq_true_eq] at hb
          refine Sim.eqrun (c := part e _ (j.toNat * ie.size)) (fun w => ?_) (sim_partA ⟨h1, h2⟩)
          simp [Instr.index, asIntOf, run_underlying hu, hb, sizeOf, typeInfo, hie]
      · exact Sim.fail
  · exact Sim.fail

/-! ### Addresses -/
def fieldAddrA (P : Program) (t : TypeId) (x : Value) (f : Nat) : M I Value := match P.underlying t, x with
  | some (.struct fs), .pointer (some ⟨k, o, none⟩) => match fs[f]? with
    | some fd => match P.info? fd.type with
      | some i => bif Nat.beq i.size 0 then fail else pure (.pointer (some ⟨k, o + fd.offset, none⟩))
      | none => fail
    | none => fail
  | _, _ => fail
theorem sim_fieldAddrA {t : TypeId} {x x' : Value} {f : Nat} (h : VR E x x') : Sim P lo w0 E H (fieldAddrA P t x f : M I Value) (Instr.fieldAt t x' f) VR := by
  unfold fieldAddrA
  split
  · rename_i fs k o hu
    cases h with
    | ptr hk =>
      split
      · rename_i fd hf
        split
        · rename_i i hi
          cases hb : Nat.beq i.size 0 with
          | true => exact Sim.fail
          | false =>
            have hne : i.size ≠ 0 := fun e => by simp [e] at hb
            refine Sim.val ⟨_, fun w => ?_, .ptr hk⟩
            simp only [Instr.fieldAt, Sem.run_bind, run_underlying hu, Result.andThen_ok, hf, Instr.sureAddr, Sem.run_pure, fieldPlace, sizeOf, typeInfo, run_program, hi, hne, if_false, add_lit0]
        · exact Sim.fail
      · exact Sim.fail
  · exact Sim.fail

def indexAddrA (P : Program) (t : TypeId) (x i : Value) : M I Value := match P.underlying t, x, i with
  | some (.slice e), .slice (some ⟨k, o, _⟩) n _, .int _ j => match P.info? e with
    | some ie => bif decide (0 ≤ j) && decide (j < n) then pure (.pointer (some ⟨k, o + j.toNat * ie.size, none⟩)) else fail
    | none => fail
  | some (.array n e), .pointer (some ⟨k, o, none⟩), .int _ j => match P.info? e with
    | some ie => bif decide (0 ≤ j) && decide (j < n) then pure (.pointer (some ⟨k, o + j.toNat * ie.size, none⟩)) else fail
    | none => fail
  | _, _, _ => fail
theorem sim_indexAddrA {t : TypeId} {x x' i i' : Value} (h : VR E x x') (hi : VR E i i') : Sim P lo w0 E H (indexAddrA P t x i : M I Value) (Instr.indexAt t x' i') VR := by
  unfold indexAddrA
  split
  · rename_i e k o sp n c kk j hu
    cases hi
    split
    · rename_i ie hie
      cases hb : (decide (0 ≤ j) && decide (j < n)) with
      | false => exact Sim.fail
      | true =>
        simp only [Bool.and_eq_true, decide_eq_true_eq] at hb
        cases h with
        | slice _ _ hk =>
          refine Sim.val ⟨_, fun w => ?_, .ptr hk⟩
          simp only [Instr.indexAt, Sem.run_bind, run_underlying hu, Result.andThen_ok, asIntOf, Sem.run_pure, hb, and_self, if_true, sizeOf, typeInfo, run_program, hie, add_lit0]
        | wide _ _ hk =>
          refine Sim.val ⟨_, fun w => ?_, .ptr hk⟩
          simp only [Instr.indexAt, Sem.run_bind, run_underlying hu, Result.andThen_ok, asIntOf, Sem.run_pure, hb, and_self, if_true, sizeOf, typeInfo, run_program, hie, add_lit0]
    · exact Sim.fail
  · rename_i n e k o kk j hu
    cases hi
    split
    · rename_i ie hie
      cases hb : (decide (0 ≤ j) && decide (j < n)) with
      | false => exact Sim.fail
      | true =>
        simp only [Bool.and_eq_true, decide_eq_true_eq] at hb
        cases h with
        | ptr hk =>
          refine Sim.val ⟨_, fun w => ?_, .ptr hk⟩
          simp only [Instr.indexAt, Sem.run_bind, run_underlying hu, Result.andThen_ok, asIntOf, Sem.run_pure, Instr.sureAddr, hb, and_self, if_true, sizeOf, typeInfo, run_program, hie, add_lit0]
    · exact Sim.fail
  · exact Sim.fail

/-! ### Slicing -/
def boundA (x : Option Value) (y d : Nat) : Option Nat := match x with
  | none => some d
  | some (.int _ i) => bif decide (0 ≤ i) && decide (i ≤ y) then some i.toNat else none
  | some _ => none
/-- low, high, max. -/
def boundsA (len cap : Nat) (l h m : Option Value) : Option (Nat × Nat × Nat) := match boundA m cap cap with
  | some mm => match boundA h mm len with
    | some hh => match boundA l hh 0 with
      | some ll => match m, h with
        | some _, none => none
        | _, _ => some (ll, hh, mm)
      | none => none
    | none => none
  | none => none
def OVR (E : Env) : Option Value → Option Value → Prop
  | none, none => True
  | some v, some v' => VR E v v'
  | _, _ => False
theorem boundA_run {v v' : Value} {y d n : Nat} (h : boundA (some v) y d = some n) (hv : VR E v v') (y' : Nat) (hy : y ≤ y') (code : BoundsCode) (w : World) : (Instr.sliceBound v' y' code).run P w = .ok n w := by
  cases hv <;> simp only [boundA] at h <;> first | (cases h; done) | skip
  rename_i k i
  cases hb : (decide (0 ≤ i) && decide (i ≤ y)) with
  | false => simp [hb] at h
  | true =>
    simp only [hb, cond_true, Option.some.injEq] at h
    simp only [Bool.and_eq_true, decide_eq_true_eq] at hb
    subst h
    have h1 : i ≤ y' := by omega
    simp [Instr.sliceBound, asIntOf, hb.1, h1]
theorem boundsA_run {len cap cap' : Nat} {l h m l' h' m' : Option Value} {a b c : Nat} (hb : boundsA len cap l h m = some (a, b, c)) (hl : OVR E l l') (hh : OVR E h h') (hm : OVR E m m') (hc : cap ≤ cap') (hx : m = none ∨ cap = cap') (is : Bool) (w : World) :
    (Instr.sliceBounds is len cap' l' h' m').run P w = .ok (a, b, if m.isSome then c else cap') w := by
  unfold boundsA at hb
  cases h1 : boundA m cap cap with
  | none => rw [h1] at hb; cases hb
  | some mm =>
    rw [h1] at hb
    simp only at hb
    cases h2 : boundA h mm len with
    | none => rw [h2] at hb; cases hb
    | some hh2 =>
      rw [h2] at hb
      simp only at hb
      cases h3 : boundA l hh2 0 with
      | none => rw [h3] at hb; cases hb
      | some ll =>
        rw [h3] at hb
        cases m with
        | some mv =>
          cases m' with
          | none => exact hm.elim
          | some mv' =>
            cases h with
            | none => cases hb
            | some hv =>
              cases h' with
              | none => exact hh.elim
              | some hv' =>
                simp only [Option.some.injEq, Prod.mk.injEq] at hb
                obtain ⟨rfl, rfl, rfl⟩ := hb
                obtain rfl := hx.resolve_left (by simp)
                have r1 := fun code => boundA_run (P := P) h1 hm cap (Nat.le_refl _) code w
                have r2 := fun code => boundA_run (P := P) h2 hh mm (Nat.le_refl _) code w
                cases l with
                | none =>
                  cases l' with
                  | some _ => exact hl.elim
                  | none =>
                    simp only [boundA, Option.some.injEq] at h3
                    subst h3
                    simp [Instr.sliceBounds, r1, r2]
                | some lv =>
                  cases l' with
                  | none => exact hl.elim
                  | some lv' =>
                    have r3 := fun code => boundA_run (P := P) h3 hl hh2 (Nat.le_refl _) code w
                    simp [Instr.sliceBounds, r1, r2, r3]
        | none =>
          cases m' with
          | some _ => exact hm.elim
          | none =>
            simp only [boundA, Option.some.injEq] at h1
            subst h1
            cases h with
            | none =>
              cases h' with
              | some _ => exact hh.elim
              | none =>
                simp only [boundA, Option.some.injEq] at h2
                subst h2
                simp only [Option.some.injEq, Prod.mk.injEq] at hb
                obtain ⟨rfl, rfl, rfl⟩ := hb
                cases l with
                | none =>
                  cases l' with
                  | some _ => exact hl.elim
                  | none =>
                    simp only [boundA, Option.some.injEq] at h3
                    subst h3
                    simp [Instr.sliceBounds]
                | some lv =>
                  cases l' with
                  | none => exact hl.elim
                  | some lv' =>
                    have r3 := fun code => boundA_run (P := P) h3 hl len (Nat.le_refl _) code w
                    simp [Instr.sliceBounds, r3]
            | some hv =>
              cases h' with
              | none => exact hh.elim
              | some hv' =>
                simp only [Option.some.injEq, Prod.mk.injEq] at hb
                obtain ⟨rfl, rfl, rfl⟩ := hb
                have r2 := fun code => boundA_run (P := P) h2 hh cap' hc code w
                cases l with
                | none =>
                  cases l' with
                  | some _ => exact hl.elim
                  | none =>
                    simp only [boundA, Option.some.injEq] at h3
                    subst h3
                    simp [Instr.sliceBounds, r2]
                | some lv =>
                  cases l' with
                  | none => exact hl.elim
                  | some lv' =>
                    have r3 := fun code => boundA_run (P := P) h3 hl hh2 (Nat.le_refl _) code w
                    simp [Instr.sliceBounds, r2, r3]

def sliceA (P : Program) (t : TypeId) (x : Value) (l h m : Option Value) : M I Value := match P.underlying t, x with
  | some (.slice e), .slice a n cap => match boundsA n cap l h m, P.info? e with
    | some (ll, hh, mm), some ie => match a with
      | none => pure (.slice none (hh - ll) (mm - ll))
      | some ⟨k, o, none⟩ => pure (.slice (some ⟨k, bif Nat.beq mm ll then o else o + ll * ie.size, none⟩) (hh - ll) (mm - ll))
      | some ⟨k, o, some 0⟩ => match m with
        | none => bif Nat.blt ll cap then pure (.slice (some ⟨k, o + ll * ie.size, some 0⟩) (hh - ll) (cap - ll)) else fail
        | some _ => fail
      | some _ => fail
    | _, _ => fail
  | some (.array n e), .pointer (some ⟨k, o, none⟩) => match boundsA n n l h m, P.info? e with
    | some (ll, hh, mm), some ie => pure (.slice (some ⟨k, bif Nat.beq mm ll then o else o + ll * ie.size, none⟩) (hh - ll) (mm - ll))
    | _, _ => fail
  | _, _ => fail

theorem boundsA_max {len cap : Nat} {l h m : Option Value} {a b c : Nat} (hb : boundsA len cap l h m = some (a, b, c)) : m = none → c = cap := by
  intro hm
  subst hm
  unfold boundsA at hb
  simp only [boundA] at hb
  split at hb
  · split at hb
    · simp at hb; exact hb.2.2.symm
    · cases hb
  · cases hb
theorem beq_ite (a b : Nat) {α : Type} (x y : α) : (bif Nat.beq a b then x else y) = if a = b then x else y := by
  cases h : Nat.beq a b with
  | true => have := Nat.eq_of_beq_eq_true h; simp [this]
  | false => rw [if_neg (fun e => by subst e; simp at h)]; rfl

theorem sim_sliceA {t : TypeId} {x x' : Value} {l h m l' h' m' : Option Value} (hx : VR E x x') (hl : OVR E l l') (hh : OVR E h h') (hm : OVR E m m') :
    Sim P lo w0 E H (sliceA P t x l h m : M I Value) (Instr.sliceAt t x' l' h' m') VR := by
  unfold sliceA
  split
  · rename_i e a n cap hu
    have hsl : ∀ (y : Value) (w : World), (Instr.sliceAt t y l' h' m').run P w = (Instr.slice t y l' h' m').run P w := fun y w => by simp [Instr.sliceAt, run_underlying hu]
    split
    · rename_i ll hh2 mm ie hb hie
      have hmm : (if m.isSome then mm else cap) = mm := by
        cases m with
        | none => simp [boundsA_max hb rfl]
        | some v => rfl
      cases hx with
      | nils =>
        refine Sim.val ⟨.slice none (hh2 - ll) (mm - ll), fun w => ?_, .nils _ _⟩
        have hr := boundsA_run (P := P) hb hl hh hm (Nat.le_refl _) (.inr rfl) true w
        rw [hmm] at hr
        rw [hsl]
        simp [Instr.slice, run_underlying hu, hr, sizeOf, typeInfo, hie]
      | slice _ _ hk =>
        simp only [beq_ite]
        refine Sim.val ⟨_, fun w => ?_, .slice _ _ hk⟩
        have hr := boundsA_run (P := P) hb hl hh hm (Nat.le_refl _) (.inr rfl) true w
        rw [hmm] at hr
        rw [hsl]
        by_cases e1 : mm = ll
        · simp [Instr.slice, run_underlying hu, hr, sizeOf, typeInfo, hie, e1]
        · simp [Instr.slice, run_underlying hu, hr, sizeOf, typeInfo, hie, e1, add_lit0]
      | wide _ _ hk =>
        cases m with
        | some _ => exact Sim.fail
        | none =>
          cases hbl : Nat.blt ll cap with
          | false => simp only [hbl]; exact Sim.fail
          | true =>
            simp only [hbl]
            have hlt : ll < cap := by simp [Nat.blt] at hbl; omega
            rename_i k o b r
            refine Sim.val ⟨.slice (some ⟨b, o + ll * ie.size, none⟩) (hh2 - ll) (cap - ll + r), fun w => ?_, .wide _ _ hk⟩
            have hr := boundsA_run (P := P) (cap' := cap + r) hb hl hh hm (by omega) (.inl rfl) true w
            simp only [Option.isSome_none, Bool.false_eq_true, if_false] at hr
            rw [hsl]
            have hne : ¬ (cap + r = ll) := by omega
            have heq : cap + r - ll = cap - ll + r := by omega
            simp [Instr.slice, run_underlying hu, hr, sizeOf, typeInfo, hie, hne, add_lit0, heq]
    · exact Sim.fail
  · rename_i n e k o hu
    split
    · rename_i ll hh2 mm ie hb hie
      have hmm : (if m.isSome then mm else n) = mm := by
        cases m with
        | none => simp [boundsA_max hb rfl]
        | some v => rfl
      cases hx with
      | ptr hk =>
        simp only [beq_ite]
        refine Sim.val ⟨_, fun w => ?_, .slice _ _ hk⟩
        have hr := boundsA_run (P := P) hb hl hh hm (Nat.le_refl _) (.inr rfl) false w
        rw [hmm] at hr
        by_cases e1 : mm = ll
        · simp [Instr.sliceAt, Instr.sureAddr, run_underlying hu, hr, sizeOf, typeInfo, hie, e1]
        · simp [Instr.sliceAt, Instr.sureAddr, run_underlying hu, hr, sizeOf, typeInfo, hie, e1, add_lit0]
    · exact Sim.fail
  · exact Sim.fail
end Go.Am
