/- The abstract evaluator: append, copy. Conditions: none. -/
import Derived.Test.YtjchnliaglecoaaGreatDoorAmEX
import Derived.Laws.BytesString
import Derived.Laws.RangeAny
import Derived.Laws.RangeString
import Derived.Orders
set_option linter.unusedVariables false
set_option linter.unusedSimpArgs false
namespace Go.Am
open Go Go.RowKit
set_option linter.unusedVariables false
set_option linter.unusedSimpArgs false
variable {μ : Type} {I : MemI μ} {P : Program} {lo : Lim} {w0 : Bs} {E : Env} {H : (Nat → Option Obj) → Prop}

/-- How many elements a source has. -/
def lenS : Value → Option Nat
  | .slice _ n _ => some n
  | .string s => some s.size
  | _ => none
theorem lenS_run {x x' : Value} {n : Nat} (h : lenS x = some n) (hx : VR E x x') (w : World) : (Builtin.lenOf x').run P w = .ok n w := by
  cases hx <;> simp [lenS] at h <;> subst h <;> rfl

/-- Whether a type is an integer's: append of a make. -/
def isInt (P : Program) (t : TypeId) : Option Bool := match P.underlying t with
  | some (.int _) => some true
  | some _ => some false
  | none => none

def appendA (P : Program) (lo : Lim) (st xt : TypeId) (s x : Value) : M I Value :=
  match P.underlying st, isInt P xt, s, lenS x with
  | some (.slice e), some false, .slice a n cap, some m => match P.info? e, zeroOf P e with
    | some ie, some z =>
      bif Nat.ble (n + m) cap then match a with
        | none => bif Nat.beq m 0 then pure (.slice none (n + m) cap) else fail
        | some a => srcA ie.size m x >>= fun news => putA lo a.block (a.off + n * ie.size) news >>= fun _ => pure (.slice (some a) (n + m) cap)
      else bif Nat.ble ((n + m) * ie.bytes) 140737488355328 && Nat.ble (n + m) 9223372036854775807 && Nat.beq z.cells.size ie.size then match a with
        | none => bif Nat.beq n 0 then srcA ie.size m x >>= fun news => bif Nat.beq news.length (m * ie.size) then new (.cells news.toArray e (0, 0)) >>= fun k => pure (.slice (some ⟨k, 0, some 0⟩) (n + m) (n + m)) else fail else fail
        | some ⟨k0, o, none⟩ => srcA ie.size n s >>= fun olds => srcA ie.size m x >>= fun news => bif Nat.beq news.length (m * ie.size) then
            new (.cells (olds ++ news).toArray e (0, 0)) >>= fun k => pure (.slice (some ⟨k, 0, some 0⟩) (n + m) (n + m)) else fail
        | some ⟨k0, 0, some 0⟩ => srcA ie.size n s >>= fun olds => srcA ie.size m x >>= fun news => bif Nat.beq news.length (m * ie.size) then rd k0 >>= fun ob => match ob with
            | .cells c e' (0, 0) => bif Nat.beq c.size (cap * ie.size) && Nat.beq e' e && news.all Value.oneCell' then
                wr lo k0 none >>= fun _ => new (.cells (olds ++ news).toArray e (0, 0)) >>= fun k => pure (.slice (some ⟨k, 0, some 0⟩) (n + m) (n + m)) else fail
            | _ => fail else fail
        | _ => fail
      else fail
    | _, _ => fail
  | _, _, _, _ => fail

theorem isInt_run {t : TypeId} (h : isInt P t = some false) : ∃ d, P.underlying t = some d ∧ ∀ k, d ≠ .int k := by
  unfold isInt at h
  split at h
  · cases h
  · rename_i d hn hd
    exact ⟨d, hd, fun k e => hn k e⟩
  · cases h

theorem run_append_place {st xt ty e : TypeId} {ie : TypeInfo} {x' : Value} {b o n cap m : Nat} {vs : List Value} {w : World} (hu : P.underlying st = some (.slice e)) (hi : isInt P xt = some false) (hie : P.info? e = some ie)
    (hl : (Builtin.lenOf x').run P w = .ok m w) (hle : n + m ≤ cap) (hf : (Builtin.firstCells ie.size m x').run P w = .ok vs.toArray w) :
    (Builtin.append_ #[st, xt] ty #[.slice (some ⟨b, o, none⟩) n cap, x']).run P w = ((storeCells ⟨b, o + n * ie.size, none⟩ vs).run P w).andThen fun _ w' => .ok (.slice (some ⟨b, o, none⟩) (n + m) cap) w' := by
  obtain ⟨d, hd, hn⟩ := isInt_run hi
  simp [Builtin.append_, run_underlying hu, run_underlying hd, sizeOf, typeInfo, hie, hl, hle, hf, add_lit0]

theorem run_append_none {st xt ty e : TypeId} {ie : TypeInfo} {x' : Value} {n cap m : Nat} {w : World} (hu : P.underlying st = some (.slice e)) (hi : isInt P xt = some false) (hie : P.info? e = some ie)
    (hl : (Builtin.lenOf x').run P w = .ok m w) (hle : n + m ≤ cap) (hf : ∃ vs, (Builtin.firstCells ie.size m x').run P w = .ok vs w) :
    (Builtin.append_ #[st, xt] ty #[.slice none n cap, x']).run P w = .ok (.slice none (n + m) cap) w := by
  obtain ⟨d, hd, hn⟩ := isInt_run hi
  obtain ⟨vs, hf⟩ := hf
  simp [Builtin.append_, run_underlying hu, run_underlying hd, sizeOf, typeInfo, hie, hl, hle, hf]

theorem run_append_fresh {st xt ty e : TypeId} {ie : TypeInfo} {z : Value} {x' : Value} {a : Option Addr} {n cap m : Nat} {olds vs : List Value} {w : World} (hu : P.underlying st = some (.slice e)) (hi : isInt P xt = some false) (hie : P.info? e = some ie)
    (hz : ie.zero = some z) (hl : (Builtin.lenOf x').run P w = .ok m w) (hlt : cap < n + m) (hbytes : (n + m) * ie.bytes ≤ 140737488355328) (h63 : n + m ≤ 9223372036854775807)
    (ho : (Builtin.firstCells ie.size n (.slice a n cap)).run P w.drew = .ok olds.toArray w.drew) (hf : (Builtin.firstCells ie.size m x').run P w.drew = .ok vs.toArray w.drew) :
    (Builtin.append_ #[st, xt] ty #[.slice a n cap, x']).run P w = .ok (.slice (some ⟨w.heap.size, 0, none⟩) (n + m) (grownCap w (n + m) cap e))
      (w.drew.alloc (.cells ((olds ++ vs).toArray ++ Builtin.zeroCells z.cells (grownCap w (n + m) cap e - (n + m))) e)) := by
  obtain ⟨d, hd, hn⟩ := isInt_run hi
  have hn1 : ¬ (n + m ≤ cap) := by omega
  have h63' : ¬ (9223372036854775807 < ((n : Int) + (m : Int))) := by omega
  have h48 := growslice_fits hlt hbytes
  have h48' : ¬ (281474976710656 < Builtin.nextslicecap (n + m) cap * ie.bytes) := by omega
  simp [Builtin.append_, run_underlying hu, run_underlying hd, sizeOf, typeInfo, zeroValue, hie, hz, hl, hn1, h63', h48', Question.forced, hf, ho, newRow, grownCap]
  congr 2
  apply Array.ext'
  simp [List.append_assoc]

theorem Sim.point {α β : Type} {m : M I α} {c : Sem β} {R : Env → α → β → Prop} (h : ∀ E1 g w, (∀ k x, E k = some x → E1 k = some x) → Rel P lo w0 E1 g w → H g → ∃ c', c.run P w = c'.run P w ∧ Sim P lo w0 E1 noH m c' R) : Sim P lo w0 E H m c R := by
  intro s a s' hr E1 g w hE hR hA hF hH
  obtain ⟨c', hc, hs⟩ := h E1 g w hE hR hH
  obtain ⟨E2, d, w1, h1, h2, h3, h4⟩ := hs s a s' hr E1 g w (fun _ _ h => h) hR hA hF trivial
  exact ⟨E2, d, w1, by rw [hc]; exact h1, h2, h3, h4⟩

/-- A new name that takes the place of an old one. -/
theorem sim_newkill {α β : Type} {k0 : Nat} {o : Obj} {f : Nat → α} {c : Sem β} {R : Env → α → β → Prop} (h : ∀ E1 g w k, (∀ k x, E k = some x → E1 k = some x) → Rel P lo w0 E1 g w → H g → E1 k = none → lo.lo ≤ k0 → ∀ o0, g k0 = some o0 →
    ∃ b w' bl r co, c.run P w = .ok b w' ∧ Below w0.w.heap.size w0.w w' ∧ w0.w.heap.size ≤ bl ∧ w'.heap[bl]? = some co ∧ (∀ i, i ≠ bl → i < w.heap.size → w'.heap[i]? = w.heap[i]?) ∧ (bl = w.heap.size ∨ ∃ r', E1 k0 = some (bl, r')) ∧ OR P (E1.put k bl r) r o co ∧ R (E1.put k bl r) (f k) b) :
    Sim P lo w0 E H (wr lo k0 none >>= fun _ => new o >>= fun k => (Pure.pure (f k) : M I α)) c R := by
  intro s a' s' hr E1 g w hE hR hA hF hH
  obtain ⟨u, s1, hr3, hr2⟩ := bind_run hr
  obtain ⟨k, s2, hr1, hr4⟩ := bind_run hr2
  obtain ⟨rfl, rfl⟩ := pure_run hr4
  obtain ⟨d1, ⟨o0, d2⟩, d3, d4, d5, d6⟩ := wr_run hr3
  obtain ⟨rfl, e2, e3, e4, e5, e6⟩ := new_run hr1
  have l2 := (new o : M I Nat).le _ _ _ hr1
  have hk : E1 s1.next = none := hF s1.next (by omega) (by omega)
  have hg0 : g k0 = I.get s.mem k0 := hA _ (by rw [l2.W _ (by rw [d5]; simp), Bool.or_true])
  have hg : g k0 = some o0 := by rw [hg0, d2]
  have hkk : k0 ≠ s1.next := fun e => by
    obtain ⟨b', r', co', h1, _⟩ := hR.tie _ _ hg
    rw [e, hk] at h1; cases h1
  obtain ⟨b, w', bl, r, co, h1, h2, h3, h4, h5, h6, h7, h8⟩ := h E1 g w s1.next hE hR hH hk d1 o0 hg
  refine ⟨E1.put s1.next bl r, b, w', h1, ⟨Env.put_keep hk, fun i hi => ?_⟩, h8, ?_⟩
  · by_cases e : i = s1.next
    · subst e; exact .inr ⟨by omega, by omega⟩
    · simp [Env.put, e] at hi; exact .inl (by simpa using hi)
  · have hm : merge I s' g = fun i => if i = s1.next then some o else if i = k0 then none else g i := by
      funext i
      unfold merge
      by_cases ei : i = s1.next
      · subst ei
        rw [if_pos (by rw [e5]; simp), e6, if_pos rfl, if_pos rfl]
      · rw [if_neg ei]
        by_cases e0 : i = k0
        · subst e0
          rw [if_pos (by rw [e5, d5]; simp), e6, if_neg ei, d6, if_pos rfl, if_pos rfl]
        · rw [if_neg e0]
          split
          · rename_i hw
            rw [e6, if_neg ei, d6, if_neg e0]
            exact (hA i (by rw [hw, Bool.or_true])).symm
          · rfl
    rw [hm]
    refine (hR.kill k0).name hk h2 h3 h4 h5 (fun i o' r' hi he => ?_) h7
    by_cases e0 : i = k0
    · simp [e0] at hi
    · simp [e0] at hi
      rcases h6 with rfl | ⟨r2, h6⟩
      · exact absurd (hR.lt hi he) (Nat.lt_irrefl _)
      · exact e0 (hR.inj _ _ _ _ _ _ _ hi hg he h6)

theorem rel_drew {g : Nat → Option Obj} {w : World} (h : Rel P lo w0 E g w) : Rel P lo w0 E g w.drew := ⟨h.below.drew, h.tie, h.inj, h.own, h.old, h.kept⟩

theorem LR.append {as bs cs ds : List Value} (h : LR E as cs) (k : LR E bs ds) : LR E (as ++ bs) (cs ++ ds) := by
  refine ⟨by simp [h.1, k.1], fun a c j ha hc => ?_⟩
  by_cases hj : j < as.length
  · rw [List.getElem?_append_left hj] at ha
    rw [List.getElem?_append_left (by rw [← h.1]; exact hj)] at hc
    exact h.2 a c j ha hc
  · rw [List.getElem?_append_right (by omega)] at ha
    rw [List.getElem?_append_right (by rw [← h.1]; omega), ← h.1] at hc
    exact k.2 a c _ ha hc

/-- What a fresh append leaves is an object. -/
theorem fresh_obj {as cs : List Value} {e : TypeId} {ie : TypeInfo} {z : Value} {r : Nat} (h : LR E as cs) (hie : P.info? e = some ie) (hz : z.cells.size = ie.size) :
    OR P E r (.cells as.toArray e (0, 0)) (.cells (cs.toArray ++ Builtin.zeroCells z.cells r) e (0, 0)) := by
  refine .cells ?_ fun a c j ha hc => ?_
  · simp [size_zeroCells, hz, cellsOf_eq hie, h.1]
  · have hj : j < as.length := by
      have := (Array.getElem?_eq_some_iff.1 ha).1
      simpa using this
    rw [Array.getElem?_append_left (by simpa [← h.1] using hj)] at hc
    exact h.2 a c j (by simpa using ha) (by simpa using hc)

theorem zeroOf_info {t : TypeId} {z : Value} {i : TypeInfo} (h : zeroOf P t = some z) (hi : P.info? t = some i) : i.zero = some z := by
  unfold zeroOf at h
  rw [hi] at h
  simp only at h
  split at h
  · rename_i z' hz'
    cases hg : gnd 3 z' with
    | true => rw [hg] at h; simp at h; rw [hz', h]
    | false => rw [hg] at h; simp at h
  · cases h

theorem sim_append_fresh {st xt ty e : TypeId} {ie : TypeInfo} {z : Value} {s s' x x' : Value} {a' : Option Addr} {n cap m : Nat} {olds news : List Value} (hu : P.underlying st = some (.slice e)) (hi : isInt P xt = some false) (hie : P.info? e = some ie)
    (hz : zeroOf P e = some z) (hzs : z.cells.size = ie.size) (hm : lenS x = some m) (hx : VR E x x') (hs' : s' = .slice a' n cap) (hlt : cap < n + m) (hbytes : (n + m) * ie.bytes ≤ 140737488355328) (h63 : n + m ≤ 9223372036854775807)
    (hold : ∀ E1 g w, (∀ k x, E k = some x → E1 k = some x) → Rel P lo w0 E1 g w → H g → ∃ olds', (Builtin.firstCells ie.size n (.slice a' n cap)).run P w.drew = .ok olds'.toArray w.drew ∧ LR E1 olds olds' ∧ olds.length = n * ie.size)
    (hsrc : ∀ g, H g → SrcH ie.size m x news g) (hnl : news.length = m * ie.size) :
    Sim P lo w0 E H (new (.cells (olds ++ news).toArray e (0, 0)) >>= fun k => (pure (.slice (some ⟨k, 0, some 0⟩) (n + m) (n + m)) : M I Value)) (Builtin.append_ #[st, xt] ty #[s', x']) VR := by
  subst hs'
  refine Sim.new fun E1 g w k hE hR hH hk => ?_
  obtain ⟨olds', ho, hlo, hol⟩ := hold E1 g w hE hR hH
  obtain ⟨news', hn, hln, _⟩ := (hsrc g hH).run (w1 := w.drew) hR (hx.mono hE) rfl
  have hrun := run_append_fresh (P := P) (ty := ty) (w := w) hu hi hie (zeroOf_info hz hie) (lenS_run hm (hx.mono hE) w) hlt hbytes h63 ho hn
  have hge := grownCap_ge w (n + m) cap e
  refine ⟨_, _, grownCap w (n + m) cap e - (n + m), _, hrun, (rel_drew hR).alloc _, alloc_heap w.drew _, fun i hi => Below.heap_alloc w.drew _ i hi, ?_, ?_⟩
  · have hL := hlo.append hln
    exact fresh_obj (ie := ie) ⟨hL.1, fun a c j ha hc => (hL.2 a c j ha hc).mono (Env.put_keep hk)⟩ hie hzs
  · have hw := VR.wide (E := E1.put k w.heap.size (grownCap w (n + m) cap e - (n + m))) (o := 0) (n + m) (n + m) (by simp [Env.put] : (E1.put k w.heap.size (grownCap w (n + m) cap e - (n + m))) k = some (w.heap.size, grownCap w (n + m) cap e - (n + m)))
    rwa [show n + m + (grownCap w (n + m) cap e - (n + m)) = grownCap w (n + m) cap e by omega] at hw

theorem sim_appendA {st xt ty : TypeId} {s x s' x' : Value} (hs : VR E s s') (hx : VR E x x') : Sim P lo w0 E noH (appendA P lo st xt s x : M I Value) (Builtin.append_ #[st, xt] ty #[s', x']) VR := by
  unfold appendA
  split
  · rename_i e a n cap m hu hi hm
    split
    · rename_i ie z hie hz
      cases hle : Nat.ble (n + m) cap with
      | true =>
        have hle' := Nat.le_of_ble_eq_true hle
        simp only [cond_true]
        cases hs with
        | nils =>
          cases hm0 : Nat.beq m 0 with
          | false => exact Sim.fail
          | true =>
            have hm0 := Nat.eq_of_beq_eq_true hm0
            subst hm0
            refine Sim.val ⟨_, fun w => run_append_none hu hi hie (lenS_run hm hx w) hle' ?_, .nils _ _⟩
            cases hx <;> simp [lenS] at hm <;> first | exact ⟨_, by simp [Builtin.firstCells, loadCells, loadCellsFrom]; rfl⟩ | exact ⟨_, by simp [Builtin.firstCells]; rfl⟩
        | @slice k o b r _ _ hk =>
          refine sim_src fun news => Sim.point fun E1 g w hE hR ⟨_, hH⟩ => ?_
          obtain ⟨news', hn, hln, _⟩ := hH.run hR (hx.mono hE) rfl
          refine ⟨storeCells ⟨b, o + n * ie.size, none⟩ news' >>= fun _ => pure (.slice (some ⟨b, o, none⟩) (n + m) cap), ?_, Sim.bind (sim_putA (hE _ _ hk) hln.1 hln.2) fun E2 _ _ hE2 _ => Sim.pure fun E3 hE3 => .slice _ _ (hE3 _ _ (hE2 _ _ (hE _ _ hk)))⟩
          rw [run_append_place hu hi hie (lenS_run hm (hx.mono hE) w) hle' hn]
          simp
        | @wide k o b r _ _ hk =>
          refine sim_src fun news => Sim.point fun E1 g w hE hR ⟨_, hH⟩ => ?_
          obtain ⟨news', hn, hln, _⟩ := hH.run hR (hx.mono hE) rfl
          refine ⟨storeCells ⟨b, o + n * ie.size, none⟩ news' >>= fun _ => pure (.slice (some ⟨b, o, none⟩) (n + m) (cap + r)), ?_, Sim.bind (sim_putA (hE _ _ hk) hln.1 hln.2) fun E2 _ _ hE2 _ => Sim.pure fun E3 hE3 => .wide _ _ (hE3 _ _ (hE2 _ _ (hE _ _ hk)))⟩
          rw [run_append_place hu hi hie (lenS_run hm (hx.mono hE) w) (by omega) hn]
          simp
      | false =>
        simp only [cond_false]
        have hlt : cap < n + m := by
          rcases Nat.lt_or_ge cap (n + m) with h | h
          · exact h
          · rw [Nat.ble_eq_true_of_le h] at hle; cases hle
        cases hb : (Nat.ble ((n + m) * ie.bytes) 140737488355328 && Nat.ble (n + m) 9223372036854775807 && Nat.beq z.cells.size ie.size) with
        | false => exact Sim.fail
        | true =>
          simp only [Bool.and_eq_true] at hb
          obtain ⟨⟨hb1, hb2⟩, hb3⟩ := hb
          have hb1 := Nat.le_of_ble_eq_true hb1
          have hb2 := Nat.le_of_ble_eq_true hb2
          have hb3 := Nat.eq_of_beq_eq_true hb3
          simp only [cond_true]
          cases hs with
          | nils =>
            cases hn0 : Nat.beq n 0 with
            | false => exact Sim.fail
            | true =>
              have hn0 := Nat.eq_of_beq_eq_true hn0
              subst hn0
              simp only [cond_true]
              refine sim_src fun news => ?_
              cases hnl : Nat.beq news.length (m * ie.size) with
              | false => exact Sim.fail
              | true =>
                have hnl := Nat.eq_of_beq_eq_true hnl
                have := sim_append_fresh (I := I) (lo := lo) (w0 := w0) (E := E) (H := fun g => noH g ∧ SrcH ie.size m x news g) (ty := ty) (olds := []) (s := .nilFunc) (a' := none) (n := 0) hu hi hie hz hb3 hm hx rfl hlt hb1 hb2
                  (fun E1 g w hE hR _ => ⟨[], by simp [Builtin.firstCells], ⟨rfl, fun a c j h => by simp at h⟩, by simp⟩) (fun g hg => hg.2) hnl
                exact this
          | @slice k o b r _ _ hk =>
            refine sim_src fun olds => sim_src fun news => ?_
            cases hnl : Nat.beq news.length (m * ie.size) with
            | false => exact Sim.fail
            | true =>
              have hnl := Nat.eq_of_beq_eq_true hnl
              refine sim_append_fresh (s := .nilFunc) hu hi hie hz hb3 hm hx rfl hlt hb1 hb2 (fun E1 g w hE hR hH => ?_) (fun g hg => hg.2) hnl
              obtain ⟨olds', h1, h2, h3, _⟩ := hH.1.2.run (w1 := w.drew) hR ((VR.slice (E := E) n cap hk).mono hE) rfl
              exact ⟨olds', h1, h2, h3 _ _ _ rfl⟩
          | @wide k o b r _ _ hk =>
            cases o with
            | succ o => exact Sim.fail
            | zero =>
              refine sim_src fun olds => sim_src fun news => ?_
              cases hnl : Nat.beq news.length (m * ie.size) with
              | false => exact Sim.fail
              | true =>
                have hnl := Nat.eq_of_beq_eq_true hnl
                simp only [cond_true]
                refine Sim.rd fun ob => ?_
                split
                · rename_i c e'
                  cases hc : (Nat.beq c.size (cap * ie.size) && Nat.beq e' e && news.all Value.oneCell') with
                  | false => exact Sim.fail
                  | true =>
                    simp only [Bool.and_eq_true] at hc
                    obtain ⟨⟨hc1, hc2⟩, hc3⟩ := hc
                    have hc1 := Nat.eq_of_beq_eq_true hc1
                    have hc2 := Nat.eq_of_beq_eq_true hc2
                    subst hc2
                    simp only [cond_true]
                    refine sim_newkill fun E1 g w k2 hE hR ⟨⟨⟨_, hH1⟩, hH2⟩, hg⟩ hk2 hlo o0 hg0 => ?_
                    obtain ⟨olds', h1, hlo1, h3, _⟩ := hH1.run (w1 := w.drew) hR ((VR.wide (E := E) n cap hk).mono hE) rfl
                    obtain ⟨news', h4, hln, _⟩ := hH2.run (w1 := w.drew) hR (hx.mono hE) rfl
                    obtain ⟨news2, h4', hln2, _⟩ := hH2.run (w1 := w) hR (hx.mono hE) rfl
                    have hol := h3 _ _ _ rfl
                    by_cases hroom : n + m ≤ cap + r
                    · -- there is room behind: the same block
                      obtain ⟨cs, fr', hw1, hw2, hw3, hw4⟩ := hR.cells hg (hE _ _ hk)
                      obtain ⟨rfl, hsz⟩ := hw3 rfl
                      have hsz' : cs.size = (cap + r) * ie.size := by rw [← hsz, hc1, cellsOf_eq hie, Nat.add_mul]
                      have hnl2 : news2.length = m * ie.size := by rw [← hln2.1, hnl]
                      have hmul : (n + m) * ie.size ≤ (cap + r) * ie.size := Nat.mul_le_mul_right _ hroom
                      have hone : ∀ v ∈ news2, v.oneCell' = true := fun v hv' => by
                        obtain ⟨j, hj, rfl⟩ := List.getElem_of_mem hv'
                        have hj' : j < news.length := by rw [hln2.1]; exact hj
                        have := (hln2.2 news[j] news2[j] j (by simp [hj']) (by simp [hj])).one
                        rw [this]
                        exact List.all_eq_true.1 hc3 _ (List.getElem_mem _)
                      have hfit : n * ie.size + news2.length ≤ cs.size := by rw [hnl2, ← Nat.add_mul, hsz']; exact hmul
                      have hst := run_storeCells_at P b (n * ie.size) e' news2 0 cs w hw1 (by omega) hone
                      have hrun := run_append_place (P := P) (ty := ty) (o := 0) (b := b) hu hi hie (lenS_run hm (hx.mono hE) w) hroom h4'
                      rw [Nat.zero_add, hst] at hrun
                      have hT := turned_setRow (cs := (cs.toList.take (n * ie.size + 0) ++ news2 ++ cs.toList.drop (n * ie.size + 0 + news2.length)).toArray) hw1
                      refine ⟨_, _, b, cap + r - (n + m), _, hrun, ?_, hR.own _ _ _ hlo (hE _ _ hk), hT.at_, fun i hi _ => hT.other i hi, .inr ⟨r, hE _ _ hk⟩, .cells ?_ fun a v j ha hv => ?_, ?_⟩
                      · refine hR.below.trans ⟨rfl, rfl, rfl, by simp, fun i hi => hT.other i ?_⟩
                        have := hR.own _ _ _ hlo (hE _ _ hk)
                        omega
                      · have e1 : ((cs.toList.take (n * ie.size + 0) ++ news2 ++ cs.toList.drop (n * ie.size + 0 + news2.length)).toArray).size = cs.size := by simp; omega
                        rw [e1, cellsOf_eq hie, hsz']
                        simp only [List.size_toArray, List.length_append, hol, hnl]
                        rw [← Nat.add_mul, ← Nat.add_mul]
                        congr 1
                        omega
                      · have hL : LR E1 (olds ++ news) (cs.toList.take (n * ie.size) ++ news2) := by
                          refine LR.append ⟨by simp [hol]; omega, fun a c j ha hc => ?_⟩ hln2
                          obtain ⟨cc, ee, ff, g1, g2, rfl⟩ := hH1
                          rw [hg] at g1; cases g1
                          rw [List.drop_zero, List.getElem?_take] at ha
                          rw [List.getElem?_take] at hc
                          split at ha
                          · rw [if_pos (by assumption)] at hc
                            exact hw4 a c j (by simpa using ha) (by simpa using hc)
                          · cases ha
                        have hj : j < (olds ++ news).length := by
                          have := (Array.getElem?_eq_some_iff.1 ha).1
                          simpa using this
                        rw [Nat.add_zero, List.getElem?_toArray, List.getElem?_append_left (by rw [← hL.1]; exact hj)] at hv
                        exact (hL.2 a v j (by simpa using ha) hv).mono (Env.put_keep hk2)
                      · have hw := VR.wide (E := E1.put k2 b (cap + r - (n + m))) (o := 0) (n + m) (n + m) (by simp [Env.put] : (E1.put k2 b (cap + r - (n + m))) k2 = some (b, cap + r - (n + m)))
                        rwa [show n + m + (cap + r - (n + m)) = cap + r by omega] at hw
                    · -- a new block
                      have hrun := run_append_fresh (P := P) (ty := ty) (w := w) hu hi hie (zeroOf_info hz hie) (lenS_run hm (hx.mono hE) w) (by omega) hb1 hb2 h1 h4
                      have hge := grownCap_ge w (n + m) (cap + r) e'
                      refine ⟨_, _, w.heap.size, grownCap w (n + m) (cap + r) e' - (n + m), _, hrun, (rel_drew hR).alloc _, hR.below.size, alloc_heap w.drew _, fun i _ hi => Below.heap_alloc w.drew _ i hi, .inl rfl, ?_, ?_⟩
                      · have hL := hlo1.append hln
                        exact fresh_obj (ie := ie) ⟨hL.1, fun a c j ha hc => (hL.2 a c j ha hc).mono (Env.put_keep hk2)⟩ hie hb3
                      · have hw := VR.wide (E := E1.put k2 w.heap.size (grownCap w (n + m) (cap + r) e' - (n + m))) (o := 0) (n + m) (n + m) (by simp [Env.put] : (E1.put k2 w.heap.size (grownCap w (n + m) (cap + r) e' - (n + m))) k2 = some (w.heap.size, grownCap w (n + m) (cap + r) e' - (n + m)))
                        rwa [show n + m + (grownCap w (n + m) (cap + r) e' - (n + m)) = grownCap w (n + m) (cap + r) e' by omega] at hw
                · exact Sim.fail
    · exact Sim.fail
  · exact Sim.fail
end Go.Am

/- The abstract evaluator: copy, len, maps, texts. Conditions: none. -/
namespace Go.Am
open Go Go.RowKit
set_option linter.unusedVariables false
set_option linter.unusedSimpArgs false
variable {μ : Type} {I : MemI μ} {P : Program} {lo : Lim} {w0 : Bs} {E : Env} {H : (Nat → Option Obj) → Prop}

def copyA (P : Program) (lo : Lim) (dT : TypeId) (d x : Value) : M I Value := match P.underlying dT, d, lenS x with
  | some (.slice e), .slice (some a) dl _, some sl => match P.info? e with
    | some ie => srcA ie.size (Nat.min sl dl) x >>= fun news => putA lo a.block a.off news >>= fun _ => pure (.int .i64 (Nat.min sl dl))
    | none => fail
  | _, _, _ => fail
theorem sim_copyA {dT sT ty : TypeId} {d d' x x' : Value} (hd : VR E d d') (hx : VR E x x') : Sim P lo w0 E noH (copyA P lo dT d x : M I Value) (Builtin.copy_ #[dT, sT] ty #[d', x']) VR := by
  unfold copyA
  split
  · rename_i e a dl dc sl hu hl
    split
    · rename_i ie hie
      refine sim_src fun news => Sim.point fun E1 g w hE hR ⟨_, hH⟩ => ?_
      obtain ⟨news', hn, hln, _⟩ := hH.run hR (hx.mono hE) rfl
      have hlen := lenS_run (P := P) hl (hx.mono hE) w
      have hrun : ∀ (b o cp : Nat), (Builtin.copy_ #[dT, sT] ty #[.slice (some ⟨b, o, none⟩) dl cp, x']).run P w = (storeCells ⟨b, o, none⟩ news' >>= fun _ => pure (.int .i64 (Nat.min sl dl)) : Sem Value).run P w := fun b o cp => by
        simp [Builtin.copy_, run_underlying hu, hlen, sizeOf, typeInfo, hie, hn, goInt]
      cases hd with
      | @slice k o b r _ _ hk => exact ⟨_, hrun b o _, Sim.bind (sim_putA (hE _ _ hk) hln.1 hln.2) fun E2 _ _ hE2 _ => Sim.pure fun E3 hE3 => .int _ _⟩
      | @wide k o b r _ _ hk => exact ⟨_, hrun b o _, Sim.bind (sim_putA (hE _ _ hk) hln.1 hln.2) fun E2 _ _ hE2 _ => Sim.pure fun E3 hE3 => .int _ _⟩
    · exact Sim.fail
  · exact Sim.fail

/-! ### Maps -/
def nowIx (kind : TypeDesc) (k : Value) : List MapEntry → Nat → Option (Option Nat)
  | [], _ => some none
  | e :: es, i => match Instr.sameNow kind k e.key with
    | some true => some (some i)
    | some false => nowIx kind k es (i + 1)
    | none => none
def askIx (P : Program) (t : TypeId) (k : Value) : List MapEntry → Nat → Option (Option Nat)
  | [], _ => some none
  | e :: es, i => match pureRun P (Op.equal t k e.key) with
    | some true => some (some i)
    | some false => askIx P t k es (i + 1)
    | none => none
def KeysEq : List MapEntry → List MapEntry → Prop
  | [], [] => True
  | a :: as, c :: cs => c.key = a.key ∧ KeysEq as cs
  | _, _ => False
theorem findNow_ix (kind : TypeDesc) (k : Value) : ∀ (es es' : List MapEntry) (i : Nat), KeysEq es es' →
    match nowIx kind k es i with
    | none => Instr.findNow kind k es' i = none
    | some none => Instr.findNow kind k es' i = some none
    | some (some j) => i ≤ j ∧ ∃ e', es'[j - i]? = some e' ∧ Instr.findNow kind k es' i = some (some (j, e'.val))
  | [], [], i, _ => by simp [nowIx, Instr.findNow]
  | e :: es, e' :: es', i, h => by
    obtain ⟨h1, h2⟩ := h
    have ih := findNow_ix kind k es es' (i + 1) h2
    simp only [nowIx, Instr.findNow, h1]
    cases Instr.sameNow kind k e.key with
    | none => simp
    | some b =>
      cases b with
      | true => simp
      | false =>
        simp only
        cases hq : nowIx kind k es (i + 1) with
        | none => rw [hq] at ih; exact ih
        | some r =>
          cases r with
          | none => rw [hq] at ih; exact ih
          | some j =>
            rw [hq] at ih
            obtain ⟨a1, e2, a2, a3⟩ := ih
            refine ⟨by omega, e2, ?_, a3⟩
            rw [show j - i = (j - (i + 1)) + 1 by omega]; simpa using a2
  | [], _ :: _, _, h => h.elim
  | _ :: _, [], _, h => h.elim
theorem findAsk_ix (t : TypeId) (k : Value) (w : World) : ∀ (es es' : List MapEntry) (i : Nat), KeysEq es es' →
    match askIx P t k es i with
    | none => True
    | some none => (Instr.findAsking t k es' i).run P w = .ok none w
    | some (some j) => i ≤ j ∧ ∃ e', es'[j - i]? = some e' ∧ (Instr.findAsking t k es' i).run P w = .ok (some (j, e'.val)) w
  | [], [], i, _ => by simp [askIx, Instr.findAsking]
  | e :: es, e' :: es', i, h => by
    obtain ⟨h1, h2⟩ := h
    have ih := findAsk_ix t k w es es' (i + 1) h2
    simp only [askIx]
    cases hp : pureRun P (Op.equal t k e.key) with
    | none => simp
    | some b =>
      have hr := pureRun_run hp w
      cases b with
      | true => simp [Instr.findAsking, h1, hr]
      | false =>
        simp only
        cases hq : askIx P t k es (i + 1) with
        | none => trivial
        | some r =>
          cases r with
          | none => rw [hq] at ih; simp [Instr.findAsking, h1, hr, ih]
          | some j =>
            rw [hq] at ih
            obtain ⟨a1, e2, a2, a3⟩ := ih
            refine ⟨by omega, e2, ?_, by simp [Instr.findAsking, h1, hr, a3]⟩
            rw [show j - i = (j - (i + 1)) + 1 by omega]; simpa using a2
  | [], _ :: _, _, h => h.elim
  | _ :: _, [], _, h => h.elim

def findA (P : Program) (t : TypeId) (k : Value) (es : List MapEntry) : Option (Option Nat) := match P.underlying t with
  | some d => match nowIx d k es 0 with
    | some r => some r
    | none => askIx P t k es 0
  | none => none
theorem findA_none {t : TypeId} {k : Value} {es es' : List MapEntry} (h : findA P t k es = some none) (hk : KeysEq es es') (w : World) : (Instr.findKey t k es').run P w = .ok none w := by
  unfold findA at h
  split at h
  · rename_i d hd
    have h1 := findNow_ix d k es es' 0 hk
    have h2 := findAsk_ix (P := P) t k w es es' 0 hk
    split at h
    · rename_i r hr
      cases h
      rw [hr] at h1
      simp [Instr.findKey, run_underlying hd, h1]
    · rename_i hr
      rw [hr] at h1
      rw [h] at h2
      simp [Instr.findKey, run_underlying hd, h1, h2]
  · cases h
theorem findA_some {t : TypeId} {k : Value} {es es' : List MapEntry} {j : Nat} (h : findA P t k es = some (some j)) (hk : KeysEq es es') (w : World) : ∃ e', es'[j]? = some e' ∧ (Instr.findKey t k es').run P w = .ok (some (j, e'.val)) w := by
  unfold findA at h
  split at h
  · rename_i d hd
    have h1 := findNow_ix d k es es' 0 hk
    have h2 := findAsk_ix (P := P) t k w es es' 0 hk
    split at h
    · rename_i r hr
      cases h
      rw [hr] at h1
      obtain ⟨_, e', a1, a2⟩ := h1
      exact ⟨e', by simpa using a1, by simp [Instr.findKey, run_underlying hd, a2]⟩
    · rename_i hr
      rw [hr] at h1
      rw [h] at h2
      obtain ⟨_, e', a1, a2⟩ := h2
      exact ⟨e', by simpa using a1, by simp [Instr.findKey, run_underlying hd, h1, a2]⟩
  · cases h
theorem keysEq_of : ∀ (es cs : List MapEntry), es.length = cs.length → (∀ a c : MapEntry, ∀ j : Nat, es[j]? = some a → cs[j]? = some c → c.key = a.key) → KeysEq es cs
  | [], [], _, _ => trivial
  | a :: as, c :: cs, hl, h => ⟨h a c 0 rfl rfl, keysEq_of as cs (by simpa using hl) fun x y j hx hy => h x y (j + 1) (by simpa using hx) (by simpa using hy)⟩
  | [], _ :: _, hl, _ => by simp at hl
  | _ :: _, [], hl, _ => by simp at hl

def keyOK (P : Program) (empty : Bool) (t : TypeId) (k : Value) : Bool := gnd 3 k && (pureRun P (Instr.checkKey empty 10000 t k)).isSome
theorem keyOK_run {empty : Bool} {t : TypeId} {k : Value} (h : keyOK P empty t k = true) (w : World) : gnd 3 k = true ∧ (Instr.checkKey empty 10000 t k).run P w = .ok () w := by
  unfold keyOK at h
  simp only [Bool.and_eq_true] at h
  obtain ⟨h1, h2⟩ := h
  obtain ⟨u, hu⟩ := Option.isSome_iff_exists.1 h2
  exact ⟨h1, pureRun_run hu w⟩

theorem Rel.amap {g : Nat → Option Obj} {w : World} (h : Rel P lo w0 E g w) {k clock : Nat} {es : Array MapEntry} (hg : g k = some (.map es clock)) {b r : Nat} (hE : E k = some (b, r)) :
    ∃ cs, w.heap[b]? = some (.map cs clock) ∧ es.size = cs.size ∧ ∀ a c : MapEntry, ∀ j : Nat, es[j]? = some a → cs[j]? = some c → c.key = a.key ∧ c.born = a.born ∧ VR E a.val c.val := by
  obtain ⟨b', r', co, h1, h2, h3⟩ := h.tie k _ hg
  rw [h1] at hE; cases hE
  cases h3 with
  | map clock hs hv => exact ⟨_, h2, hs, hv⟩
theorem run_getObj_map' {w : World} {b clock : Nat} {cs : Array MapEntry} (h : w.heap[b]? = some (.map cs clock)) : (getObj b).run P w = .ok (.map cs clock) w := by
  simp [getObj, Sem.run, h]
theorem run_setObj_map' {w : World} {b clock clock' : Nat} {cs cs' : Array MapEntry} (h : w.heap[b]? = some (.map cs clock)) : (setObj b (.map cs' clock')).run P w = .ok () { w with heap := w.heap.setIfInBounds b (.map cs' clock') } := by
  simp [setObj, Sem.run, h]
theorem turned_setObj {w : World} {b : Nat} {o o' : Obj} (h : w.heap[b]? = some o) : Turned b o' w { w with heap := w.heap.setIfInBounds b o' } := by
  have hb := (Array.getElem?_eq_some_iff.1 h).1
  exact ⟨rfl, rfl, rfl, by simp, by simp [hb], fun i hi => by simp [Array.getElem?_setIfInBounds, Ne.symm hi]⟩

def lookupA (P : Program) (t : TypeId) (x k : Value) (ok : Bool) : M I Value := match P.underlying t, x with
  | some (.map kt et), .map none => bif keyOK P true kt k then match findA P kt k [], zeroOf P et with
      | some none, some z => pure (bif ok then .tuple #[z, .bool false] else z)
      | _, _ => fail
    else fail
  | some (.map kt et), .map (some n) => rd n >>= fun ob => match ob with
    | .map es _ => bif keyOK P es.isEmpty kt k then match findA P kt k es.toList with
        | some (some j) => match es[j]? with
          | some e => pure (bif ok then .tuple #[e.val, .bool true] else e.val)
          | none => fail
        | some none => match zeroOf P et with
          | some z => pure (bif ok then .tuple #[z, .bool false] else z)
          | none => fail
        | none => fail
      else fail
    | _ => fail
  | _, _ => fail
theorem sim_lookupA {t : TypeId} {x k x' k' : Value} {ok : Bool} (hx : VR E x x') (hk : VR E k k') : Sim P lo w0 E H (lookupA P t x k ok : M I Value) (Instr.lookup t x' k' ok) VR := by
  unfold lookupA
  split
  · rename_i kt et hu
    cases hx
    cases hc : keyOK P true kt k with
    | false => exact Sim.fail
    | true =>
      simp only [cond_true]
      split
      · rename_i z hf hz
        have hg := (keyOK_run hc default).1
        have := gnd_eq hk 3 hg
        subst this
        have hzg := gnd_refl E 3 z (zeroOf_run hz default).2
        have hr := findA_none (es' := []) hf trivial
        cases ok with
        | true => exact Sim.val ⟨.tuple #[z, .bool false], fun w => by simp [Instr.lookup, run_underlying hu, (keyOK_run hc w).2, hr, (zeroOf_run hz w).1], VR.pair hzg (.bool false)⟩
        | false => exact Sim.val ⟨z, fun w => by simp [Instr.lookup, run_underlying hu, (keyOK_run hc w).2, hr, (zeroOf_run hz w).1], hzg⟩
      · exact Sim.fail
  · rename_i kt et n hu
    cases hx with
    | map hn =>
      refine Sim.rd fun ob => ?_
      cases ob with
      | map es clock =>
        cases hc : keyOK P es.isEmpty kt k with
        | false => simp only [hc]; exact Sim.fail
        | true =>
          simp only [hc, cond_true]
          have hg := (keyOK_run hc default).1
          have := gnd_eq hk 3 hg
          subst this
          split
          · rename_i j hf
            split
            · rename_i e he
              refine Sim.leaf fun E1 g w hE hR ⟨_, hgn⟩ => ?_
              obtain ⟨cs, h1, h2, h3⟩ := hR.amap hgn (hE _ _ hn)
              have hke := keysEq_of es.toList cs.toList (by simpa using h2) fun a c j ha hc' => (h3 a c j (by simpa using ha) (by simpa using hc')).1
              obtain ⟨e', he', hr⟩ := findA_some hf hke w
              have hv := (h3 e e' j he (by simpa using he')).2.2
              have hemp : cs.isEmpty = es.isEmpty := by simp [Array.isEmpty, h2]
              cases ok with
              | true => exact ⟨.tuple #[e'.val, .bool true], by simp [Instr.lookup, run_underlying hu, run_getObj_map' h1, hemp, (keyOK_run hc w).2, hr], VR.pair hv (.bool true)⟩
              | false => exact ⟨e'.val, by simp [Instr.lookup, run_underlying hu, run_getObj_map' h1, hemp, (keyOK_run hc w).2, hr], hv⟩
            · exact Sim.fail
          · rename_i hf
            split
            · rename_i z hz
              refine Sim.leaf fun E1 g w hE hR ⟨_, hgn⟩ => ?_
              obtain ⟨cs, h1, h2, h3⟩ := hR.amap hgn (hE _ _ hn)
              have hke := keysEq_of es.toList cs.toList (by simpa using h2) fun a c j ha hc' => (h3 a c j (by simpa using ha) (by simpa using hc')).1
              have hr := findA_none hf hke w
              have hemp : cs.isEmpty = es.isEmpty := by simp [Array.isEmpty, h2]
              have hzg := gnd_refl E1 3 z (zeroOf_run hz default).2
              cases ok with
              | true => exact ⟨.tuple #[z, .bool false], by simp [Instr.lookup, run_underlying hu, run_getObj_map' h1, hemp, (keyOK_run hc w).2, hr, (zeroOf_run hz w).1], VR.pair hzg (.bool false)⟩
              | false => exact ⟨z, by simp [Instr.lookup, run_underlying hu, run_getObj_map' h1, hemp, (keyOK_run hc w).2, hr, (zeroOf_run hz w).1], hzg⟩
            · exact Sim.fail
          · exact Sim.fail
      | _ => exact Sim.fail
  · exact Sim.fail

def updateA (P : Program) (lo : Lim) (t : TypeId) (x k v : Value) : M I Unit := match P.underlying t, x with
  | some (.map kt et), .map (some n) => rd n >>= fun ob => match ob with
    | .map es clock => bif keyOK P false kt k then match findA P kt k es.toList with
        | some (some j) => match es[j]? with
          | some e => bif Instr.sameBits 10000 e.key k then wr lo n (some (.map (es.setIfInBounds j ⟨k, v, e.born⟩) clock)) >>= fun _ => pure () else fail
          | none => fail
        | some none => wr lo n (some (.map (es.push ⟨k, v, clock⟩) (clock + 1))) >>= fun _ => pure ()
        | none => fail
      else fail
    | _ => fail
  | _, _ => fail
theorem sim_updateA {t : TypeId} {x k v x' k' v' : Value} (hx : VR E x x') (hk : VR E k k') (hv : VR E v v') : Sim P lo w0 E H (updateA P lo t x k v : M I Unit) (Instr.mapUpdate t x' k' v') (fun _ _ _ => True) := by
  unfold updateA
  split
  · rename_i kt et n hu
    cases hx with
    | map hn =>
      refine Sim.rd fun ob => ?_
      cases ob with
      | map es clock =>
        cases hc : keyOK P false kt k with
        | false => simp only [hc]; exact Sim.fail
        | true =>
          simp only [hc, cond_true]
          have hg := (keyOK_run hc default).1
          have := gnd_eq hk 3 hg
          subst this
          split
          · rename_i j hf
            split
            · rename_i e he
              cases hsb : Instr.sameBits 10000 e.key k' with
              | false => exact Sim.fail
              | true =>
                refine Sim.wr fun E1 g w hE hR ⟨_, hgn⟩ o0 hg0 hlo => ?_
                obtain ⟨cs, h1, h2, h3⟩ := hR.amap hgn (hE _ _ hn)
                have hke := keysEq_of es.toList cs.toList (by simpa using h2) fun a c j ha hc' => (h3 a c j (by simpa using ha) (by simpa using hc')).1
                obtain ⟨e', he', hr⟩ := findA_some hf hke w
                have he'' : cs[j]? = some e' := by simpa using he'
                have hee := h3 e e' j he he''
                have hkeep : (Instr.keyThatStays (((cs[j]?).map (·.key)).getD k') k').run P w = .ok k' w := by
                  simp [he'', hee.1, Instr.keyThatStays, hsb]
                have hmod : cs.modify j (fun e => { e with key := k', val := v' }) = cs.setIfInBounds j ⟨k', v', e'.born⟩ := by
                  apply Array.ext_getElem?
                  intro i
                  rw [Array.getElem?_modify, Array.getElem?_setIfInBounds]
                  by_cases e1 : j = i
                  · subst e1
                    obtain ⟨h7, h8⟩ := Array.getElem?_eq_some_iff.1 he''
                    simp [h7, h8]
                  · simp [e1]
                refine ⟨(), _, _, _, _, ?_, hE _ _ hn, turned_setObj (o' := .map (cs.setIfInBounds j ⟨k', v', e'.born⟩) clock) h1, .map clock (by simpa using h2) fun a c i ha hc' => ?_, trivial⟩
                · simp only [Instr.mapUpdate, Sem.run_bind, run_underlying hu, Result.andThen_ok, run_getObj_map' h1, (keyOK_run hc w).2, hr, hkeep, hmod, run_setObj_map' h1]
                · rw [Array.getElem?_setIfInBounds] at ha hc'
                  by_cases e1 : j = i
                  · subst e1
                    simp only [if_true] at ha hc'
                    split at ha <;> split at hc' <;> first | (cases ha; done) | (cases hc'; done) | skip
                    cases ha; cases hc'
                    exact ⟨rfl, hee.2.1, hv.mono hE⟩
                  · rw [if_neg e1] at ha hc'
                    exact h3 a c i ha hc'
            · exact Sim.fail
          · rename_i hf
            refine Sim.wr fun E1 g w hE hR ⟨_, hgn⟩ o0 hg0 hlo => ?_
            obtain ⟨cs, h1, h2, h3⟩ := hR.amap hgn (hE _ _ hn)
            have hke := keysEq_of es.toList cs.toList (by simpa using h2) fun a c j ha hc' => (h3 a c j (by simpa using ha) (by simpa using hc')).1
            have hr := findA_none hf hke w
            refine ⟨(), _, _, _, _, ?_, hE _ _ hn, turned_setObj (o' := .map (cs.push ⟨k', v', clock⟩) (clock + 1)) h1, .map _ (by simp [h2]) fun a c i ha hc' => ?_, trivial⟩
            · simp only [Instr.mapUpdate, Sem.run_bind, run_underlying hu, Result.andThen_ok, run_getObj_map' h1, (keyOK_run hc w).2, hr, run_setObj_map' h1]
            · rw [Array.getElem?_push] at ha hc'
              rw [← h2] at hc'
              by_cases e1 : i = es.size
              · rw [if_pos e1] at ha hc'
                cases ha; cases hc'
                exact ⟨rfl, rfl, hv.mono hE⟩
              · rw [if_neg e1] at ha hc'
                exact h3 a c i ha hc'
          · exact Sim.fail
      | _ => exact Sim.fail
    | _ => exact Sim.fail
  · exact Sim.fail

/-! ### Lengths -/
def lenA (P : Program) (t : TypeId) (x : Value) : M I Value := match P.underlying t, x with
  | some .string, .string s => pure (.int .i64 s.size)
  | some (.array n _), _ => pure (.int .i64 n)
  | some (.slice _), .slice _ n _ => pure (.int .i64 n)
  | some (.map _ _), .map none => pure (.int .i64 0)
  | some (.map _ _), .map (some k) => rd k >>= fun ob => match ob with
    | .map es _ => pure (.int .i64 es.size)
    | _ => fail
  | _, _ => fail
theorem sim_lenA {ts : Array TypeId} {t ty : TypeId} {x x' : Value} (ht : ts[0]? = some t) (hx : VR E x x') : Sim P lo w0 E H (lenA P t x : M I Value) (Builtin.len_ ts ty #[x']) VR := by
  unfold lenA
  split
  · rename_i s hu
    cases hx
    exact Sim.val ⟨_, fun w => by simp [Builtin.len_, ht, run_underlying hu, goInt], .int _ _⟩
  · rename_i n e hu
    exact Sim.val ⟨_, fun w => by simp [Builtin.len_, ht, run_underlying hu, goInt], .int _ _⟩
  · rename_i e a n c hu
    cases hx <;> exact Sim.val ⟨_, fun w => by simp [Builtin.len_, ht, run_underlying hu, goInt], .int _ _⟩
  · rename_i k e hu
    cases hx
    exact Sim.val ⟨_, fun w => by simp [Builtin.len_, ht, run_underlying hu, goInt], .int _ _⟩
  · rename_i k e n hu
    cases hx with
    | map hn =>
      refine Sim.rd fun ob => ?_
      cases ob with
      | map es clock =>
        refine Sim.leaf fun E1 g w hE hR ⟨_, hgn⟩ => ?_
        obtain ⟨cs, h1, h2, h3⟩ := hR.amap hgn (hE _ _ hn)
        exact ⟨_, by simp [Builtin.len_, ht, run_underlying hu, run_getObj_map' h1, goInt, ← h2], .int _ _⟩
      | _ => exact Sim.fail
  · exact Sim.fail
/-- The capacity, where nothing is left open. -/
def capA (P : Program) (t : TypeId) (x : Value) : M I Value := match P.underlying t, x with
  | some (.slice _), .slice none _ c => pure (.int .i64 c)
  | some (.slice _), .slice (some ⟨_, _, none⟩) _ c => pure (.int .i64 c)
  | _, _ => fail
theorem sim_capA {ts : Array TypeId} {t ty : TypeId} {x x' : Value} (ht : ts[0]? = some t) (hx : VR E x x') : Sim P lo w0 E H (capA P t x : M I Value) (Builtin.cap_ ts ty #[x']) VR := by
  unfold capA
  split
  · rename_i e n c hu
    cases hx
    exact Sim.val ⟨_, fun w => by simp [Builtin.cap_, ht, run_underlying hu, goInt], .int _ _⟩
  · rename_i e k o n c hu
    cases hx
    exact Sim.val ⟨_, fun w => by simp [Builtin.cap_, ht, run_underlying hu, goInt], .int _ _⟩
  · exact Sim.fail

/-! ### Ranges over texts -/
def rangeA (P : Program) (t : TypeId) (x : Value) : M I Value := match P.underlying t, x with
  | some .string, .string s => new (.stringIter s 0) >>= fun k => pure (.pointer (some ⟨k, 0, none⟩))
  | _, _ => fail
theorem sim_rangeA {t : TypeId} {x x' : Value} (hx : VR E x x') : Sim P lo w0 E H (rangeA P t x : M I Value) (Instr.range t x') VR := by
  unfold rangeA
  split
  · rename_i s hu
    cases hx
    exact Sim.new fun E1 g w k hE hR _ hk => ⟨_, _, 0, _, run_range_string w t s hu, hR.alloc _, alloc_heap w _, fun i hi => Below.heap_alloc w _ i hi, .iter s 0, .ptr (r := 0) (by simp [Env.put])⟩
  · exact Sim.fail
theorem blt_eq (a b : Nat) : Nat.blt a b = decide (a < b) := by
  rw [Bool.eq_iff_iff, decide_eq_true_eq, show Nat.blt a b = Nat.ble (a + 1) b from rfl, Nat.ble_eq]
  exact Iff.rfl
def nextA (lo : Lim) (x : Value) (isS : Bool) : M I Value := match x, isS with
  | .pointer (some ⟨k, 0, none⟩), true => rd k >>= fun ob => match ob with
    | .stringIter s p => bif Nat.blt p s.size then match Utf8.decode s p with
        | (c, wd) => wr lo k (some (.stringIter s (p + wd))) >>= fun _ => pure (.tuple #[.bool true, .int .i64 p, .int .i32 c])
      else pure (.tuple #[.bool false])
    | _ => fail
  | _, _ => fail
theorem Rel.iter {g : Nat → Option Obj} {w : World} (h : Rel P lo w0 E g w) {k p : Nat} {s : ByteArray} (hg : g k = some (.stringIter s p)) {b r : Nat} (hE : E k = some (b, r)) : w.heap[b]? = some (.stringIter s p) := by
  obtain ⟨b', r', co, h1, h2, h3⟩ := h.tie k _ hg
  rw [h1] at hE; cases hE
  cases h3
  exact h2
theorem sim_nextA {x x' : Value} {isS : Bool} {ty : TypeId} (hx : VR E x x') : Sim P lo w0 E H (nextA lo x isS : M I Value) (Instr.next x' isS ty) VR := by
  unfold nextA
  split
  · rename_i k
    cases hx with
    | ptr hk =>
      refine Sim.rd fun ob => ?_
      cases ob with
      | stringIter s p =>
        cases hb : Nat.blt p s.size with
        | true =>
          have hlt : p < s.size := by rw [blt_eq] at hb; simpa using hb
          simp only [hb, cond_true]
          generalize hd : Utf8.decode s p = cw
          obtain ⟨c, wd⟩ := cw
          simp only
          refine Sim.wr fun E1 g w hE hR ⟨_, hg⟩ o0 hg0 hlo => ?_
          have h1 := hR.iter hg (hE _ _ hk)
          refine ⟨_, _, _, _, _, ?_, hE _ _ hk, turned_setObj (o' := .stringIter s (p + wd)) h1, .iter _ _, .tuple rfl fun a v j ha hv => ?_⟩
          · simp [Instr.next, getObj, setObj, Sem.run, h1, hlt, hd, goInt]
          · have : gnd 0 a = true := by
              rcases j with _ | _ | _ | j <;> simp at ha <;> subst ha <;> rfl
            rw [ha] at hv; cases hv
            exact gnd_refl _ 0 a this
        | false =>
          have hlt : ¬ p < s.size := by rw [blt_eq] at hb; simpa using hb
          simp only [hb, cond_false]
          refine Sim.leaf fun E1 g w hE hR ⟨_, hg⟩ => ?_
          have h1 := hR.iter hg (hE _ _ hk)
          exact ⟨_, by simp [Instr.next, getObj, Sem.run, h1, hlt], gnd_refl _ 1 _ rfl⟩
      | _ => exact Sim.fail
  · exact Sim.fail

/-! ### Bytes as a text -/
def bytesOf : List Value → Option (List UInt8)
  | [] => some []
  | .int .u8 n :: l => match bytesOf l with
    | some r => some (UInt8.ofNat n.toNat :: r)
    | none => none
  | _ :: _ => none
/-- ==, != where one side is nil. -/
def eqNil (P : Program) (t : TypeId) (x y : Value) : Option Bool := match P.underlying t, x, y with
  | some (.slice _), .slice none _ _, .slice b _ _ => some b.isNone
  | some (.slice _), .slice (some _) _ _, .slice none _ _ => some false
  | some (.map _ _), .map none, .map b => some b.isNone
  | some (.map _ _), .map (some _), .map none => some false
  | some (.func _ _ _), .nilFunc, .func _ _ _ => some false
  | some (.func _ _ _), .func _ _ _, .nilFunc => some false
  | some (.pointer _), .pointer none, .pointer b => some b.isNone
  | some (.pointer _), .pointer (some _), .pointer none => some false
  | some (.interface _), .nilIface, .iface _ _ => some false
  | some (.interface _), .iface _ _, .nilIface => some false
  | _, _, _ => none
theorem eqNil_equal {t : TypeId} {x y x' y' : Value} {b : Bool} (h : eqNil P t x y = some b) (hx : VR E x x') (hy : VR E y y') (d : Nat) (w : World) : (Op.equalIn (d + 1) t x' y').run P w = .ok b w := by
  unfold eqNil at h
  split at h <;> first | (cases h; done) | skip
  all_goals
    rename_i hu
    cases hx <;> cases hy <;> simp at h <;> subst h <;> simp [Op.equalIn, run_underlying hu]
theorem eqNil_guard {t : TypeId} {x y x' y' : Value} {b : Bool} (h : eqNil P t x y = some b) (hx : VR E x x') (hy : VR E y y') (op : BinOp) (X Y : Operand) (w : World) : (eqGuard op t X Y x' y').run P w = .ok () w := by
  unfold eqNil at h
  split at h <;> first | (cases h; done) | skip
  all_goals
    cases hx <;> cases hy <;> first | (simp at h; done) | (cases op <;> simp [eqGuard])
theorem eqNil_bin {t : TypeId} {x y x' y' : Value} {b : Bool} (h : eqNil P t x y = some b) (hx : VR E x x') (hy : VR E y y') : binOp .eql t x' y' = (do pure (.bool (← Op.equal t x' y')) : Sem Value) ∧ binOp .neq t x' y' = (do pure (.bool (!(← Op.equal t x' y'))) : Sem Value) := by
  unfold eqNil at h
  split at h <;> first | (cases h; done) | skip
  all_goals
    cases hx <;> cases hy <;> first | exact ⟨rfl, rfl⟩ | (simp at h; done)
theorem eqNil_run {t : TypeId} {x y x' y' : Value} {b : Bool} (h : eqNil P t x y = some b) (hx : VR E x x') (hy : VR E y y') (X Y : Operand) (w : World) :
    (do eqGuard .eql t X Y x' y'; binOp .eql t x' y' : Sem Value).run P w = .ok (.bool b) w ∧ (do eqGuard .neq t X Y x' y'; binOp .neq t x' y' : Sem Value).run P w = .ok (.bool (!b)) w := by
  obtain ⟨h1, h2⟩ := eqNil_bin h hx hy
  have h3 : (Op.equal t x' y').run P w = .ok b w := eqNil_equal h hx hy 9999 w
  constructor
  · simp only [Sem.run_bind, eqNil_guard h hx hy, Result.andThen_ok, h1, h3, Sem.run_pure]
  · simp only [Sem.run_bind, eqNil_guard h hx hy, Result.andThen_ok, h2, h3, Sem.run_pure]
end Go.Am

/- The abstract evaluator: one operation. Conditions: none. -/
namespace Go.Am
open Go Go.RowKit
set_option linter.unusedVariables false
set_option linter.unusedSimpArgs false
variable {μ : Type} {I : MemI μ} {P : Program} {lo : Lim} {w0 : Bs} {E : Env} {H : (Nat → Option Obj) → Prop}

/-- How an operation ends. -/
inductive OpRes where
  | val (v : Value)
  | panic (v : Value)
  | call (f : FuncId) (args : Array Value)
  | defer (d : Deferred)
  | recover
  | round (k : Nat) (tmps : Array Value) (assign body : Code)

def DR (E : Env) (d d' : Deferred) : Prop := (∃ f cap cap', d.target = .fn (.func f) cap ∧ d'.target = .fn (.func f) cap' ∧ ARl E cap cap' ∧ ARl E d.args d'.args) ∨ ∃ k b q, d.target = .collected k ∧ d'.target = .collected b ∧ E k = some (b, q)
/-- An operation's end against the model's. -/
def NR (E : Env) : OpRes → Next → Prop
  | .val v, .value v' => VR E v v'
  | .val v, .skip => v = undef
  | .call f as, .enter f' cs => f = f' ∧ ARl E as cs
  | .defer d, .defer d' => DR E d d'
  | .recover, .recover => True
  | .round k ts a b, .round l _ cs a' b' => a' = a ∧ b' = b ∧ (∃ q, E k = some (l, q)) ∧ ARl E ts cs
  | _, _ => False

abbrev Ev := Operand → Option Value
def evT (ev : Ev) (x : Operand) : Value := (ev x).getD undef

def liftV (m : M I Value) : M I OpRes := m >>= fun v => pure (.val v)
def liftU (m : M I Unit) : M I OpRes := m >>= fun _ => pure (.val undef)
theorem sim_liftV {m : M I Value} {c : Sem Value} (h : Sim P lo w0 E H m c VR) : Sim P lo w0 E H (liftV m) (do pure (.value (← c)) : Sem Next) NR :=
  Sim.bind h fun E1 a b hE hab => Sim.pure fun E2 hE2 => hab.mono hE2
theorem sim_liftU {m : M I Unit} {c : Sem Unit} (h : Sim P lo w0 E H m c (fun _ _ _ => True)) : Sim P lo w0 E H (liftU m) (do c; pure .skip : Sem Next) NR :=
  Sim.bind h fun E1 a b hE hab => Sim.pure fun E2 hE2 => rfl

/-! ### What does not look at the world -/
def gndV (v : Value) : Bool := gnd 3 v
def pureOp (P : Program) (ev : Ev) (o : Oper) : M I OpRes :=
  bif o.op.operands.toList.all (fun x => match ev x with | some v => gnd 3 v | none => false) then
    match pureRun P (execOp (evT ev) o) with
    | some (.value v) => bif gnd 3 v then pure (.val v) else fail
    | _ => fail
  else fail
theorem sim_pureOp {ev : Ev} {ρ : Operand → Value} {o : Oper} (hρ : ∀ x v, ev x = some v → VR E v (ρ x)) (hs : ∀ cs b, o.op ≠ .select cs b) : Sim P lo w0 E H (pureOp P ev o : M I OpRes) (execOp ρ o) NR := by
  unfold pureOp
  cases hb : o.op.operands.toList.all (fun x => match ev x with | some v => gnd 3 v | none => false) with
  | false => exact Sim.fail
  | true =>
    simp only [cond_true]
    have he : execOp (evT ev) o = execOp ρ o := execOp_congr o hs fun x hx => by
      have h1 := List.all_eq_true.1 hb x (by simpa using hx)
      unfold evT
      cases hv : ev x with
      | none => rw [hv] at h1; cases h1
      | some v =>
        rw [hv] at h1
        exact (gnd_eq (hρ x v hv) 3 h1).symm
    split
    · rename_i v hp
      cases hg : gnd 3 v with
      | false => exact Sim.fail
      | true =>
        rw [he] at hp
        exact Sim.leaf fun E1 g w hE _ _ => ⟨_, pureRun_run hp w, gnd_refl E1 3 v hg⟩
    · exact Sim.fail

/-! ### Rows of operands -/
def evs (ev : Ev) : List Operand → Option (List Value)
  | [] => some []
  | x :: xs => match ev x with
    | some v => match evs ev xs with
      | some vs => some (v :: vs)
      | none => none
    | none => none
theorem evs_rel {ev : Ev} {ρ : Operand → Value} (hρ : ∀ x v, ev x = some v → VR E v (ρ x)) : ∀ (xs : List Operand) (vs : List Value), evs ev xs = some vs → LR E vs (xs.map ρ)
  | [], vs, h => by simp [evs] at h; subst h; exact ⟨rfl, fun a c j ha => by simp at ha⟩
  | x :: xs, vs, h => by
    simp only [evs] at h
    split at h
    · rename_i v hv
      split at h
      · rename_i vs' hvs
        cases h
        have ih := evs_rel hρ xs vs' hvs
        refine ⟨by simp [ih.1], fun a c j ha hc => ?_⟩
        rcases j with _ | j
        · simp at ha hc; subst ha; subst hc; exact hρ x v hv
        · simp at ha hc; exact ih.2 a c j ha (by simpa using hc)
      · cases h
    · cases h
theorem LR.arr {as cs : List Value} (h : LR E as cs) : ARl E as.toArray cs.toArray := ⟨by simpa using h.1, fun a c j ha hc => h.2 a c j (by simpa using ha) (by simpa using hc)⟩
theorem ARl.lst {as cs : Array Value} (h : ARl E as cs) : LR E as.toList cs.toList := ⟨by simpa using h.1, fun a c j ha hc => h.2 a c j (by simpa using ha) (by simpa using hc)⟩
theorem evs_arr {ev : Ev} {ρ : Operand → Value} (hρ : ∀ x v, ev x = some v → VR E v (ρ x)) {xs : Array Operand} {vs : List Value} (h : evs ev xs.toList = some vs) : ARl E vs.toArray (xs.map ρ) := by
  have := (evs_rel hρ _ _ h).arr
  rwa [show ((xs.toList.map ρ).toArray : Array Value) = xs.map ρ by rw [← Array.toList_map]] at this
def evps (ev : Ev) : List (Nat × Operand) → Option (List (Nat × Value))
  | [] => some []
  | (i, x) :: xs => match ev x with
    | some v => match evps ev xs with
      | some vs => some ((i, v) :: vs)
      | none => none
    | none => none
theorem evps_rel {ev : Ev} {ρ : Operand → Value} (hρ : ∀ x v, ev x = some v → VR E v (ρ x)) : ∀ (xs : List (Nat × Operand)) (vs : List (Nat × Value)), evps ev xs = some vs → PR E vs (xs.map fun (i, x) => (i, ρ x))
  | [], vs, h => by simp [evps] at h; subst h; trivial
  | (i, x) :: xs, vs, h => by
    simp only [evps] at h
    split at h
    · rename_i v hv
      split at h
      · rename_i vs' hvs
        cases h
        exact ⟨rfl, hρ x v hv, evps_rel hρ xs vs' hvs⟩
      · cases h
    · cases h
def evo (ev : Ev) : Option Operand → Option (Option Value)
  | none => some none
  | some x => match ev x with
    | some v => some (some v)
    | none => none
theorem evo_rel {ev : Ev} {ρ : Operand → Value} (hρ : ∀ x v, ev x = some v → VR E v (ρ x)) {x : Option Operand} {v : Option Value} (h : evo ev x = some v) : OVR E v (x.map ρ) := by
  cases x with
  | none => simp [evo] at h; subst h; trivial
  | some x =>
    simp only [evo] at h
    split at h
    · rename_i u hu; cases h; exact hρ x u hu
    · cases h

/-! ### Texts out of bytes -/
def strA (P : Program) (src dst : TypeId) (x : Value) : M I Value := match P.underlying src, P.underlying dst, x with
  | some (.slice e), some .string, .slice (some ⟨k, o, _⟩) n _ => match P.underlying e with
    | some (.int .u8) => rd k >>= fun ob => match ob with
      | .cells c _ _ => bif Nat.ble (o + n) c.size then match bytesOf ((c.toList.drop o).take n) with
          | some bs => pure (.string ⟨bs.toArray⟩)
          | none => fail
        else fail
      | _ => fail
    | _ => fail
  | _, _, _ => fail
theorem bytesOf_spec : ∀ (l : List Value) (bs : List UInt8), bytesOf l = some bs → ∃ ns : List Int, l = ns.map (Value.int .u8) ∧ bs = ns.map fun n => UInt8.ofNat n.toNat
  | [], bs, h => by simp [bytesOf] at h; subst h; exact ⟨[], rfl, rfl⟩
  | v :: l, bs, h => by
    unfold bytesOf at h
    split at h
    · rename_i h0; cases h0
    · rename_i n l' h0
      cases h0
      split at h
      · rename_i r hr
        cases h
        obtain ⟨ns, rfl, rfl⟩ := bytesOf_spec l r hr
        exact ⟨n :: ns, rfl, rfl⟩
      · cases h
    · cases h
theorem fold_push : ∀ (ns : List Int) (s : ByteArray), ns.foldl (fun r n => r.push (UInt8.ofNat n.toNat)) s = ⟨s.data ++ (ns.map fun n => UInt8.ofNat n.toNat).toArray⟩
  | [], s => by simp
  | n :: ns, s => by
    rw [List.foldl_cons, fold_push ns]
    congr 1
    apply Array.toList_inj.1
    simp [ByteArray.push]
theorem sim_strA {src dst : TypeId} {x x' : Value} (hx : VR E x x') : Sim P lo w0 E H (strA P src dst x : M I Value) (convert src dst x') VR := by
  unfold strA
  split
  · rename_i e k o sp n cp hs hd
    split
    · rename_i he
      have key : ∀ (b r c' : Nat), E k = some (b, r) → Sim P lo w0 E H (rd k >>= fun ob => match ob with
          | .cells c _ _ => bif Nat.ble (o + n) c.size then match bytesOf ((c.toList.drop o).take n) with
              | some bs => (pure (.string ⟨bs.toArray⟩) : M I Value)
              | none => fail
            else fail
          | _ => fail) (convert src dst (.slice (some ⟨b, o, none⟩) n c')) VR := fun b r c' hk => by
        refine Sim.rd fun ob => ?_
        cases ob with
        | cells c e' fr =>
          cases hb : Nat.ble (o + n) c.size with
          | false => simp only [hb]; exact Sim.fail
          | true =>
            have hle := Nat.le_of_ble_eq_true hb
            simp only [hb, cond_true]
            split
            · rename_i bs hbs
              obtain ⟨ns, h1, rfl⟩ := bytesOf_spec _ _ hbs
              refine Sim.leaf fun E1 g w hE hR ⟨_, hg⟩ => ?_
              obtain ⟨cs, fr', h2, h3, _, h4⟩ := hR.cells hg (hE _ _ hk)
              have hseg : (cs.toList.drop o).take n = ns.map (Value.int .u8) := by
                rw [← h1]
                apply List.ext_getElem?
                intro j
                rw [seg_getElem?, seg_getElem?]
                split
                · rename_i hj
                  have hc : c[o + j]? = some c[o + j] := by simp
                  have hc' : cs[o + j]? = some cs[o + j] := by simp
                  have hv := h4 _ _ _ hc hc'
                  rw [hc, hc']
                  have hmem : c[o + j] ∈ (c.toList.drop o).take n := List.mem_of_getElem? (i := j) (by rw [seg_getElem?, if_pos hj, hc])
                  rw [h1] at hmem
                  obtain ⟨m, _, hm⟩ := List.mem_map.1 hmem
                  rw [gnd_eq hv 0 (by rw [← hm]; rfl)]
                · rfl
              have hlen : ((cs.toList.drop o).take n).length = n := by simp; omega
              have hl := run_loadCells_list (P := P) w ⟨b, o, none⟩ ((cs.toList.drop o).take n) (fun j v hj => by
                rw [seg_getElem?] at hj
                split at hj
                · rw [add_lit0, cell_of h2]; exact hj
                · cases hj)
              rw [hlen, hseg] at hl
              refine ⟨_, by rw [run_convert_bytes_string w src dst e _ n c' hs he hd, run_bytesToString w _ n c' ns hl], ?_⟩
              rw [fold_push]
              have : (ByteArray.empty.data ++ (ns.map fun n => UInt8.ofNat n.toNat).toArray) = (ns.map fun n => UInt8.ofNat n.toNat).toArray := by
                show (#[] : Array UInt8) ++ _ = _
                simp
              rw [this]
              exact .string _
            · exact Sim.fail
        | _ => exact Sim.fail
      cases hx with
      | slice _ _ hk => exact key _ _ _ hk
      | wide _ _ hk => exact key _ _ _ hk
    · exact Sim.fail
  · exact Sim.fail
end Go.Am
