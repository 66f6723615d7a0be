/- The abstract evaluator: append, copy. Conditions: none. -/
import Derived.Test.YtbgjanmheagilaaDoorAmE
namespace Go.Am
open Go Go.RowKit
set_option linter.unusedVariables false
set_option linter.unusedSimpArgs false
variable {μ : Type} {I : MemI μ} {P : Program} {lo : Lim} {w0 : Bs} {E : Env} {H : (Nat → Option Obj) → Prop}

/-- How many elements a source has. -/
def lenS : Value → Option Nat
  | .slice _ n _ => some n
  | .string s => some s.size
  | _ => none
theorem lenS_run {x x' : Value} {n : Nat} (h : lenS x = some n) (hx : VR E x x') (w : World) : (Builtin.lenOf x').run P w = .ok n w := by
  cases hx <;> simp [lenS] at h <;> subst h <;> rfl

/-- Whether a type is an integer's: append of a make. -/
def isInt (P : Program) (t : TypeId) : Option Bool := match P.underlying t with
  | some (.int _) => some true
  | some _ => some false
  | none => none

def appendA (P : Program) (lo : Lim) (st xt : TypeId) (s x : Value) : M I Value :=
  match P.underlying st, isInt P xt, s, lenS x with
  | some (.slice e), some false, .slice a n cap, some m => match P.info? e, zeroOf P e with
    | some ie, some z =>
      bif Nat.ble (n + m) cap then match a with
        | none => bif Nat.beq m 0 then pure (.slice none (n + m) cap) else fail
        | some a => srcA ie.size m x >>= fun news => putA lo a.block (a.off + n * ie.size) news >>= fun _ => pure (.slice (some a) (n + m) cap)
      else bif Nat.ble ((n + m) * ie.bytes) 140737488355328 && Nat.ble (n + m) 9223372036854775807 && Nat.beq z.cells.size ie.size then match a with
        | none => bif Nat.beq n 0 then srcA ie.size m x >>= fun news => bif Nat.beq news.length (m * ie.size) then new (.cells news.toArray e (0, 0)) >>= fun k => pure (.slice (some ⟨k, 0, some 0⟩) (n + m) (n + m)) else fail else fail
        | some ⟨k0, o, none⟩ => srcA ie.size n s >>= fun olds => srcA ie.size m x >>= fun news => bif Nat.beq news.length (m * ie.size) then
            new (.cells (olds ++ news).toArray e (0, 0)) >>= fun k => pure (.slice (some ⟨k, 0, some 0⟩) (n + m) (n + m)) else fail
        | some ⟨k0, 0, some 0⟩ => srcA ie.size n s >>= fun olds => srcA ie.size m x >>= fun news => bif Nat.beq news.length (m * ie.size) then rd k0 >>= fun ob => match ob with
            | .cells c e' (0, 0) => bif Nat.beq c.size (cap * ie.size) && Nat.beq e' e && news.all Value.oneCell' then
                wr lo k0 none >>= fun _ => new (.cells (olds ++ news).toArray e (0, 0)) >>= fun k => pure (.slice (some ⟨k, 0, some 0⟩) (n + m) (n + m)) else fail
            | _ => fail else fail
        | _ => fail
      else fail
    | _, _ => fail
  | _, _, _, _ => fail

theorem isInt_run {t : TypeId} (h : isInt P t = some false) : ∃ d, P.underlying t = some d ∧ ∀ k, d ≠ .int k := by
  unfold isInt at h
  split at h
  · cases h
  · rename_i d hn hd
    exact ⟨d, hd, fun k e => hn k e⟩
  · cases h

theorem run_append_place {st xt ty e : TypeId} {ie : TypeInfo} {x' : Value} {b o n cap m : Nat} {vs : List Value} {w : World} (hu : P.underlying st = some (.slice e)) (hi : isInt P xt = some false) (hie : P.info? e = some ie)
    (hl : (Builtin.lenOf x').run P w = .ok m w) (hle : n + m ≤ cap) (hf : (Builtin.firstCells ie.size m x').run P w = .ok vs.toArray w) :
    (Builtin.append_ #[st, xt] ty #[.slice (some ⟨b, o, none⟩) n cap, x']).run P w = ((storeCells ⟨b, o + n * ie.size, none⟩ vs).run P w).andThen fun _ w' => .ok (.slice (some ⟨b, o, none⟩) (n + m) cap) w' := by
  obtain ⟨d, hd, hn⟩ := isInt_run hi
  simp [Builtin.append_, run_underlying hu, run_underlying hd, sizeOf, typeInfo, hie, hl, hle, hf, add_lit0]

theorem run_append_none {st xt ty e : TypeId} {ie : TypeInfo} {x' : Value} {n cap m : Nat} {w : World} (hu : P.underlying st = some (.slice e)) (hi : isInt P xt = some false) (hie : P.info? e = some ie)
    (hl : (Builtin.lenOf x').run P w = .ok m w) (hle : n + m ≤ cap) (hf : ∃ vs, (Builtin.firstCells ie.size m x').run P w = .ok vs w) :
    (Builtin.append_ #[st, xt] ty #[.slice none n cap, x']).run P w = .ok (.slice none (n + m) cap) w := by
  obtain ⟨d, hd, hn⟩ := isInt_run hi
  obtain ⟨vs, hf⟩ := hf
  simp [Builtin.append_, run_underlying hu, run_underlying hd, sizeOf, typeInfo, hie, hl, hle, hf]

theorem run_append_fresh {st xt ty e : TypeId} {ie : TypeInfo} {z : Value} {x' : Value} {a : Option Addr} {n cap m : Nat} {olds vs : List Value} {w : World} (hu : P.underlying st = some (.slice e)) (hi : isInt P xt = some false) (hie : P.info? e = some ie)
    (hz : ie.zero = some z) (hl : (Builtin.lenOf x').run P w = .ok m w) (hlt : cap < n + m) (hbytes : (n + m) * ie.bytes ≤ 140737488355328) (h63 : n + m ≤ 9223372036854775807)
    (ho : (Builtin.firstCells ie.size n (.slice a n cap)).run P w.drew = .ok olds.toArray w.drew) (hf : (Builtin.firstCells ie.size m x').run P w.drew = .ok vs.toArray w.drew) :
    (Builtin.append_ #[st, xt] ty #[.slice a n cap, x']).run P w = .ok (.slice (some ⟨w.heap.size, 0, none⟩) (n + m) (grownCap w (n + m) cap e))
      (w.drew.alloc (.cells ((olds ++ vs).toArray ++ Builtin.zeroCells z.cells (grownCap w (n + m) cap e - (n + m))) e)) := by
  obtain ⟨d, hd, hn⟩ := isInt_run hi
  have hn1 : ¬ (n + m ≤ cap) := by omega
  have h63' : ¬ (9223372036854775807 < ((n : Int) + (m : Int))) := by omega
  have h48 := growslice_fits hlt hbytes
  have h48' : ¬ (281474976710656 < Builtin.nextslicecap (n + m) cap * ie.bytes) := by omega
  simp [Builtin.append_, run_underlying hu, run_underlying hd, sizeOf, typeInfo, zeroValue, hie, hz, hl, hn1, h63', h48', Question.forced, hf, ho, newRow, grownCap]
  congr 2
  apply Array.ext'
  simp [List.append_assoc]

theorem Sim.point {α β : Type} {m : M I α} {c : Sem β} {R : Env → α → β → Prop} (h : ∀ E1 g w, (∀ k x, E k = some x → E1 k = some x) → Rel P lo w0 E1 g w → H g → ∃ c', c.run P w = c'.run P w ∧ Sim P lo w0 E1 noH m c' R) : Sim P lo w0 E H m c R := by
  intro s a s' hr E1 g w hE hR hA hF hH
  obtain ⟨c', hc, hs⟩ := h E1 g w hE hR hH
  obtain ⟨E2, d, w1, h1, h2, h3, h4⟩ := hs s a s' hr E1 g w (fun _ _ h => h) hR hA hF trivial
  exact ⟨E2, d, w1, by rw [hc]; exact h1, h2, h3, h4⟩

/-- A new name that takes the place of an old one. -/
theorem sim_newkill {α β : Type} {k0 : Nat} {o : Obj} {f : Nat → α} {c : Sem β} {R : Env → α → β → Prop} (h : ∀ E1 g w k, (∀ k x, E k = some x → E1 k = some x) → Rel P lo w0 E1 g w → H g → E1 k = none → lo.lo ≤ k0 → ∀ o0, g k0 = some o0 →
    ∃ b w' bl r co, c.run P w = .ok b w' ∧ Below w0.w.heap.size w0.w w' ∧ w0.w.heap.size ≤ bl ∧ w'.heap[bl]? = some co ∧ (∀ i, i ≠ bl → i < w.heap.size → w'.heap[i]? = w.heap[i]?) ∧ (bl = w.heap.size ∨ ∃ r', E1 k0 = some (bl, r')) ∧ OR P (E1.put k bl r) r o co ∧ R (E1.put k bl r) (f k) b) :
    Sim P lo w0 E H (wr lo k0 none >>= fun _ => new o >>= fun k => (Pure.pure (f k) : M I α)) c R := by
  intro s a' s' hr E1 g w hE hR hA hF hH
  obtain ⟨u, s1, hr3, hr2⟩ := bind_run hr
  obtain ⟨k, s2, hr1, hr4⟩ := bind_run hr2
  obtain ⟨rfl, rfl⟩ := pure_run hr4
  obtain ⟨d1, ⟨o0, d2⟩, d3, d4, d5, d6⟩ := wr_run hr3
  obtain ⟨rfl, e2, e3, e4, e5, e6⟩ := new_run hr1
  have l2 := (new o : M I Nat).le _ _ _ hr1
  have hk : E1 s1.next = none := hF s1.next (by omega) (by omega)
  have hg0 : g k0 = I.get s.mem k0 := hA _ (by rw [l2.W _ (by rw [d5]; simp), Bool.or_true])
  have hg : g k0 = some o0 := by rw [hg0, d2]
  have hkk : k0 ≠ s1.next := fun e => by
    obtain ⟨b', r', co', h1, _⟩ := hR.tie _ _ hg
    rw [e, hk] at h1; cases h1
  obtain ⟨b, w', bl, r, co, h1, h2, h3, h4, h5, h6, h7, h8⟩ := h E1 g w s1.next hE hR hH hk d1 o0 hg
  refine ⟨E1.put s1.next bl r, b, w', h1, ⟨Env.put_keep hk, fun i hi => ?_⟩, h8, ?_⟩
  · by_cases e : i = s1.next
    · subst e; exact .inr ⟨by omega, by omega⟩
    · simp [Env.put, e] at hi; exact .inl (by simpa using hi)
  · have hm : merge I s' g = fun i => if i = s1.next then some o else if i = k0 then none else g i := by
      funext i
      unfold merge
      by_cases ei : i = s1.next
      · subst ei
        rw [if_pos (by rw [e5]; simp), e6, if_pos rfl, if_pos rfl]
      · rw [if_neg ei]
        by_cases e0 : i = k0
        · subst e0
          rw [if_pos (by rw [e5, d5]; simp), e6, if_neg ei, d6, if_pos rfl, if_pos rfl]
        · rw [if_neg e0]
          split
          · rename_i hw
            rw [e6, if_neg ei, d6, if_neg e0]
            exact (hA i (by rw [hw, Bool.or_true])).symm
          · rfl
    rw [hm]
    refine (hR.kill k0).name hk h2 h3 h4 h5 (fun i o' r' hi he => ?_) h7
    by_cases e0 : i = k0
    · simp [e0] at hi
    · simp [e0] at hi
      rcases h6 with rfl | ⟨r2, h6⟩
      · exact absurd (hR.lt hi he) (Nat.lt_irrefl _)
      · exact e0 (hR.inj _ _ _ _ _ _ _ hi hg he h6)

theorem rel_drew {g : Nat → Option Obj} {w : World} (h : Rel P lo w0 E g w) : Rel P lo w0 E g w.drew := ⟨h.below.drew, h.tie, h.inj, h.own, h.old, h.kept⟩

theorem LR.append {as bs cs ds : List Value} (h : LR E as cs) (k : LR E bs ds) : LR E (as ++ bs) (cs ++ ds) := by
  refine ⟨by simp [h.1, k.1], fun a c j ha hc => ?_⟩
  by_cases hj : j < as.length
  · rw [List.getElem?_append_left hj] at ha
    rw [List.getElem?_append_left (by rw [← h.1]; exact hj)] at hc
    exact h.2 a c j ha hc
  · rw [List.getElem?_append_right (by omega)] at ha
    rw [List.getElem?_append_right (by rw [← h.1]; omega), ← h.1] at hc
    exact k.2 a c _ ha hc

/-- What a fresh append leaves is an object. -/
theorem fresh_obj {as cs : List Value} {e : TypeId} {ie : TypeInfo} {z : Value} {r : Nat} (h : LR E as cs) (hie : P.info? e = some ie) (hz : z.cells.size = ie.size) :
    OR P E r (.cells as.toArray e (0, 0)) (.cells (cs.toArray ++ Builtin.zeroCells z.cells r) e (0, 0)) := by
  refine .cells ?_ fun a c j ha hc => ?_
  · simp [size_zeroCells, hz, cellsOf_eq hie, h.1]
  · have hj : j < as.length := by
      have := (Array.getElem?_eq_some_iff.1 ha).1
      simpa using this
    rw [Array.getElem?_append_left (by simpa [← h.1] using hj)] at hc
    exact h.2 a c j (by simpa using ha) (by simpa using hc)

theorem zeroOf_info {t : TypeId} {z : Value} {i : TypeInfo} (h : zeroOf P t = some z) (hi : P.info? t = some i) : i.zero = some z := by
  unfold zeroOf at h
  rw [hi] at h
  simp only at h
  split at h
  · rename_i z' hz'
    cases hg : gnd 3 z' with
    | true => rw [hg] at h; simp at h; rw [hz', h]
    | false => rw [hg] at h; simp at h
  · cases h

theorem sim_append_fresh {st xt ty e : TypeId} {ie : TypeInfo} {z : Value} {s s' x x' : Value} {a' : Option Addr} {n cap m : Nat} {olds news : List Value} (hu : P.underlying st = some (.slice e)) (hi : isInt P xt = some false) (hie : P.info? e = some ie)
    (hz : zeroOf P e = some z) (hzs : z.cells.size = ie.size) (hm : lenS x = some m) (hx : VR E x x') (hs' : s' = .slice a' n cap) (hlt : cap < n + m) (hbytes : (n + m) * ie.bytes ≤ 140737488355328) (h63 : n + m ≤ 9223372036854775807)
    (hold : ∀ E1 g w, (∀ k x, E k = some x → E1 k = some x) → Rel P lo w0 E1 g w → H g → ∃ olds', (Builtin.firstCells ie.size n (.slice a' n cap)).run P w.drew = .ok olds'.toArray w.drew ∧ LR E1 olds olds' ∧ olds.length = n * ie.size)
    (hsrc : ∀ g, H g → SrcH ie.size m x news g) (hnl : news.length = m * ie.size) :
    Sim P lo w0 E H (new (.cells (olds ++ news).toArray e (0, 0)) >>= fun k => (pure (.slice (some ⟨k, 0, some 0⟩) (n + m) (n + m)) : M I Value)) (Builtin.append_ #[st, xt] ty #[s', x']) VR := by
  subst hs'
  refine Sim.new fun E1 g w k hE hR hH hk => ?_
  obtain ⟨olds', ho, hlo, hol⟩ := hold E1 g w hE hR hH
  obtain ⟨news', hn, hln, _⟩ := (hsrc g hH).run (w1 := w.drew) hR (hx.mono hE) rfl
  have hrun := run_append_fresh (P := P) (ty := ty) (w := w) hu hi hie (zeroOf_info hz hie) (lenS_run hm (hx.mono hE) w) hlt hbytes h63 ho hn
  have hge := grownCap_ge w (n + m) cap e
  refine ⟨_, _, grownCap w (n + m) cap e - (n + m), _, hrun, (rel_drew hR).alloc _, alloc_heap w.drew _, fun i hi => Below.heap_alloc w.drew _ i hi, ?_, ?_⟩
  · have hL := hlo.append hln
    exact fresh_obj (ie := ie) ⟨hL.1, fun a c j ha hc => (hL.2 a c j ha hc).mono (Env.put_keep hk)⟩ hie hzs
  · have hw := VR.wide (E := E1.put k w.heap.size (grownCap w (n + m) cap e - (n + m))) (o := 0) (n + m) (n + m) (by simp [Env.put] : (E1.put k w.heap.size (grownCap w (n + m) cap e - (n + m))) k = some (w.heap.size, grownCap w (n + m) cap e - (n + m)))
    rwa [show n + m + (grownCap w (n + m) cap e - (n + m)) = grownCap w (n + m) cap e by omega] at hw

theorem sim_appendA {st xt ty : TypeId} {s x s' x' : Value} (hs : VR E s s') (hx : VR E x x') : Sim P lo w0 E noH (appendA P lo st xt s x : M I Value) (Builtin.append_ #[st, xt] ty #[s', x']) VR := by
  unfold appendA
  split
  · rename_i e a n cap m hu hi hm
    split
    · rename_i ie z hie hz
      cases hle : Nat.ble (n + m) cap with
      | true =>
        have hle' := Nat.le_of_ble_eq_true hle
        simp only [cond_true]
        cases hs with
        | nils =>
          cases hm0 : Nat.beq m 0 with
          | false => exact Sim.fail
          | true =>
            have hm0 := Nat.eq_of_beq_eq_true hm0
            subst hm0
            refine Sim.val ⟨_, fun w => run_append_none hu hi hie (lenS_run hm hx w) hle' ?_, .nils _ _⟩
            cases hx <;> simp [lenS] at hm <;> first | exact ⟨_, by simp [Builtin.firstCells, loadCells, loadCellsFrom]; rfl⟩ | exact ⟨_, by simp [Builtin.firstCells]; rfl⟩
        | @slice k o b r _ _ hk =>
          refine sim_src fun news => Sim.point fun E1 g w hE hR ⟨_, hH⟩ => ?_
          obtain ⟨news', hn, hln, _⟩ := hH.run hR (hx.mono hE) rfl
          refine ⟨storeCells ⟨b, o + n * ie.size, none⟩ news' >>= fun _ => pure (.slice (some ⟨b, o, none⟩) (n + m) cap), ?_, Sim.bind (sim_putA (hE _ _ hk) hln.1 hln.2) fun E2 _ _ hE2 _ => Sim.pure fun E3 hE3 => .slice _ _ (hE3 _ _ (hE2 _ _ (hE _ _ hk)))⟩
          rw [run_append_place hu hi hie (lenS_run hm (hx.mono hE) w) hle' hn]
          simp
        | @wide k o b r _ _ hk =>
          refine sim_src fun news => Sim.point fun E1 g w hE hR ⟨_, hH⟩ => ?_
          obtain ⟨news', hn, hln, _⟩ := hH.run hR (hx.mono hE) rfl
          refine ⟨storeCells ⟨b, o + n * ie.size, none⟩ news' >>= fun _ => pure (.slice (some ⟨b, o, none⟩) (n + m) (cap + r)), ?_, Sim.bind (sim_putA (hE _ _ hk) hln.1 hln.2) fun E2 _ _ hE2 _ => Sim.pure fun E3 hE3 => .wide _ _ (hE3 _ _ (hE2 _ _ (hE _ _ hk)))⟩
          rw [run_append_place hu hi hie (lenS_run hm (hx.mono hE) w) (by omega) hn]
          simp
      | false =>
        simp only [cond_false]
        have hlt : cap < n + m := by
          rcases Nat.lt_or_ge cap (n + m) with h | h
          · exact h
          · rw [Nat.ble_eq_true_of_le h] at hle; cases hle
        cases hb : (Nat.ble ((n + m) * ie.bytes) 140737488355328 && Nat.ble (n + m) 9223372036854775807 && Nat.beq z.cells.size ie.size) with
        | false => exact Sim.fail
        | true =>
          simp only [Bool.and_eq_true] at hb
          obtain ⟨⟨hb1, hb2⟩, hb3⟩ := hb
          have hb1 := Nat.le_of_ble_eq_true hb1
          have hb2 := Nat.le_of_ble_eq_true hb2
          have hb3 := Nat.eq_of_beq_eq_true hb3
          simp only [cond_true]
          cases hs with
          | nils =>
            cases hn0 : Nat.beq n 0 with
            | false => exact Sim.fail
            | true =>
              have hn0 := Nat.eq_of_beq_eq_true hn0
              subst hn0
              simp only [cond_true]
              refine sim_src fun news => ?_
              cases hnl : Nat.beq news.length (m * ie.size) with
              | false => exact Sim.fail
              | true =>
                have hnl := Nat.eq_of_beq_eq_true hnl
                have := sim_append_fresh (I := I) (lo := lo) (w0 := w0) (E := E) (H := fun g => noH g ∧ SrcH ie.size m x news g) (ty := ty) (olds := []) (s := .nilFunc) (a' := none) (n := 0) hu hi hie hz hb3 hm hx rfl hlt hb1 hb2
                  (fun E1 g w hE hR _ => ⟨[], by simp [Builtin.firstCells], ⟨rfl, fun a c j h => by simp at h⟩, by simp⟩) (fun g hg => hg.2) hnl
                exact this
          | @slice k o b r _ _ hk =>
            refine sim_src fun olds => sim_src fun news => ?_
            cases hnl : Nat.beq news.length (m * ie.size) with
            | false => exact Sim.fail
            | true =>
              have hnl := Nat.eq_of_beq_eq_true hnl
              refine sim_append_fresh (s := .nilFunc) hu hi hie hz hb3 hm hx rfl hlt hb1 hb2 (fun E1 g w hE hR hH => ?_) (fun g hg => hg.2) hnl
              obtain ⟨olds', h1, h2, h3, _⟩ := hH.1.2.run (w1 := w.drew) hR ((VR.slice (E := E) n cap hk).mono hE) rfl
              exact ⟨olds', h1, h2, h3 _ _ _ rfl⟩
          | @wide k o b r _ _ hk =>
            cases o with
            | succ o => exact Sim.fail
            | zero =>
              refine sim_src fun olds => sim_src fun news => ?_
              cases hnl : Nat.beq news.length (m * ie.size) with
              | false => exact Sim.fail
              | true =>
                have hnl := Nat.eq_of_beq_eq_true hnl
                simp only [cond_true]
                refine Sim.rd fun ob => ?_
                split
                · rename_i c e'
                  cases hc : (Nat.beq c.size (cap * ie.size) && Nat.beq e' e && news.all Value.oneCell') with
                  | false => exact Sim.fail
                  | true =>
                    simp only [Bool.and_eq_true] at hc
                    obtain ⟨⟨hc1, hc2⟩, hc3⟩ := hc
                    have hc1 := Nat.eq_of_beq_eq_true hc1
                    have hc2 := Nat.eq_of_beq_eq_true hc2
                    subst hc2
                    simp only [cond_true]
                    refine sim_newkill fun E1 g w k2 hE hR ⟨⟨⟨_, hH1⟩, hH2⟩, hg⟩ hk2 hlo o0 hg0 => ?_
                    obtain ⟨olds', h1, hlo1, h3, _⟩ := hH1.run (w1 := w.drew) hR ((VR.wide (E := E) n cap hk).mono hE) rfl
                    obtain ⟨news', h4, hln, _⟩ := hH2.run (w1 := w.drew) hR (hx.mono hE) rfl
                    obtain ⟨news2, h4', hln2, _⟩ := hH2.run (w1 := w) hR (hx.mono hE) rfl
                    have hol := h3 _ _ _ rfl
                    by_cases hroom : n + m ≤ cap + r
                    · -- there is room behind: the same block
                      obtain ⟨cs, fr', hw1, hw2, hw3, hw4⟩ := hR.cells hg (hE _ _ hk)
                      obtain ⟨rfl, hsz⟩ := hw3 rfl
                      have hsz' : cs.size = (cap + r) * ie.size := by rw [← hsz, hc1, cellsOf_eq hie, Nat.add_mul]
                      have hnl2 : news2.length = m * ie.size := by rw [← hln2.1, hnl]
                      have hmul : (n + m) * ie.size ≤ (cap + r) * ie.size := Nat.mul_le_mul_right _ hroom
                      have hone : ∀ v ∈ news2, v.oneCell' = true := fun v hv' => by
                        obtain ⟨j, hj, rfl⟩ := List.getElem_of_mem hv'
                        have hj' : j < news.length := by rw [hln2.1]; exact hj
                        have := (hln2.2 news[j] news2[j] j (by simp [hj']) (by simp [hj])).one
                        rw [this]
                        exact List.all_eq_true.1 hc3 _ (List.getElem_mem _)
                      have hfit : n * ie.size + news2.length ≤ cs.size := by rw [hnl2, ← Nat.add_mul, hsz']; exact hmul
                      have hst := run_storeCells_at P b (n * ie.size) e' news2 0 cs w hw1 (by omega) hone
                      have hrun := run_append_place (P := P) (ty := ty) (o := 0) (b := b) hu hi hie (lenS_run hm (hx.mono hE) w) hroom h4'
                      rw [Nat.zero_add, hst] at hrun
                      have hT := turned_setRow (cs := (cs.toList.take (n * ie.size + 0) ++ news2 ++ cs.toList.drop (n * ie.size + 0 + news2.length)).toArray) hw1
                      refine ⟨_, _, b, cap + r - (n + m), _, hrun, ?_, hR.own _ _ _ hlo (hE _ _ hk), hT.at_, fun i hi _ => hT.other i hi, .inr ⟨r, hE _ _ hk⟩, .cells ?_ fun a v j ha hv => ?_, ?_⟩
                      · refine hR.below.trans ⟨rfl, rfl, rfl, by simp, fun i hi => hT.other i ?_⟩
                        have := hR.own _ _ _ hlo (hE _ _ hk)
                        omega
                      · have e1 : ((cs.toList.take (n * ie.size + 0) ++ news2 ++ cs.toList.drop (n * ie.size + 0 + news2.length)).toArray).size = cs.size := by simp; omega
                        rw [e1, cellsOf_eq hie, hsz']
                        simp only [List.size_toArray, List.length_append, hol, hnl]
                        rw [← Nat.add_mul, ← Nat.add_mul]
                        congr 1
                        omega
                      · have hL : LR E1 (olds ++ news) (cs.toList.take (n * ie.size) ++ news2) := by
                          refine LR.append ⟨by simp [hol]; omega, fun a c j ha hc => ?_⟩ hln2
                          obtain ⟨cc, ee, ff, g1, g2, rfl⟩ := hH1
                          rw [hg] at g1; cases g1
                          rw [List.drop_zero, List.getElem?_take] at ha
                          rw [List.getElem?_take] at hc
                          split at ha
                          · rw [if_pos (by assumption)] at hc
                            exact hw4 a c j (by simpa using ha) (by simpa using hc)
                          · cases ha
                        have hj : j < (olds ++ news).length := by
                          have := (Array.getElem?_eq_some_iff.1 ha).1
                          simpa using this
                        rw [Nat.add_zero, List.getElem?_toArray, List.getElem?_append_left (by rw [← hL.1]; exact hj)] at hv
                        exact (hL.2 a v j (by simpa using ha) hv).mono (Env.put_keep hk2)
                      · have hw := VR.wide (E := E1.put k2 b (cap + r - (n + m))) (o := 0) (n + m) (n + m) (by simp [Env.put] : (E1.put k2 b (cap + r - (n + m))) k2 = some (b, cap + r - (n + m)))
                        rwa [show n + m + (cap + r - (n + m)) = cap + r by omega] at hw
                    · -- a new block
                      have hrun := run_append_fresh (P := P) (ty := ty) (w := w) hu hi hie (zeroOf_info hz hie) (lenS_run hm (hx.mono hE) w) (by omega) hb1 hb2 h1 h4
                      have hge := grownCap_ge w (n + m) (cap + r) e'
                      refine ⟨_, _, w.heap.size, grownCap w (n + m) (cap + r) e' - (n + m), _, hrun, (rel_drew hR).alloc _, hR.below.size, alloc_heap w.drew _, fun i _ hi => Below.heap_alloc w.drew _ i hi, .inl rfl, ?_, ?_⟩
                      · have hL := hlo1.append hln
                        exact fresh_obj (ie := ie) ⟨hL.1, fun a c j ha hc => (hL.2 a c j ha hc).mono (Env.put_keep hk2)⟩ hie hb3
                      · have hw := VR.wide (E := E1.put k2 w.heap.size (grownCap w (n + m) (cap + r) e' - (n + m))) (o := 0) (n + m) (n + m) (by simp [Env.put] : (E1.put k2 w.heap.size (grownCap w (n + m) (cap + r) e' - (n + m))) k2 = some (w.heap.size, grownCap w (n + m) (cap + r) e' - (n + m)))
                        rwa [show n + m + (grownCap w (n + m) (cap + r) e' - (n + m)) = grownCap w (n + m) (cap + r) e' by omega] at hw
                · exact Sim.fail
    · exact Sim.fail
  · exact Sim.fail
end Go.Am
