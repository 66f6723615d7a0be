/- tree.holds and what it does, walked. Conditions: none. -/
import Derived.Defers
import Derived.Recover
import Derived.Laws.Pointers
import Derived.Laws.Rows
import Derived.Test.YtbgjanmheagilaaGreatDoorLk
set_option linter.unusedVariables false
set_option linter.unusedSimpArgs false
namespace Go.Proofs.YtbgjanmheagilaaGreatDoor
open Go Go.RowKit Go.Nodes
set_option linter.unusedVariables false
set_option linter.unusedSimpArgs false
theorem load_row (W : World) (A : Nat) (fa : Array Value) (hA : W.heap[A]? = some (.cells fa 85 (0, 0))) (hs : fa.size = 37) : (Instr.loadAt 85 (.pointer (some ⟨A, 0, none⟩))).run Tryz.prog W = .ok (.agg fa) W := by
  have h := run_loadVar_row (P := Tryz.prog) W A 85 85 fa (0, 0) _ hA Tryz.underlying85 rfl (by rw [hs]; kernel_rfl)
  unfold Instr.loadAt
  simp [Instr.sureAddr, h]
theorem wpl_row {ops : Array Oper} {rest : List Oper} {o : Oper} {a : Act} {w : World} {Q : Exit → Act → World → Prop} {A : Nat} {fa : Array Value} (hg : o.guard = none) (x : Operand) (ho : o.op = Op.load 85 x) (hx : a.eval x = .pointer (some ⟨A, 0, none⟩))
    (hld : (Instr.loadAt 85 (.pointer (some ⟨A, 0, none⟩))).run Tryz.prog w = .ok (.agg fa) w) (h : wpList Tryz.prog ops Q rest (a.put o.dst (.agg fa)) w) : wpList Tryz.prog ops Q (o :: rest) a w :=
  wpList_plain hg fun K hK => by
    unfold Oper.wp execOp
    simp only [ho, hx, hld, Sem.run_bind, Sem.run_pure, Result.andThen_ok]
    exact hK _ _ h
set_option maxRecDepth 10000 in
theorem check1_no (W : World) (LB NB UB AB : Nat) (l n u : Value) (fa : Array Value) (hL : W.cell? ⟨LB, 0, none⟩ = some l) (hN : W.cell? ⟨NB, 0, none⟩ = some n) (hU : W.cell? ⟨UB, 0, none⟩ = some u) (hA : W.heap[AB]? = some (.cells fa 85 (0, 0))) (hs : fa.size = 37)
    (S : World → Prop) (h : Calls Tryz.prog 57 #[l, n, u, .agg fa] W fun e w' => e = .panicked thrown ∧ S w') :
    Calls Tryz.prog 56 #[.pointer (some ⟨LB, 0, none⟩), .pointer (some ⟨NB, 0, none⟩), .pointer (some ⟨UB, 0, none⟩), .pointer (some ⟨AB, 0, none⟩)] W fun e w' => e = .panicked thrown ∧ S w' := by
  have hld := hid (load_row W AB fa hA hs)
  have H := hid h
  clear h hA
  go_enter Tryz.func56, Tryz.ntmps56
  go_wp2_with (first
    | (refine wpl_row rfl _ rfl rfl hld.out ?_)
    | (go_at_call 57; ((with_reducible refine H.out.mono ?_)); rintro e w' ⟨rfl, hb⟩))
  exact ⟨rfl, rfl, hb⟩
set_option maxRecDepth 10000 in
theorem check1_yes (W : World) (LB NB UB AB : Nat) (l n u : Value) (fa : Array Value) (hL : W.cell? ⟨LB, 0, none⟩ = some l) (hN : W.cell? ⟨NB, 0, none⟩ = some n) (hU : W.cell? ⟨UB, 0, none⟩ = some u) (hA : W.heap[AB]? = some (.cells fa 85 (0, 0))) (hs : fa.size = 37)
    (S : World → Prop) (h : Calls Tryz.prog 57 #[l, n, u, .agg fa] W fun e w' => e = .returned (.tuple #[]) ∧ S w') :
    Calls Tryz.prog 56 #[.pointer (some ⟨LB, 0, none⟩), .pointer (some ⟨NB, 0, none⟩), .pointer (some ⟨UB, 0, none⟩), .pointer (some ⟨AB, 0, none⟩)] W fun e w' => e = .returned (.tuple #[]) ∧ S w' := by
  have hld := hid (load_row W AB fa hA hs)
  have H := hid h
  clear h hA
  go_enter Tryz.func56, Tryz.ntmps56
  go_wp2_with (first
    | (refine wpl_row rfl _ rfl rfl hld.out ?_)
    | (go_at_call 57; ((with_reducible refine H.out.mono ?_)); rintro e w' ⟨rfl, hb⟩))
  go_end0
  exact ⟨rfl, hb⟩
theorem frame62 (B : Nat) : (#[Value.pointer (some ⟨B, 0, none⟩)] ++ Array.replicate (Tryz.f90.ntmps - #[Value.pointer (some ⟨B, 0, none⟩)].size) undef) = #[.pointer (some ⟨B, 0, none⟩), undef, undef, undef, undef, undef, undef, undef, undef, undef, undef, undef, undef, undef, undef] := by
  rw [Tryz.ntmps90]; rfl
set_option maxRecDepth 10000 in
theorem catch_thrown (B : Nat) (x : Bool) (older : List PanicEntry) (w : World) (hc : w.cell? ⟨B, 0, none⟩ = some (.bool x)) (hz : w.frozen? ⟨B, 0, none⟩ = false) (hB : B < w.heap.size) :
    CallsD Tryz.prog 90 #[.pointer (some ⟨B, 0, none⟩)] (.panicking ({ v := .iface 112 (.agg #[]), recovered := false } :: older)) w fun e u' w' =>
      e = .returned (.tuple #[]) ∧ u' = .panicking ({ v := .iface 112 (.agg #[]), recovered := true } :: older) ∧ w' = (w.setCell ⟨B, 0, none⟩ (.bool false)).alloc (.cells #[] 112) := by
  refine callsD_of_wpS Tryz.func90 rfl fun c₀ cs hu => ?_
  rw [frame62]
  apply wpS_seq
  apply wpS_region
  simp [wpOpsS, go_sem, recoverD, hu, Exit.thenS]
  refine wpS_of_wp ?_
  have hta : ∀ w, (Instr.typeAssert (.iface 112 (.agg #[])) 20 112 true).run Tryz.prog w = .ok (.tuple #[.agg #[], .bool true]) w := fun _ => by kernel_rfl
  go_wp2
  cases c₀
  simp_all [bodyPostS, results, Tryz.results90]
theorem catch_idle (B : Nat) (w : World) :
    CallsD Tryz.prog 90 #[.pointer (some ⟨B, 0, none⟩)] .returning w fun e u' w' => e = .returned (.tuple #[]) ∧ u' = .returning ∧ w' = w := by
  refine callsD_of_wpS Tryz.func90 rfl fun c₀ cs hu => ?_
  rw [frame62]
  apply wpS_seq
  apply wpS_region
  simp [wpOpsS, go_sem, recoverD, hu, Exit.thenS]
  refine wpS_of_wp ?_
  go_wp2
  cases c₀
  simp_all [bodyPostS, results, Tryz.results90]
set_option maxRecDepth 10000 in
theorem holds_yes (a b c d : Value) (W : World) (U : Nat) (us2 : List Bool) (hU : U < W.heap.size) (h : Calls Tryz.prog 56 #[a, b, c, d] (W.alloc (.cells #[.bool false] 4)) fun e w' => e = .returned (.tuple #[]) ∧ ∃ g, w' = grow (rowed (W.alloc (.cells #[.bool false] 4)) U us2) g) :
    Calls Tryz.prog 55 #[.func (.func 56) #[] #[a, b, c, d]] W fun e w' => e = .returned (.bool true) ∧ ∃ g, w' = grow (rowed W U us2) g := by
  have hmf : ∀ (fn : Fn) (first cap : Array Value) (w : World), (Instr.makeFunc fn first cap).run Tryz.prog w = .ok (.func fn first cap) w := fun _ _ _ _ => rfl
  have H := hid h
  have hne : ¬ W.heap.size = U := by omega
  have hR := hid (rowed_alloc W (.cells #[.bool false] 4) U us2 hU)
  clear h
  go_enter_defers Tryz.func55, Tryz.ntmps55
  go_wp2_with (go_at_call 56; ((with_reducible refine H.out.mono ?_)); rintro e w' ⟨rfl, g, rfl⟩; rw [hR.out])
  refine leaves_cons (f := 90) (args := #[.pointer (some ⟨W.heap.size, 0, none⟩)]) (by simp) (by simp [go_sem]) ?_
  refine (catch_idle W.heap.size _).mono ?_
  rintro e u' w'' ⟨rfl, rfl, rfl⟩
  obtain ⟨g9, h9⟩ := bout (show Below (rowed W U us2).heap.size (rowed W U us2) (grow ((rowed W U us2).alloc (.cells #[.bool true] 4)) g) by repeat (first | exact Below.refl _ _ | refine bG ?_ _ | refine bA ?_ _))
  have H9 := hid h9
  clear h9
  simp [Leaves, settle, results, Tryz.results55, go_sem]
  exact ⟨g9, H9.out⟩
set_option maxRecDepth 10000 in
theorem holds_no (a b c d : Value) (W : World) (U : Nat) (hU : U < W.heap.size) (h : Calls Tryz.prog 56 #[a, b, c, d] (W.alloc (.cells #[.bool false] 4)) fun e w' => e = .panicked thrown ∧ ∃ us2 g, w' = grow (rowed (W.alloc (.cells #[.bool false] 4)) U us2) g) :
    Calls Tryz.prog 55 #[.func (.func 56) #[] #[a, b, c, d]] W fun e w' => e = .returned (.bool false) ∧ ∃ us2 g, w' = grow (rowed W U us2) g := by
  have hmf : ∀ (fn : Fn) (first cap : Array Value) (w : World), (Instr.makeFunc fn first cap).run Tryz.prog w = .ok (.func fn first cap) w := fun _ _ _ _ => rfl
  have H := hid h
  have hne : ¬ W.heap.size = U := by omega
  have hR := hid (fun us2 => rowed_alloc W (.cells #[.bool false] 4) U us2 hU)
  clear h
  go_enter_defers Tryz.func55, Tryz.ntmps55
  go_wp2_with (go_at_call 56; ((with_reducible refine H.out.mono ?_)); rintro e w' ⟨rfl, us2, g, rfl⟩; rw [hR.out])
  refine leaves_cons (f := 90) (args := #[.pointer (some ⟨W.heap.size, 0, none⟩)]) (by simp) (by simp [go_sem]) ?_
  refine (catch_thrown W.heap.size false [] _ ?_ ?_ ?_).mono ?_
  · simp [go_sem]
  · simp [go_sem]
  · simp; omega
  rintro e u' w'' ⟨rfl, rfl, rfl⟩
  have h9 : Below (rowed W U us2).heap.size (rowed W U us2) ((grow ((rowed W U us2).alloc (.cells #[.bool false] 4)) g).setCell ⟨W.heap.size, 0, none⟩ (.bool false) |>.alloc (.cells #[] 112)) := bA (bS (bG (bA (Below.refl _ _) _) _) _ _ _ (by simp)) _
  simp [go_sem] at h9
  have H9 := hid h9
  clear h9
  simp [Leaves, settle, results, Tryz.results55, go_sem]
  obtain ⟨g9, hg⟩ := bout (w := rowed W U us2) (by rw [size_rowed]; exact H9.out)
  exact ⟨us2, g9, hg⟩
end Go.Proofs.YtbgjanmheagilaaGreatDoor

/- tree.Check, walked. Conditions: few nodes. -/
namespace Go.Proofs.YtbgjanmheagilaaGreatDoor
open Go Go.RowKit Go.Nodes
set_option linter.unusedVariables false
set_option linter.unusedSimpArgs false
noncomputable def faA : Array Value := (formsL.map fun l => Value.string ⟨l.toArray⟩).toArray
def zero94 : Array Value := (List.replicate 37 (Value.string ⟨#[]⟩)).toArray
theorem faA_at (k : Nat) (h1 : 1 ≤ k) (h2 : k ≤ 36) : faA[k]? = some (str (formOf k)) := by
  unfold faA
  have h : k < formsL.length := by rw [show formsL.length = 37 by decide]; omega
  simp [formOf, List.getD, List.getElem?_eq_getElem h, str]
theorem alloc93 (ev : Operand → Value) (w : World) : (execOp ev { dst := some 4, op := Op.alloc 69, type := 0, pos := "tree.go:208", after := #[], guard := none }).run Tryz.prog w = .ok (.value (.pointer (some ⟨w.heap.size, 0, none⟩))) (w.alloc (.cells #[.slice none 0 0] 69)) := by kernel_rfl
theorem alloc94 (ev : Operand → Value) (w : World) : (execOp ev { dst := some 5, op := Op.alloc 85, type := 0, pos := "tree.go:208", after := #[], guard := none }).run Tryz.prog w = .ok (.value (.pointer (some ⟨w.heap.size, 0, none⟩))) (w.alloc (.cells zero94 85)) := by kernel_rfl
theorem ty_ne {A B : Array Value} {s t : TypeId} {o : Option Obj} (h1 : o = some (.cells A s (0, 0))) (h2 : o = some (.cells B t (0, 0))) (hst : ¬ s = t) : False := by
  rw [h1] at h2
  exact hst (Obj.cells.inj (Option.some.inj h2)).2.1
theorem below_row {B g : Nat} {w0 w : World} (hb : Below B w0 w) (hBg : B ≤ g) (cs : Array Value) : Below B w0 (w.setRow g cs) := by
  obtain ⟨h1, h2, h3, h4, h5⟩ := hb
  exact ⟨h1, h2, h3, by simpa using h4, fun k hk => by rw [setRow_other _ _ _ _ (by omega)]; exact h5 k hk⟩
theorem heap_stays {w w' : World} {U : Nat} {o : Obj} (hb : Below w.heap.size w w') (h : w.heap[U]? = some o) : w'.heap[U]? = some o := (hb.block _ (Array.getElem?_eq_some_iff.1 h).1).trans h
def phiC (S : Value) (L B : Nat) : Nat → World → Value → Prop
  | 0, w, v => v = S
  | 1, w, v => v = .int .i64 L
  | 2, w, v => ∃ U : Nat, v = .slice (some ⟨U, 0, none⟩) L L ∧ w.heap[U]? = some (.cells ((List.replicate L false).map Value.bool).toArray 4 (0, 0)) ∧ B ≤ U
  | 3, w, v => v = formsV
  | 4, w, v => ∃ U : Nat, v = .pointer (some ⟨U, 0, none⟩) ∧ w.heap[U]? = some (.cells #[.slice none 0 0] 69 (0, 0)) ∧ B ≤ U
  | _, w, v => ∃ U : Nat, v = .pointer (some ⟨U, 0, none⟩) ∧ w.heap[U]? = some (.cells zero94 85 (0, 0)) ∧ B ≤ U
theorem phiC_below {S : Value} {L B : Nat} : ∀ (k : Nat) (w w' : World) (v : Value), Below w.heap.size w w' → phiC S L B k w v → phiC S L B k w' v := by
  intro k w w' v hb h
  unfold phiC at *
  split at h <;> first | exact h | exact (fun ⟨U, e, hh, hB⟩ => ⟨U, e, heap_stays hb hh, hB⟩) h
/-- A round: one node looked at, in the guarded call. -/
theorem step_any (w W : World) (p : Option Addr) (c : Nat) (ns : List Nd) (hs : Small ns) (hc : Capped ns) (ha : NodesAt w p ns) (hl0 : Lib0 w) (n : Nat) (hn : n < ns.length) (hv : VPre ns n)
    (K1 K2 U : Nat) (us : List Bool) (g : Gro) (hus : us.length = ns.length) (hW : Below w.heap.size w W) (hU : w.heap.size < U) (hU2 : U < W.heap.size) (n1 : ¬ K1 = U) (n2 : ¬ K2 = U)
    (hL : W.heap[w.heap.size]? = some (.cells #[.slice p ns.length c] 22 (0, 0))) (hK1 : W.heap[K1]? = some (.cells #[.slice (some ⟨U, 0, none⟩) ns.length ns.length] 69 (0, 0))) (hK2 : W.heap[K2]? = some (.cells faA 85 (0, 0))) :
    Calls Tryz.prog 55 #[.func (.func 56) #[] #[.pointer (some ⟨w.heap.size, 0, none⟩), .pointer (some ⟨W.heap.size + g.size, 0, none⟩), .pointer (some ⟨K1, 0, none⟩), .pointer (some ⟨K2, 0, none⟩)]]
      ((grow (rowed W U us) g).alloc (.cells #[.int .i64 (n : Int)] 3)) fun e w' => match lookF ns ns[n] n us with
        | none => e = .returned (.bool false) ∧ ∃ us2 g2, w' = grow ((grow (rowed W U us2) g).alloc (.cells #[.int .i64 (n : Int)] 3)) g2
        | some us2 => e = .returned (.bool true) ∧ ∃ g', w' = grow (rowed W U us2) g' := by
  have lt1 := (Array.getElem?_eq_some_iff.1 hK1).1
  have lt2 := (Array.getElem?_eq_some_iff.1 hK2).1
  have lt0 := (Array.getElem?_eq_some_iff.1 hL).1
  have hn0 : ¬ w.heap.size = U := by omega
  obtain ⟨X, hX⟩ : ∃ X, X = (grow W g).alloc (.cells #[.int .i64 (n : Int)] 3) := ⟨_, rfl⟩
  have hXe : ((grow (rowed W U us) g).alloc (.cells #[.int .i64 (n : Int)] 3)) = rowed X U us := by rw [hX, rowed_alloc _ _ _ _ (by simp; omega), rowed_grow _ _ _ _ hU2]
  have hXb : Below w.heap.size w X := by rw [hX]; exact bA (bG hW _) _
  have hXs : U < X.heap.size := by rw [hX]; simp; omega
  have old : ∀ k o, ¬ k = U → W.heap[k]? = some o → ((rowed X U us).alloc (.cells #[.bool false] 4)).heap[k]? = some o := fun k o hk h => by
    have hlt := (Array.getElem?_eq_some_iff.1 h).1
    rw [heap_alloc_old _ _ (by rw [size_rowed, hX]; simp; omega), heap_rowed _ _ _ _ hk, hX, heap_alloc_old _ _ (by simp; omega), heap_grow _ _ _ hlt]
    exact h
  have cell0 : ∀ (Y : World) (k : Nat) (v : Value) (t : TypeId), Y.heap[k]? = some (.cells #[v] t (0, 0)) → Y.cell? ⟨k, 0, none⟩ = some v := fun Y k v t h => by simp [World.cell?, h]
  have hcN : ((rowed X U us).alloc (.cells #[.bool false] 4)).cell? ⟨W.heap.size + g.size, 0, none⟩ = some (.int .i64 (n : Int)) := by
    refine cell0 _ _ _ 3 ?_
    rw [heap_alloc_old _ _ (by rw [size_rowed, hX]; simp), heap_rowed _ _ _ _ (by omega), hX]
    have := heap_alloc_new (grow W g) (.cells #[.int .i64 (n : Int)] 3)
    simpa using this
  rw [hXe]
  have hlk := look_any w (X.alloc (.cells #[.bool false] 4)) p c ns hs hc ha hl0 n hn hv faA faA_at U ns.length us hus (bA hXb _) (by omega) (by simp; omega)
  rw [rowed_alloc _ _ _ _ hXs] at hlk
  have hrow : ∀ us2, rowed ((rowed X U us).alloc (.cells #[.bool false] 4)) U us2 = rowed (X.alloc (.cells #[.bool false] 4)) U us2 := fun us2 => by
    rw [← rowed_alloc _ _ _ _ hXs, rowed_twice]
  have hfas : faA.size = 37 := by unfold faA; rw [List.size_toArray, List.length_map]; decide
  cases hlf : lookF ns ns[n] n us with
  | none =>
    rw [hlf] at hlk
    refine (holds_no _ _ _ _ (rowed X U us) U (by simpa using hXs) ?_).mono fun e w' ⟨he, us2, g2, hw⟩ => ⟨he, us2, g2, by rw [hw, rowed_twice, hX, rowed_alloc _ _ _ _ (by simp; omega), rowed_grow _ _ _ _ hU2]⟩
    exact check1_no _ _ _ _ _ _ _ _ _ (cell0 _ _ _ 22 (old _ _ hn0 hL)) hcN (cell0 _ _ _ 69 (old _ _ n1 hK1)) (old _ _ n2 hK2) hfas _ (hlk.mono fun e w' ⟨he, us2, g2, hw⟩ => ⟨he, us2, g2, by rw [hrow, hw]⟩)
  | some us2 =>
    rw [hlf] at hlk
    refine (holds_yes _ _ _ _ (rowed X U us) U us2 (by simpa using hXs) ?_).mono fun e w' ⟨he, g2, hw⟩ => ⟨he, ?_⟩
    · exact check1_yes _ _ _ _ _ _ _ _ _ (cell0 _ _ _ 22 (old _ _ hn0 hL)) hcN (cell0 _ _ _ 69 (old _ _ n1 hK1)) (old _ _ n2 hK2) hfas _ (hlk.mono fun e w' ⟨he, g2, hw⟩ => ⟨he, g2, by rw [hrow, hw]⟩)
    · rw [rowed_twice] at hw
      have h9 : Below (rowed W U us2).heap.size (rowed W U us2) w' := by
        rw [hw, hX, rowed_alloc _ _ _ _ (by simp; omega), rowed_grow _ _ _ _ hU2]
        exact bG (bA (bG (Below.refl _ _) _) _) _
      exact bout h9
theorem look_scan_none {ns l : List Nd} {x : Nd} {n : Nat} {us : List Bool} (h : lookF ns x n us = none) : ∃ v, scanF ns (x :: l) n us = (some n, v) := by
  unfold lookF at h
  cases hk : kidsU n x.kids us with
  | none => exact ⟨us, by unfold scanF; simp only [hk]⟩
  | some us2 =>
    rw [hk] at h
    simp only at h
    cases ho : okB ns x with
    | true => rw [ho] at h; cases h
    | false => exact ⟨us2, scan_bad hk ho⟩
theorem look_some_out {ns : List Nd} {x : Nd} {n : Nat} {us us2 : List Bool} (h : lookF ns x n us = some us2) : kidsU n x.kids us = some us2 ∧ okB ns x = true := by
  unfold lookF at h
  cases hk : kidsU n x.kids us with
  | none => rw [hk] at h; cases h
  | some us3 =>
    rw [hk] at h
    simp only at h
    cases ho : okB ns x with
    | true => rw [ho] at h; cases h; exact ⟨rfl, rfl⟩
    | false => rw [ho] at h; cases h
theorem vnode_of_ok {ns : List Nd} {x : Nd} {n : Nat} {us us2 : List Bool} (hk : kidsU n x.kids us = some us2) (ho : okB ns x = true) : VNode ns n x := by
  unfold okB at ho
  simp only [Bool.and_eq_true, decide_eq_true_eq] at ho
  exact ⟨ho.1.1.2.1.1, ho.1.1.2.1.2, ho.1.1.1, kidsU_in n x.kids us us2 hk, ho.1.1.2.2, ho.1.2, ho.2⟩
set_option maxRecDepth 10000 in
set_option maxHeartbeats 4000000 in
theorem check_any (w : World) (p : Option Addr) (c : Nat) (ns : List Nd) (hs : Small ns) (hc : Capped ns) (ha : NodesAt w p ns) (hl0 : Lib0 w) :
    Calls Tryz.prog 27 #[.slice p ns.length c] w (ErrPost (checkS ns).1 (checkS ns).2 w) := by
  have Ha := hid ha
  have Hs := hid hs
  have Hc := hid hc
  have Hl := hid hl0
  clear ha hs hc hl0
  obtain ⟨L, hL⟩ : ∃ L, L = ns.length := ⟨_, rfl⟩
  rw [← hL]
  have hL5 : (L : Int) ≤ 5000 := by have := Hs.out.1; omega
  have HL := hid hL
  clear hL
  go_enter Tryz.func27, Tryz.ntmps27
  go_wp2
  refine wp_region_any (by kernel_rfl) ?_
  refine Am.any_cut _ 7 rfl (by kernel_rfl) ?_
  simp only [List.take_succ_cons, List.take_zero]
  refine Am.any_cut _ 6 rfl (by kernel_rfl) ?_
  simp only [List.take_succ_cons, List.take_zero]
  refine Am.draw_phi_any (Φ := phiC (.slice p L c) L (w.heap.size + 1)) (w0 := (w.alloc (.cells #[.slice p L c] 22))) (by kernel_rfl) (by kernel_rfl) phiC_below ?_ ?_ _ ((Below.refl _ _).drew)
  · intro kq o ca w1 ho hb hlook K hK
    have hc0 : w1.cell? ⟨w.heap.size, 0, none⟩ = some (.slice p L c) := (hb.cell (p := ⟨_, 0, none⟩) (by simp)).trans (by simp [go_sem])
    have hBs : w.heap.size + 1 ≤ w1.heap.size := by have := hb.size; simpa using this
    have hfn : ∀ f, ca.eval (.func f) = .func (.func f) #[] #[] := fun _ => rfl
    have hcs : ∀ v, ca.eval (.const v) = v := fun _ => rfl
    rcases kq with _ | _ | _ | _ | _ | _ | kq
    · cases ho
      have h1 := Am.eval_tmp (Am.look_old (t := 1) hlook (by kernel_rfl) (by kernel_rfl) rfl)
      refine Am.wpOp_run rfl rfl (Am.wp_value (v := .slice p L c) ?_ (hK _ _ (Below.refl _ _) rfl))
      generalize ca.eval = ev at *
      simp [go_sem, execOp, hfn, hcs, h1, hc0]
    · cases ho
      have h13 : (ca.tmps.getD 13 undef) = (.slice p L c) := Am.look_of (j := 0) hlook (by kernel_rfl) rfl rfl
      replace h13 := Am.eval_tmp h13
      refine Am.wpOp_run rfl rfl (Am.wp_value (v := .int .i64 L) ?_ (hK _ _ (Below.refl _ _) rfl))
      generalize ca.eval = ev at *
      simp [go_sem, execOp, hfn, hcs, h13]
    · cases ho
      have h14 : (ca.tmps.getD 14 undef) = .int .i64 L := Am.look_of (j := 1) hlook (by kernel_rfl) rfl rfl
      replace h14 := Am.eval_tmp h14
      obtain ⟨iB, hiB, zB0, zB1, zB2⟩ := info_parts Tryz.infoB
      have hmk := run_make (P := Tryz.prog) w1 69 4 iB (.bool false) Tryz.underlying69 hiB zB0 .i64 .i64 (L : Int) (L : Int) (by omega) (Int.le_refl _) (by rw [zB2]; omega) (by omega)
      have hmc : madeCells (Value.bool false).cells ((L : Int).toNat * iB.size) = ((List.replicate L false).map Value.bool).toArray := by
        rw [zB1, Int.toNat_natCast, Nat.mul_one]
        apply Array.toList_inj.1
        rw [show (Value.bool false).cells = #[Value.bool false] from rfl, toList_madeCells_one, List.map_replicate]
      rw [hmc, Int.toNat_natCast] at hmk
      refine Am.wpOp_run rfl rfl (Am.wp_value (v := .slice (some ⟨w1.heap.size, 0, none⟩) L L) (w' := w1.alloc (.cells ((List.replicate L false).map Value.bool).toArray 4)) ?_ (hK _ _ ((Below.refl _ _).alloc (Nat.le_refl _) _) ⟨w1.heap.size, rfl, heap_alloc_new _ _, hBs⟩))
      generalize ca.eval = ev at *
      simp [execOp, h14, hmk]
    · cases ho
      refine Am.wpOp_run rfl rfl (Am.wp_enter (w' := w1) (f := 54) (args := #[]) ?_ ((forms_any w1).mono ?_))
      · generalize ca.eval = ev at *
        simp [go_sem, execOp, hfn, hcs]
      · rintro e w' ⟨rfl, hb'⟩
        exact ⟨_, rfl, hK _ _ hb' rfl⟩
    · cases ho
      refine Am.wpOp_run rfl rfl (Am.wp_value (v := .pointer (some ⟨w1.heap.size, 0, none⟩)) (w' := w1.alloc (.cells #[.slice none 0 0] 69)) ?_ (hK _ _ ((Below.refl _ _).alloc (Nat.le_refl _) _) ⟨w1.heap.size, rfl, heap_alloc_new _ _, hBs⟩))
      exact alloc93 _ w1
    · cases ho
      refine Am.wpOp_run rfl rfl (Am.wp_value (v := .pointer (some ⟨w1.heap.size, 0, none⟩)) (w' := w1.alloc (.cells zero94 85)) ?_ (hK _ _ ((Below.refl _ _).alloc (Nat.le_refl _) _) ⟨w1.heap.size, rfl, heap_alloc_new _ _, hBs⟩))
      exact alloc94 _ w1
    · simp at ho
  · intro ca w1 hb hd hs hphi hoth
    obtain ⟨U, h15, hU, hU0⟩ : ∃ U : Nat, ca.tmps.getD 15 undef = .slice (some ⟨U, 0, none⟩) L L ∧ w1.heap[U]? = some (.cells ((List.replicate L false).map Value.bool).toArray 4 (0, 0)) ∧ w.heap.size + 1 ≤ U := hphi 2 _ 15 rfl rfl
    have h16 : ca.tmps.getD 16 undef = formsV := hphi 3 _ 16 rfl rfl
    obtain ⟨K1, h4, hK1, hK10⟩ : ∃ U : Nat, ca.tmps.getD 4 undef = .pointer (some ⟨U, 0, none⟩) ∧ w1.heap[U]? = some (.cells #[.slice none 0 0] 69 (0, 0)) ∧ w.heap.size + 1 ≤ U := hphi 4 _ 4 rfl rfl
    obtain ⟨K2, h5, hK2, hK20⟩ : ∃ U : Nat, ca.tmps.getD 5 undef = .pointer (some ⟨U, 0, none⟩) ∧ w1.heap[U]? = some (.cells zero94 85 (0, 0)) ∧ w.heap.size + 1 ≤ U := hphi 5 _ 5 rfl rfl
    have hca := Am.frame_out hd hs hoth
    simp only [List.foldl_cons, List.foldl_nil, h15, h16, h4, h5] at hca
    generalize ca.tmps.getD 13 undef = x13 at hca
    generalize ca.tmps.getD 14 undef = x14 at hca
    subst hca
    simp only [List.setIfInBounds_toArray, List.set_cons_succ, List.set_cons_zero]
    have n12 : ¬ K1 = K2 := fun e => by rw [e, hK2] at hK1; cases hK1
    have n13 : ¬ K1 = U := fun e => ty_ne (e ▸ hK1) hU (by decide)
    have n23 : ¬ K2 = U := fun e => ty_ne (e ▸ hK2) hU (by decide)
    have hfs : Hid (formsV = .agg faA) := hid rfl
    have hW : w1.heap[w.heap.size]? = some (.cells #[.slice p L c] 22 (0, 0)) := (hb.block _ (by simp)).trans (by simpa using heap_alloc_new w (.cells #[.slice p L c] 22))
    have hbw : Below w.heap.size w w1 := (bA (Below.refl _ _) (.cells #[.slice p L c] 22)).trans (hb.mono (by simp))
    clear hb hd hs hphi hoth h15 h16 h4 h5
    simp only [Am.LastW]
    have hc1 : w1.cell? ⟨K1, 0, none⟩ = some (.slice none 0 0) := by simp [World.cell?, hK1]
    have hz1 : w1.frozen? ⟨K1, 0, none⟩ = false := by simp [World.frozen?, hK1]
    have k2b : Hid ((w1.setCell ⟨K1, 0, none⟩ (.slice (some ⟨U, 0, none⟩) L L)).heap[K2]? = some (.cells zero94 85 (0, 0))) := hid (by rw [Below.heap_setCell _ _ _ _ (fun e => n12 e.symm)]; exact hK2)
    have HK1 := hid hK1
    have HK2 := hid hK2
    have HU := hid hU
    have HW := hid hW
    have HBW1 := hid hbw
    have hi94 : Hid ((Tryz.prog.info? 85).map (·.size) = some faA.size) := hid (by kernel_rfl)
    clear hK1 hK2 hU hW hbw
    go_wp2
    simp only [Am.LastW]
    refine wpList_store_row rfl 85 _ _ rfl K2 faA rfl rfl 85 zero94 k2b.out hi94.out (by decide) (by decide +kernel) ?_
    obtain ⟨Wx, hWx⟩ : ∃ Wx, Wx = (w1.setCell ⟨K1, 0, none⟩ (.slice (some ⟨U, 0, none⟩) L L)).setRow K2 faA := ⟨_, rfl⟩
    rw [← hWx]
    have hx1 : Wx.heap[K1]? = some (.cells #[.slice (some ⟨U, 0, none⟩) L L] 69 (0, 0)) := by
      rw [hWx, setRow_other _ _ _ _ n12]
      simp [World.setCell, Array.getElem?_modify, HK1.out]
    have hx2 : Wx.heap[K2]? = some (.cells faA 85 (0, 0)) := by rw [hWx]; exact setRow_heap _ _ _ _ _ _ k2b.out
    have hxU : Wx.heap[U]? = some (.cells ((List.replicate L false).map Value.bool).toArray 4 (0, 0)) := by
      rw [hWx, setRow_other _ _ _ _ (fun e => n23 e.symm), Below.heap_setCell _ _ _ _ (fun e => n13 e.symm)]; exact HU.out
    have hxL : Wx.heap[w.heap.size]? = some (.cells #[.slice p L c] 22 (0, 0)) := by
      rw [hWx, setRow_other _ _ _ _ (by omega), Below.heap_setCell _ _ _ _ (by simp; omega)]; exact HW.out
    have hxB : Below w.heap.size w Wx := by rw [hWx]; exact below_row (bS HBW1.out _ _ _ (by omega)) (by omega) _
    clear hWx HK1 HK2 HU HW HBW1 k2b hi94 hc1 hz1
    have cL : Wx.cell? ⟨w.heap.size, 0, none⟩ = some (.slice p L c) := by simp [World.cell?, hxL]
    have cK : Wx.cell? ⟨K1, 0, none⟩ = some (.slice (some ⟨U, 0, none⟩) L L) := by simp [World.cell?, hx1]
    have ltL := (Array.getElem?_eq_some_iff.1 hxL).1
    have ltU := (Array.getElem?_eq_some_iff.1 hxU).1
    have ltK := (Array.getElem?_eq_some_iff.1 hx1).1
    have nLU : ¬ w.heap.size = U := by omega
    have Hx1 := hid hx1
    have Hx2 := hid hx2
    have HxU := hid hxU
    have HxL := hid hxL
    have HBW := hid hxB
    clear hx1 hx2 hxU hxL hxB
    go_wp2
    go_loopw [19] (fun i wr => ∃ (n : Nat) (us : List Bool) (g : Gro), n ≤ L ∧ i = .int .i64 n ∧ wr = grow (rowed Wx U us) g ∧ us.length = L ∧ Hid (VPre ns n ∧ scanF ns (ns.drop n) n us = scanF ns ns 0 (List.replicate L false))) (fun i _ => L - (intOf i).toNat)
    case atStart => exact ⟨0, List.replicate L false, _, by omega, rfl, by rw [rowed_same _ _ _ HxU.out]; exact (grow_refl _).symm, by simp, hid ⟨fun i x h => absurd h (by omega), rfl⟩⟩
    case round =>
      obtain ⟨n, us, g, hn, rfl, rfl, hul, hR⟩ := hrel
      by_cases hlt : n < L
      · have hnx : n < ns.length := by have := HL.out; omega
        have hstep := step_any w Wx p c ns Hs.out Hc.out Ha.out Hl.out n hnx hR.out.1 K1 K2 U us g (by have := HL.out; omega) HBW.out (by omega) ltU n13 n23 (by rw [← HL.out]; exact HxL.out) (by rw [← HL.out]; exact Hx1.out) Hx2.out
        have hdr : ns.drop n = ns[n] :: ns.drop (n + 1) := List.drop_eq_getElem_cons hnx
        have n0 : (0 : Int) ≤ (n : Int) := by omega
        have n1 : (n : Int) < (L : Int) := by omega
        have hmf : ∀ (fn : Fn) (first cap : Array Value) (w : World), (Instr.makeFunc fn first cap).run Tryz.prog w = .ok (.func fn first cap) w := fun _ _ _ _ => rfl
        cases hlf : lookF ns ns[n] n us with
        | none =>
          rw [hlf] at hstep
          obtain ⟨v, hv⟩ := look_scan_none (l := ns.drop (n + 1)) hlf
          have Hb := hid (check_bad (v := v) (by rw [hR.out.2, HL.out]) (by rw [hdr]; exact hv))
          have Hstep := hid hstep
          clear hstep hlf hv hdr
          go_wp2_with (go_at_call 55; ((with_reducible refine Hstep.out.mono ?_)); rintro e w' ⟨rfl, us3, g2, rfl⟩)
          go_ret2
          exact ⟨by rw [Hb.out]; rfl, by repeat (first | exact Below.refl _ _ | exact HBW.out | exact below_rowed HBW.out (by omega) | refine bG ?_ _ | refine bI ?_ _ _ | refine bA ?_ _ | refine bD ?_ | refine bN ?_ _)⟩
        | some us2 =>
          rw [hlf] at hstep
          obtain ⟨hk, ho⟩ := look_some_out hlf
          have hvn := vnode_of_ok hk ho
          have hlen := kidsU_len n _ _ _ hk
          have hsc := scan_ok (l := ns.drop (n + 1)) hk ho
          rw [← hdr, hR.out.2] at hsc
          have Hn : Hid (VPre ns (n + 1) ∧ scanF ns (ns.drop (n + 1)) (n + 1) us2 = scanF ns ns 0 (List.replicate L false)) := hid ⟨fun i x hi hx => by
            by_cases hin : i < n
            · exact hR.out.1 i x hin hx
            · obtain rfl : i = n := by omega
              rw [List.getElem?_eq_getElem hnx] at hx
              cases hx
              exact hvn, hsc.symm⟩
          have Hstep := hid hstep
          clear hstep hlf hdr hk ho hvn hsc
          go_wp2_with (go_at_call 55; ((with_reducible refine Hstep.out.mono ?_)); rintro e w' ⟨rfl, g2, rfl⟩)
          go_roundw
          case rel => exact ⟨n + 1, us2, g2, by omega, by go_num, rfl, by omega, Hn⟩
          case measure => simp [intOf]; omega
      · obtain rfl : n = L := by omega
        have hck : checkS ns = if n = 0 then ((0 : Int), (60 : Int)) else if rootOK ns us then (if 200 < deepOf ns then (0, 61) else (0, 0)) else ((n : Int) - 1, 60) := by
          have h := hR.out.2
          rw [show ns.drop n = [] by rw [HL.out, List.drop_length]] at h
          unfold checkS
          rw [← HL.out, ← h]
          rfl
        by_cases hn0 : n = 0
        · rw [if_pos hn0] at hck
          have Hb := hid hck
          have hn1 : (n : Int) - 1 < 0 := by omega
          clear hck
          go_wp2
          go_ret2
          exact ⟨by rw [Hb.out]; rfl, by repeat (first | exact Below.refl _ _ | exact HBW.out | exact below_rowed HBW.out (by omega) | refine bG ?_ _ | refine bI ?_ _ _ | refine bA ?_ _ | refine bD ?_ | refine bN ?_ _)⟩
        rw [if_neg hn0] at hck
        have Hck := hid hck
        have hn1 : ¬ ((n : Int) - 1 < 0) := by omega
        clear hck
        go_wp2
        go_loopw [34] (fun i wr => ∃ (k : Nat) (g2 : Gro), k ≤ n ∧ i = .int .i64 k ∧ wr = grow (rowed Wx U us) g2 ∧ Hid (∀ m < k, (decide ((kindAt ns m = 1) ↔ (m + 1 = ns.length)) && decide (us.getD m false = decide (m + 1 ≠ ns.length))) = true)) (fun i _ => n - (intOf i).toNat)
        case atStart => exact ⟨0, g, by omega, rfl, rfl, hid fun m h => absurd h (by omega)⟩
        case round =>
          obtain ⟨k, g2, hk, rfl, rfl, hK⟩ := hrel
          by_cases hkn : k < n
          · have hkl : k < ns.length := by have := HL.out; omega
            obtain ⟨b, o, rfl, hb, hx, hf, c0, c1, c2, c3⟩ := nd_at Ha.out hkl
            have hka := kindAt_of hx
            rw [← hka] at c0
            replace c0 := (HBW.out.cell (p := ⟨b, _, none⟩) hb).trans c0
            replace c1 := (HBW.out.cell (p := ⟨b, _, none⟩) hb).trans c1
            replace c2 := (HBW.out.cell (p := ⟨b, _, none⟩) hb).trans c2
            replace c3 := (HBW.out.cell (p := ⟨b, _, none⟩) hb).trans c3
            have bU : ¬ b = U := by omega
            have bw : b < Wx.heap.size := by have := HBW.out.size; omega
            have hul3 : k < us.length := by omega
            have hu1 : us[k]? = some (us.getD k false) := by rw [List.getD, List.getElem?_eq_getElem hul3]; rfl
            have hu2 : us[k] = us.getD k false := by rw [List.getD, List.getElem?_eq_getElem hul3]; rfl
            have k0 : (0 : Int) ≤ (k : Int) := by omega
            have k1 : (k : Int) < (n : Int) := by omega
            obtain ⟨kd, hkd⟩ : ∃ kd, kd = kindAt ns (k : Int) := ⟨_, rfl⟩
            obtain ⟨ub, hub⟩ : ∃ ub, ub = us.getD k false := ⟨_, rfl⟩
            rw [← hkd] at c0
            rw [← hub] at hu1 hu2
            have Hkd := hid hkd
            have Hub := hid hub
            clear hka hkd hub hx hf
            generalize ns[k] = x at *
            have hno : ¬ ((decide ((kd = 1) ↔ (k + 1 = ns.length)) && decide (ub = decide (k + 1 ≠ ns.length))) = true) → checkS ns = ((n : Int) - 1, 60) := fun h => by
              rw [Hck.out, if_neg]
              intro hr
              unfold rootOK at hr
              rw [List.all_eq_true] at hr
              have := hr k (List.mem_range.2 hkl)
              rw [← Hkd.out, ← Hub.out] at this
              exact h this
            have hyes : (decide ((kd = 1) ↔ (k + 1 = ns.length)) && decide (ub = decide (k + 1 ≠ ns.length))) = true → ∀ m < k + 1, (decide ((kindAt ns m = 1) ↔ (m + 1 = ns.length)) && decide (us.getD m false = decide (m + 1 ≠ ns.length))) = true := fun h m hm => by
              by_cases hmk : m < k
              · exact hK.out m hmk
              · obtain rfl : m = k := by omega
                rw [← Hkd.out, ← Hub.out]; exact h
            by_cases hd : kd = 1
            · subst hd
              by_cases hlk : (k : Int) = (n : Int) - 1
              · have hkk : k + 1 = ns.length := by have := HL.out; omega
                have hq1 : ((k : Int) == (n : Int) - 1) = true := by simp; omega
                have hq2 : ¬ (k : Int) < (n : Int) - 1 := by omega
                clear hlk
                cases ub with
                | true =>
                  have Hb := hid (hno (by simp [hkk]))
                  clear hno hyes hkk
                  go_wp2
                  go_ret2
                  exact ⟨by rw [Hb.out]; rfl, by repeat (first | exact Below.refl _ _ | exact HBW.out | exact below_rowed HBW.out (by omega) | refine bG ?_ _ | refine bI ?_ _ _ | refine bA ?_ _ | refine bD ?_ | refine bN ?_ _)⟩
                | false =>
                  have Hy := hid (hyes (by simp [hkk]))
                  obtain ⟨g9, h9⟩ := bout (bA (bG (Below.refl _ (rowed Wx U us)) g2) (.cells #[.int .i64 1, .string x.text, .slice x.kp x.kids.length x.kcap, .int .i64 x.place] 30))
                  have H9 := hid h9
                  clear h9
                  clear hno hyes hkk
                  go_wp2
                  go_roundw
                  case rel => exact ⟨k + 1, g9, by omega, by go_num, H9.out, Hy⟩
                  case measure => simp [intOf]; omega
              · have hkk : ¬ k + 1 = ns.length := by have := HL.out; omega
                have hq1 := ne_beq hlk
                have hq2 : (k : Int) < (n : Int) - 1 := by omega
                clear hlk
                cases ub with
                | true =>
                  have Hb := hid (hno (by simp [hkk]))
                  clear hno hyes hkk
                  go_wp2
                  go_ret2
                  exact ⟨by rw [Hb.out]; rfl, by repeat (first | exact Below.refl _ _ | exact HBW.out | exact below_rowed HBW.out (by omega) | refine bG ?_ _ | refine bI ?_ _ _ | refine bA ?_ _ | refine bD ?_ | refine bN ?_ _)⟩
                | false =>
                  have Hb := hid (hno (by simp [hkk]))
                  clear hno hyes hkk
                  go_wp2
                  go_ret2
                  exact ⟨by rw [Hb.out]; rfl, by repeat (first | exact Below.refl _ _ | exact HBW.out | exact below_rowed HBW.out (by omega) | refine bG ?_ _ | refine bI ?_ _ _ | refine bA ?_ _ | refine bD ?_ | refine bN ?_ _)⟩
            · have hd2 := ne_beq hd
              by_cases hlk : (k : Int) = (n : Int) - 1
              · have hkk : k + 1 = ns.length := by have := HL.out; omega
                have hq1 : ((k : Int) == (n : Int) - 1) = true := by simp; omega
                have hq2 : ¬ (k : Int) < (n : Int) - 1 := by omega
                clear hlk
                cases ub with
                | true =>
                  have Hb := hid (hno (by simp [hkk, hd]))
                  clear hno hyes hkk
                  go_wp2
                  go_ret2
                  exact ⟨by rw [Hb.out]; rfl, by repeat (first | exact Below.refl _ _ | exact HBW.out | exact below_rowed HBW.out (by omega) | refine bG ?_ _ | refine bI ?_ _ _ | refine bA ?_ _ | refine bD ?_ | refine bN ?_ _)⟩
                | false =>
                  have Hb := hid (hno (by simp [hkk, hd]))
                  clear hno hyes hkk
                  go_wp2
                  go_ret2
                  exact ⟨by rw [Hb.out]; rfl, by repeat (first | exact Below.refl _ _ | exact HBW.out | exact below_rowed HBW.out (by omega) | refine bG ?_ _ | refine bI ?_ _ _ | refine bA ?_ _ | refine bD ?_ | refine bN ?_ _)⟩
              · have hkk : ¬ k + 1 = ns.length := by have := HL.out; omega
                have hq1 := ne_beq hlk
                have hq2 : (k : Int) < (n : Int) - 1 := by omega
                clear hlk
                cases ub with
                | true =>
                  have Hy := hid (hyes (by simp [hkk, hd]))
                  obtain ⟨g9, h9⟩ := bout (bA (bG (Below.refl _ (rowed Wx U us)) g2) (.cells #[.int .i64 kd, .string x.text, .slice x.kp x.kids.length x.kcap, .int .i64 x.place] 30))
                  have H9 := hid h9
                  clear h9
                  clear hno hyes hkk
                  go_wp2
                  go_roundw
                  case rel => exact ⟨k + 1, g9, by omega, by go_num, H9.out, Hy⟩
                  case measure => simp [intOf]; omega
                | false =>
                  have Hb := hid (hno (by simp [hkk, hd]))
                  clear hno hyes hkk
                  go_wp2
                  go_ret2
                  exact ⟨by rw [Hb.out]; rfl, by repeat (first | exact Below.refl _ _ | exact HBW.out | exact below_rowed HBW.out (by omega) | refine bG ?_ _ | refine bI ?_ _ _ | refine bA ?_ _ | refine bD ?_ | refine bN ?_ _)⟩
          · obtain rfl : k = n := by omega
            have hroot : rootOK ns us = true := by
              unfold rootOK
              rw [List.all_eq_true]
              intro m hm
              exact hK.out m (by rw [HL.out]; exact List.mem_range.1 hm)
            have hck := Hck.out
            rw [if_pos hroot] at hck
            have Hdeep : Hid (∀ W, Below w.heap.size w W → Calls Tryz.prog 58 #[.slice p k c] W fun e w' => e = .returned (.int .i64 (deepOf ns)) ∧ Below W.heap.size W w') := hid fun W hW => by
              have h := deep_any p c ns W (NodesAt.later Ha.out hW) Hs.out
              rw [← HL.out] at h
              exact h
            generalize deepOf ns = dp at *
            by_cases hdp : 200 < dp
            · rw [if_pos hdp] at hck
              have Hb := hid hck
              clear hck hroot
              go_wp2_with (go_at_call 58; ((with_reducible refine (Hdeep.out _ (by repeat (first | exact Below.refl _ _ | exact HBW.out | exact below_rowed HBW.out (by omega) | refine bG ?_ _ | refine bI ?_ _ _ | refine bA ?_ _ | refine bD ?_ | refine bN ?_ _))).mono ?_)); rintro e w' ⟨rfl, hb⟩; obtain ⟨g4, rfl⟩ := bout hb; clear hb)
              go_ret2
              exact ⟨by rw [Hb.out]; rfl, by repeat (first | exact Below.refl _ _ | exact HBW.out | exact below_rowed HBW.out (by omega) | refine bG ?_ _ | refine bI ?_ _ _ | refine bA ?_ _ | refine bD ?_ | refine bN ?_ _)⟩
            · rw [if_neg hdp] at hck
              have Hb := hid hck
              clear hck hroot
              go_wp2_with (go_at_call 58; ((with_reducible refine (Hdeep.out _ (by repeat (first | exact Below.refl _ _ | exact HBW.out | exact below_rowed HBW.out (by omega) | refine bG ?_ _ | refine bI ?_ _ _ | refine bA ?_ _ | refine bD ?_ | refine bN ?_ _))).mono ?_)); rintro e w' ⟨rfl, hb⟩; obtain ⟨g4, rfl⟩ := bout hb; clear hb)
              go_ret2
              exact ⟨by rw [Hb.out]; rfl, by repeat (first | exact Below.refl _ _ | exact HBW.out | exact below_rowed HBW.out (by omega) | refine bG ?_ _ | refine bI ?_ _ _ | refine bA ?_ _ | refine bD ?_ | refine bN ?_ _)⟩
end Go.Proofs.YtbgjanmheagilaaGreatDoor
