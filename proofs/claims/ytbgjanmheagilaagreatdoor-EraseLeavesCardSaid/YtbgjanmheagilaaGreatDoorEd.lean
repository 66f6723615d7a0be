/- erase.Tree, walked. Conditions: the sizes that a program may hold. -/
import Derived.RangeFuncWrites
import Derived.RangeFuncBox
import Derived.Maps.OwnIn
import Derived.Test.YtbgjanmheagilaaGreatDoorEcX
import Derived.Test.YtbgjanmheagilaaGreatDoorRn
import Derived.Test.YtbgjanmheagilaaGreatDoorCgX
set_option linter.unusedVariables false
set_option linter.unusedSimpArgs false
namespace Go.Proofs.YtbgjanmheagilaaGreatDoor
open Go Go.RowKit Go.Nodes Go.WideMaps Go.Maps
set_option linter.unusedVariables false
set_option linter.unusedSimpArgs false
attribute [local go_sem] Oper.semAt_some
/-- What erase.each hands back. -/
theorem each_any (w : World) (p : Option Addr) (c L : Nat) :
    Calls Tryz.prog 28 #[.slice p L c] w fun e w' => e = .returned (.func (.func 59) #[] #[.pointer (some ⟨w.heap.size, 0, none⟩)]) ∧ w' = w.alloc (.cells #[.slice p L c] 22) := by
  go_enter Tryz.func28, Tryz.ntmps28
  go_wp2
  go_ret
  exact ⟨rfl, rfl⟩
/-- What the body of a round over each keeps. -/
def Ke (b Mb : Nat) (A B : World) : Prop := Below b A B ∧ KeepT Mb A B
theorem ke_t {b Mb : Nat} {A B C : World} (h : Ke b Mb A B) (k : Ke b Mb B C) : Ke b Mb A C := ⟨h.1.trans k.1, h.2.trans k.2⟩
theorem ke_refl (b Mb : Nat) (A : World) : Ke b Mb A A := ⟨Below.refl _ _, ⟨fun _ _ _ _ _ h => h, fun _ _ _ _ h => h⟩⟩
/-- What a seat's own bookkeeping keeps: all cells. -/
def Kc (b : Nat) (A B : World) : Prop := Below b A B ∧ ∀ (k : Nat) (cs : Array Value) (t : Nat), t ≠ 53 → t ≠ 30 → A.heap[k]? = some (.cells cs t (0, 0)) → B.heap[k]? = some (.cells cs t (0, 0))
theorem Ke.kc {b Mb : Nat} {A B : World} (h : Ke b Mb A B) : Kc b A B := ⟨h.1, h.2.cells⟩
theorem kc_t {b : Nat} {A B C : World} (h : Kc b A B) (k : Kc b B C) : Kc b A C := ⟨h.1.trans k.1, fun n cs t t1 t2 h1 => k.2 n cs t t1 t2 (h.2 n cs t t1 t2 h1)⟩
theorem kc_b {b : Nat} {w : World} (hn : b ≤ w.heap.size) (W : World) (l : Nat) (o o' : Obj) (hl : w.heap.size ≤ l) (h : W.heap[l]? = some o) (h1 : o.isCells = false) (h2 : o.isWalk = false) : Kc b W (W.putObj l o') :=
  ⟨belowK_b hn W l o o' hl h h1 h2, fun k cs t _ _ hk => (World.putObj_heap_other (by intro e; subst e; rw [h] at hk; cases hk; cases h1)).trans hk⟩
theorem Ke.from {b Mb B : Nat} {A C : World} (h : Ke b Mb A C) (hB : Mb < B) : KeepsFrom B A C := ⟨h.1.size, fun k o hk h1 h2 => h.2.objs k o (by omega) h2 h1⟩
def YsOf (ns : List Nd) (ys : List (Int × Bool)) : Prop := ys.length = ns.length ∧ ∀ (i : Nat) (h : i < ys.length), ys[i].1 = (i : Int) ∧ (ys[i].2 = true → typedK (kindAt ns (i : Int)) = true)
/-- What each hands on. -/
def EachOf (ns : List Nd) : Type := { x : Int × Bool // 0 ≤ x.1 ∧ x.1 < (ns.length : Int) ∧ (x.2 = true → typedK (kindAt ns x.1) = true) }
def vals {ns : List Nd} (ys : List (EachOf ns)) : List (Int × Bool) := ys.map (·.1)
theorem vals_snoc {ns : List Nd} (l : List (EachOf ns)) (x : EachOf ns) : vals (l ++ [x]) = vals l ++ [x.1] := List.map_append ..
theorem each_stops (n Bl : Nat) (ns : List Nd) (p : Option Addr) (c : Nat) (w : World) (ha : NodesAt w p ns) (hs : Small ns) (hsd : Sound ns) (w1 : World) (hB : Below w.heap.size w w1) (hBll : Bl < w1.heap.size) (hBl : w1.cell? ⟨Bl, 0, none⟩ = some (.slice p ns.length c)) :
    SeqStopsK Fence.wide n Tryz.prog 59 #[.pointer (some ⟨Bl, 0, none⟩)] (fun x : EachOf ns => enc3 x.1) (Kc w.heap.size) (fun ys => YsOf ns (vals ys)) (fun _ => True) ns.length w1 := fun l J Jx W hW hJ _ hY h0 =>
  (each1_in n l Bl (fun pre W => ∃ pre' : List (EachOf ns), vals pre' = pre ∧ J pre' W) (fun pre W => ∃ pre' : List (EachOf ns), vals pre' = pre ∧ Jx pre' W) (Kc w.heap.size) ns p c w ha hs hsd (fun A B b cs _ h => h.2 b cs 4 (by decide) (by decide)) (fun A B h => h.1)
    (fun pre x W1 ⟨pre', hp, hj⟩ hlen h1 h2 => by
      have hlen' : pre'.length < ns.length := by rw [← hp] at hlen; simpa [vals] using hlen
      have hx : 0 ≤ x.1 ∧ x.1 < (ns.length : Int) ∧ (x.2 = true → typedK (kindAt ns x.1) = true) := ⟨by omega, by omega, h2⟩
      obtain ⟨fn, tmps, assign, body, hy, hR⟩ := hY pre' ⟨x, hx⟩ W1 hj hlen'
      exact ⟨fn, tmps, assign, body, hy, hR.mono fun e W' h => h.elim (fun ⟨e1, j1, k1⟩ => .inl ⟨e1, ⟨_, by rw [← hp]; exact vals_snoc _ _, j1⟩, k1⟩) (fun ⟨e1, j1⟩ => .inr ⟨e1, _, by rw [← hp]; exact vals_snoc _ _, j1⟩)⟩)
    W (hB.trans (hW.mono hB.size)) (fun s X Y row ⟨pre', hp, hj⟩ hg hr => ⟨pre', hp, hJ pre' X Y row hj hg hr⟩) (Nat.lt_of_lt_of_le hBll hW.size) ((hW.cell (p := ⟨Bl, 0, none⟩) hBll).trans hBl) ⟨[], rfl, h0⟩).mono
    fun e W' h => ⟨h.1, h.2.elim (fun ⟨ys, hys, pre', hp, hj⟩ => .inl ⟨pre', by show YsOf ns (vals pre'); rw [hp]; exact hys, hj⟩) fun ⟨pre, pre', _, h⟩ => .inr ⟨pre', trivial, h⟩⟩
/-- A node that is laid. -/
structure On where
  kind : Int
  text : ByteArray
  kp : Option Addr
  kn : Nat
  kc : Nat
  place : Int
def On.cells (x : On) : List Value := [.int .i64 x.kind, .string x.text, .slice x.kp x.kn x.kc, .int .i64 x.place]
def flat (os : List On) : List Value := (os.map On.cells).flatten
theorem flat_snoc (os : List On) (x : On) : flat (os ++ [x]) = flat os ++ x.cells := by simp [flat]
/-- Which kinds are laid. -/
def keptK (ns : List Nd) : List (Int × Bool) → List Int
  | [] => []
  | (n, true) :: l => 12 :: keptK ns l
  | (n, false) :: l => if typedK (kindAt ns n) then keptK ns l else kindAt ns n :: keptK ns l
theorem keptK_snoc (ns : List Nd) : ∀ (l : List (Int × Bool)) (x : Int × Bool), keptK ns (l ++ [x]) = keptK ns l ++ keptK ns [x]
  | [], x => rfl
  | (n, true) :: l, x => by simp [keptK, keptK_snoc ns l x]
  | (n, false) :: l, x => by simp only [List.cons_append, keptK, keptK_snoc ns l x]; split <;> simp
/-- What lies at the head of each round. -/
def Jt (w : World) (p : Option Addr) (L c : Nat) (ns : List Nd) (Mb Pb Tb : Nat) (pre : List (Int × Bool)) (W : World) : Prop :=
  (Boxed W w.heap.size 22 (.slice p L c) ∧ Boxed W Tb 50 (.pointer (some ⟨Pb, 0, none⟩))) ∧ Below w.heap.size w W ∧ ∃ os, os.map On.kind = keptK ns pre ∧ Laid Mb Pb Mb W (flat os) os.length pre.length
theorem boxed_grow {W : World} {B : Nat} {t : TypeId} {v : Value} (h : Boxed W B t v) (g : Gro) : Boxed (grow W g) B t v := h.kept (row := none) ⟨(below_grow W g).os, (below_grow W g).tape, (below_grow W g).output, (below_grow W g).size, fun n hn _ => (below_grow W g).block n hn⟩ (by simp)
theorem laid_grown {B Pb Mb N m : Nat} {W W' : World} {xs : List Value} {row : Option Nat} (h : Laid B Pb Mb W xs m N) (hg : W.grownBy W' row) (hr : ∀ r, row = some r → Mb < r ∧ ∃ o : Obj, W.heap[r]? = some o ∧ o.isCells = false) : Laid B Pb Mb W' xs m N := by
  obtain ⟨⟨v, hP, hO⟩, ⟨n, D, hn, hM⟩, hPB, hMB⟩ := h
  have hne : ∀ (b : Nat) (c : Array Value) (t : Nat) (fz : Nat × Nat), W.heap[b]? = some (.cells c t fz) → some b ≠ row := fun b c t fz hb e => by
    obtain ⟨_, o, ho, hc⟩ := hr b e.symm
    rw [hb] at ho; cases ho; cases hc
  refine ⟨⟨v, (hg.block Pb (Array.getElem?_eq_some_iff.1 hP).1 (hne _ _ _ _ hP)).trans hP, hO.kept hg ?_⟩, ⟨n, D, hn, hM.kept hg fun e => by have := (hr Mb e.symm).1; omega⟩, hPB, hMB⟩
  cases hv : v.ownBlock with
  | none => exact .inl rfl
  | some g =>
    obtain ⟨c, fz, hh⟩ := Lib.ownsRow_kind hO g hv
    exact .inr (hne _ _ _ _ hh)
theorem jt_own {B : Nat} (w : World) (p : Option Addr) (L c : Nat) (ns : List Nd) (Mb Pb Tb : Nat) (hM : Mb < B) (h : w.heap.size ≤ B) : OwnFrom B (Jt w p L c ns Mb Pb Tb) :=
  OwnFrom.and (OwnFrom.and (Own.from (boxed_own _ _ _) _) (Own.from (boxed_own _ _ _) _)) (OwnFrom.and (ownFrom_below (Nat.le_refl _) h)
    (fun pre W W' row hs hg hr => by obtain ⟨os, h1, h2⟩ := hs; exact ⟨os, h1, laid_grown h2 hg fun r e => ⟨by have := (hr r e).1; omega, (hr r e).2⟩⟩))
/-- A round that lays a node. -/
theorem jt_put {w W W' : World} {p : Option Addr} {L c Mb Pb Tb : Nat} {ns : List Nd} {pre : List (Int × Bool)} {x : Int × Bool} {os : List On} {o : On}
    (hb : Boxed W w.heap.size 22 (.slice p L c)) (ht : Boxed W Tb 50 (.pointer (some ⟨Pb, 0, none⟩))) (hB : Below w.heap.size w W) (hos : os.map On.kind = keptK ns pre) (hk : keptK ns [x] = [o.kind])
    (hMw : w.heap.size ≤ Mb) (hL : Laid Mb Pb Mb W' (flat os ++ o.cells) (os.length + 1) (pre.length + 1)) (hK : Ke Mb Mb W W') : Jt w p L c ns Mb Pb Tb (pre ++ [x]) W' :=
  ⟨⟨hK.2.cells _ _ _ (by decide) (by decide) hb, hK.2.cells _ _ _ (by decide) (by decide) ht⟩, hB.trans (hK.1.mono hMw), os ++ [o], by rw [List.map_append, hos, keptK_snoc, hk]; rfl, by
    rw [flat_snoc, List.length_append, List.length_append]; exact hL⟩
theorem laid_more {B Pb Mb m N : Nat} {W : World} {xs : List Value} (h : Laid B Pb Mb W xs m N) : Laid B Pb Mb W xs m (N + 1) :=
  ⟨h.box, by obtain ⟨n, D, hn, hM⟩ := h.map; exact ⟨n, D, by omega, hM⟩, h.pb, h.mb⟩
theorem jt_skip {w W : World} {p : Option Addr} {L c Mb Pb Tb : Nat} {ns : List Nd} {pre : List (Int × Bool)} {x : Int × Bool} (h : Jt w p L c ns Mb Pb Tb pre W) (hk : keptK ns [x] = []) : Jt w p L c ns Mb Pb Tb (pre ++ [x]) W := by
  obtain ⟨h1, h2, os, h3, h4⟩ := h
  exact ⟨h1, h2, os, by rw [keptK_snoc, hk, List.append_nil]; exact h3, by rw [List.length_append]; exact laid_more h4⟩
theorem gb_drew (W : World) : W.grownBy W.drew none := ⟨rfl, rfl, rfl, Nat.le_refl _, fun _ _ _ => rfl⟩
theorem jt_drew {w W : World} {p : Option Addr} {L c Mb Pb Tb : Nat} {ns : List Nd} {pre : List (Int × Bool)} (h : Jt w p L c ns Mb Pb Tb pre W) : Jt w p L c ns Mb Pb Tb pre W.drew := by
  obtain ⟨h1, h2, os, h3, h4⟩ := h
  exact ⟨h1, h2.drew, os, h3, laid_grown h4 (gb_drew W) (fun r e => nomatch e)⟩
theorem ke_drew {b Mb : Nat} {W W' : World} (h : Ke b Mb W.drew W') : Ke b Mb W W' := ⟨⟨h.1.os, h.1.tape, h.1.output, h.1.size, h.1.block⟩, ⟨h.2.cells, h.2.objs⟩⟩
theorem gb_below {W W' : World} (h : Below W.heap.size W W') : W.grownBy W' none := ⟨h.os, h.tape, h.output, h.size, fun n hn _ => h.block n hn⟩
theorem jt_below {w W W' : World} {p : Option Addr} {L c Mb Pb Tb : Nat} {ns : List Nd} {pre : List (Int × Bool)} (h : Jt w p L c ns Mb Pb Tb pre W) (hb : Below W.heap.size W W') : Jt w p L c ns Mb Pb Tb pre W' := by
  obtain ⟨h1, h2, os, h3, h4⟩ := h
  exact ⟨⟨h1.1.kept (gb_below hb) (by simp), h1.2.kept (gb_below hb) (by simp)⟩, h2.trans (hb.mono h2.size), os, h3, laid_grown h4 (gb_below hb) (fun r e => nomatch e)⟩
theorem ke_below {Mb : Nat} {W W' : World} (hb : Below W.heap.size W W') (h : Mb ≤ W.heap.size) : Ke Mb Mb W W' :=
  ⟨hb.mono h, ⟨fun b cs t _ _ hh => (hb.block b (Array.getElem?_eq_some_iff.1 hh).1).trans hh, fun b o _ _ hh => (hb.block b (Array.getElem?_eq_some_iff.1 hh).1).trans hh⟩⟩
/-- A round that notes a place alone. -/
theorem jt_map {w W W' : World} {p : Option Addr} {L c Mb Pb Tb n : Nat} {D : DataW Unit} {ns : List Nd} {pre : List (Int × Bool)} {x : Int × Bool} (h : Jt w p L c ns Mb Pb Tb pre W) (hk : keptK ns [x] = []) (hg : W.grownBy W' (some Mb)) (hMh : ∃ es clk, W.heap[Mb]? = some (.map es clk))
    (hM : MapOwn W' Mb n D) (hn : n ≤ pre.length + 1) (hMw : w.heap.size ≤ Mb) : Jt w p L c ns Mb Pb Tb (pre ++ [x]) W' ∧ Ke Mb Mb W W' := by
  obtain ⟨⟨h1, h2⟩, hB, os, h3, h4⟩ := h
  obtain ⟨es, clk, hMh⟩ := hMh
  have hlt : Mb < W.heap.size := (Array.getElem?_eq_some_iff.1 hMh).1
  have hKe : Ke Mb Mb W W' := by
    refine ⟨(Below.refl _ _).grown hg (by omega) (fun k e => by cases e; exact Nat.le_refl _), ⟨fun b cs t _ _ hh => ?_, fun b o hb _ hh => ?_⟩⟩
    · exact (hg.block b (Array.getElem?_eq_some_iff.1 hh).1 (fun e => by cases e; rw [hh] at hMh; cases hMh)).trans hh
    · exact (hg.block b (Array.getElem?_eq_some_iff.1 hh).1 (fun e => by cases e; exact hb rfl)).trans hh
  obtain ⟨⟨v, hP, hO⟩, _, hPB, hMB⟩ := h4
  refine ⟨⟨⟨hKe.2.cells _ _ _ (by decide) (by decide) h1, hKe.2.cells _ _ _ (by decide) (by decide) h2⟩, hB.trans (hKe.1.mono hMw), os, by rw [keptK_snoc, hk, List.append_nil]; exact h3, ⟨v, ?_, hO.kept hg ?_⟩, ⟨n, D, by rw [List.length_append]; exact hn, hM⟩, hPB, hMB⟩, hKe⟩
  · exact (hg.block Pb (Array.getElem?_eq_some_iff.1 hP).1 (fun e => by cases e; rw [hP] at hMh; cases hMh)).trans hP
  · cases hv : v.ownBlock with
    | none => exact .inl rfl
    | some g =>
      obtain ⟨c, fz, hh⟩ := Lib.ownsRow_kind hO g hv
      exact .inr fun e => by cases e; rw [hh] at hMh; cases hMh
/-- What a put leaves behind. -/
def PutPost (w : World) (p : Option Addr) (L c : Nat) (ns : List Nd) (Mb : Nat) (pre : List (Int × Bool)) (x : Int × Bool) (W6 : World) (e : Ending) (w' : World) : Prop :=
  e = .returned (.tuple #[]) ∧ Hid (Jt w p L c ns Mb (Mb + 1) (Mb + 2) (pre ++ [x]) w' ∧ Ke Mb Mb W6 w')
theorem in_round {l n : Nat} {P : Program} {f : FuncId} {args : Array Value} {w : World} {R : Ending → World → Prop} (h : Calls P f args w R) : CallsIn (Fence.wide.inRound l) n P f args w R := callsIn_wide (n := n).2 h
theorem keptK_len (ns : List Nd) : ∀ l : List (Int × Bool), (keptK ns l).length ≤ l.length
  | [] => Nat.le_refl _
  | (n, true) :: l => by simp [keptK, keptK_len ns l]
  | (n, false) :: l => by
    have := keptK_len ns l
    simp only [keptK]
    split <;> simp <;> omega
set_option maxRecDepth 100000 in
set_option maxHeartbeats 4000000 in
theorem tree10_any (p : Option Addr) (c : Nat) (ns : List Nd) (w : World) (ha : NodesAt w p ns) (hs : Small ns) (hc : Capped ns) (hl0 : Lib0 w) :
    Calls Tryz.prog 10 #[.slice p ns.length c] w fun e w' => Below w.heap.size w w' ∧ ∃ v n, e = .returned (.tuple #[v, .int .i64 n]) ∧
      (n ≠ 0 ∨ (n = 0 ∧ Sound ns ∧ ∃ B os ys, w.heap.size ≤ B ∧ YsOf ns ys ∧ os.map On.kind = keptK ns ys ∧ w'.ownsRow B 30 4 v os.length (flat os))) := by
  have hmm := @run_makeMap Tryz.prog
  have hdd : ∀ k : Nat, (Fence.wide.depth.isSome = true → 1 ≤ k) := fun k h => by cases h
  obtain ⟨n1, hn1⟩ : ∃ n1, (checkS ns).1 = n1 := ⟨_, rfl⟩
  obtain ⟨n2, hn2⟩ : ∃ n2, (checkS ns).2 = n2 := ⟨_, rfl⟩
  have F1 : Hid (∀ w', Below w.heap.size w w' → CallsIn Fence.wide 2 Tryz.prog 27 #[.slice p ns.length c] w' (ErrPost n1 n2 w')) := hid fun w' h => callsIn_wide.2 (by have := check_any w' p c ns hs hc (NodesAt.later ha h) (hl0.later h); rw [hn1, hn2] at this; exact this)
  obtain ⟨L, hL⟩ : ∃ L, L = ns.length := ⟨_, rfl⟩
  rw [← hL] at F1 ⊢
  have HL := hid hL
  have Ha := hid ha
  have Hs := hid hs
  have Hc := hid hc
  have Hn2 := hid hn2
  clear hL ha hl0 hs hc hn1 hn2
  refine (callsIn_wide (n := 3)).1 ?_
  refine callsIn_of_wp_marks Tryz.func10 rfl trivial ?_ rfl
  simp only [Tryz.ntmps10, List.size_toArray, List.length_cons, List.length_nil, Nat.reduceAdd, Nat.reduceSub, Array.replicate_succ, Array.replicate_zero, List.push_toArray, List.append_toArray, List.nil_append, List.cons_append]
  by_cases e0 : n2 = 0
  · subst e0
    have Hsd := hid (sound_of Hn2.out)
    gi_wp2_with (first
      | (refine ⟨trivial, ?_⟩; (try refine ⟨hdd _, ?_⟩); gi_at_call 27; ((with_reducible refine (F1.out _ ?_).mono ?_); rotate_left; rintro e w' ⟨rfl, hb⟩; obtain ⟨g1, rfl⟩ := bout hb; clear hb))
      | (refine ⟨trivial, ?_⟩; (try refine ⟨hdd _, ?_⟩); gi_at_call 28; refine (callsIn_wide.2 (each_any _ _ _ _)).mono ?_; rintro e w' ⟨rfl, rfl⟩))
    all_goals (try (repeat (first | exact Below.refl _ _ | refine bG ?_ _ | refine bI ?_ _ _ | refine bA ?_ _)))
    obtain ⟨Wm, hWm⟩ : ∃ Wm, grow (w.alloc (.cells #[.slice p L c] 22)) g1 = Wm := ⟨_, rfl⟩
    have hsz : Wm.heap.size = w.heap.size + 1 + g1.size := by rw [← hWm]; simp
    have hbm : Below w.heap.size w Wm := by rw [← hWm]; repeat (first | exact Below.refl _ _ | refine bG ?_ _ | refine bI ?_ _ _ | refine bA ?_ _)
    have hbx : Boxed Wm w.heap.size 22 (.slice p L c) := by rw [← hWm]; exact boxed_grow (Boxed.new w 22 _) _
    rw [hWm, ← hsz]
    clear hWm
    obtain ⟨Mb, hMb⟩ : ∃ Mb, Wm.heap.size = Mb := ⟨_, rfl⟩
    rw [hMb]
    obtain ⟨W5, hW5⟩ : ∃ W5, (((Wm.alloc (.map #[] 0)).alloc (.cells #[.map (some Mb), .slice none 0 0] 53)).alloc (.cells #[.pointer (some ⟨Mb + 1, 0, none⟩)] 50)).alloc (.cells #[.slice p L c] 22) = W5 := ⟨_, rfl⟩
    rw [hW5]
    have hS5 : W5.heap.size = Mb + 4 := by rw [← hW5]; simp [hMb]
    have hB5 : Below Mb Wm W5 := by rw [← hW5, ← hMb]; repeat (first | exact Below.refl _ _ | refine bG ?_ _ | refine bI ?_ _ _ | refine bA ?_ _)
    have hMw : w.heap.size + 1 ≤ Mb := by omega
    have hM0 := (((World.ownsMap_made Wm Tryz.prog 3 (plainElem (H := Unit) Tryz.prog 3)).alloc (.cells #[.map (some Mb), .slice none 0 0] 53)).alloc (.cells #[.pointer (some ⟨Mb + 1, 0, none⟩)] 50)).alloc (.cells #[.slice p L c] 22)
    rw [hW5, hMb] at hM0
    have hJ0 : Jt w p L c ns Mb (Mb + 1) (Mb + 2) [] W5 := by
      refine ⟨⟨?_, ?_⟩, hbm.trans (hB5.mono (by omega)), [], rfl, ⟨⟨.slice none 0 0, ?_, by simp [flat], .inl ⟨rfl, by simp⟩⟩, ⟨0, _, Nat.zero_le _, hM0⟩, by omega, Nat.le_refl _⟩⟩
      · rw [← hW5]; exact (((hbx.alloc _).alloc _).alloc _).alloc _
      · rw [← hW5]
        have h1 := (Boxed.new ((Wm.alloc (.map #[] 0)).alloc (.cells #[.map (some Mb), .slice none 0 0] 53)) 50 (.pointer (some ⟨Mb + 1, 0, none⟩))).alloc (.cells #[.slice p L c] 22)
        have h2 : ((Wm.alloc (.map #[] 0)).alloc (.cells #[.map (some Mb), .slice none 0 0] 53)).heap.size = Mb + 2 := by simp [hMb]
        rw [h2] at h1
        exact h1
      · rw [← hW5, ← hMb]
        have h1 : (Wm.alloc (.map #[] 0)).heap.size = Wm.heap.size + 1 := by simp
        rw [Below.heap_alloc _ _ _ (by simp), Below.heap_alloc _ _ _ (by simp), ← h1]
        exact heap_alloc_new _ _
    have hBl5 : Boxed W5 (Mb + 3) 22 (.slice p L c) := by
      rw [← hW5]
      have h1 := Boxed.new (((Wm.alloc (.map #[] 0)).alloc (.cells #[.map (some Mb), .slice none 0 0] 53)).alloc (.cells #[.pointer (some ⟨Mb + 1, 0, none⟩)] 50)) 22 (.slice p L c)
      have h2 : (((Wm.alloc (.map #[] 0)).alloc (.cells #[.map (some Mb), .slice none 0 0] 53)).alloc (.cells #[.pointer (some ⟨Mb + 1, 0, none⟩)] 50)).heap.size = Mb + 3 := by simp [hMb]
      rw [h2] at h1
      exact h1
    clear hW5 hsz
    rename_i K hK
    refine wpIn_rangeFunc_ownG (n := 3) rfl (by omega) (gf := 59) (lb := #[.pointer (some ⟨Mb + 3, 0, none⟩)]) rfl trivial (enters_of Tryz.func59 (by kernel_rfl) rfl)
      (each_stops (3 - 1) (Mb + 3) ns p c Wm (NodesAt.later Ha.out hbm) Hs.out Hsd.out W5 (by rw [hMb]; exact hB5) hBl5.lt (by rw [← HL.out]; exact hBl5.cell)) kc_t (kc_b (by omega)) (Below.refl _ _) (fun _ => rfl)
      (fun pre W6 => pre.length ≤ L ∧ Jt w p L c ns Mb (Mb + 1) (Mb + 2) (vals pre) W6)
      (fun cc pre W6 => False)
      (OwnFrom.and (ownFrom_pure _ _) (fun s X Y row h hg hr => jt_own w p L c ns Mb (Mb + 1) (Mb + 2) (by omega) (by omega) (vals s) X Y row h hg hr)) (fun cc => ownFrom_pure _ _) ⟨Nat.zero_le _, hJ0⟩
      (fun x => { tmps := List.toArray (.slice p L c :: .pointer (some ⟨w.heap.size, 0, none⟩) :: .slice none 0 0 :: .int .i64 0 :: .int .i64 n1 :: .int .i64 0 :: .pointer (some ⟨Mb + 2, 0, none⟩) :: .int .i64 x.1.1 :: .bool x.1.2 :: .tuple #[.int .i64 n1, .int .i64 0] :: .slice p L c :: .tuple #[.int .i64 n1, .int .i64 0] :: .int .i64 n1 :: .int .i64 0 :: .int .i64 0 :: .bool false :: undef :: .map (some Mb) :: .agg #[.map (some Mb), .slice none 0 0] :: .pointer (some ⟨Mb + 1, 0, none⟩) :: .slice p L c :: .func (.func 59) #[] #[.pointer (some ⟨Mb + 3, 0, none⟩)] :: .int .i64 x.1.1 :: .bool x.1.2 :: undef :: undef :: undef :: undef :: undef :: undef :: undef :: undef :: undef :: undef :: undef :: undef :: undef :: undef :: undef :: undef :: undef :: undef :: undef :: undef :: undef :: undef :: undef :: undef :: undef :: undef :: undef :: undef :: undef :: undef :: undef :: undef :: undef :: undef :: undef :: undef :: undef :: undef :: undef :: undef :: undef :: undef :: undef :: undef :: undef :: undef :: undef :: undef :: []), defers := [] }) ?assign2 ?body2 ?done2 ?stop2
    case assign2 =>
      intro l x W K hK
      dsimp only [enc3]
      gi_wp2
      simpa [enc3] using hK
    case stop2 =>
      intro D cc pre W _ _ h
      exact h.elim
    case body2 =>
      rintro l pre ⟨⟨xi, xt⟩, hx0, hx1, hx2⟩ W6 ⟨hple, hj⟩ hlen
      obtain ⟨z, rfl⟩ : ∃ z : Nat, xi = (z : Int) := ⟨xi.toNat, by simp at hx0; omega⟩
      have hz : z < ns.length := by simp at hx1; omega
      have hzL : (z : Int) < (L : Int) := by have := HL.out; omega
      have z0 : (0 : Int) ≤ (z : Int) := by omega
      have hLs : L ≤ 5000 := by have := HL.out; have := Hs.out.1; omega
      have hpl : pre.length + 1 ≤ L := by have := HL.out; omega
      have Hj := hid hj
      obtain ⟨⟨hbx6, htx6⟩, hB6, os, hos, hLd⟩ := hj
      have hosl : os.length ≤ pre.length := by
        have h1 := congrArg List.length hos
        have h2 := keptK_len ns (vals pre)
        simp [vals] at h1 h2
        omega
      have hMl : Mb < W6.heap.size := by obtain ⟨n, D, _, hM⟩ := hLd.map; exact hM.lt
      have hvl : (vals pre).length = pre.length := by simp [vals]
      have c1 := hbx6.cell
      have c6 := htx6.cell
      obtain ⟨b, o, rfl, hbl, hnz, hfine, k0, k1, k2, k3⟩ := nd_at (NodesAt.later Ha.out hB6) hz
      have hkz : kindAt ns (z : Int) = ns[z].kind := by unfold kindAt; rw [Int.toNat_natCast, hnz]
      have Hfine := hid hfine
      have HE : Hid (∀ (y : EachOf ns) (W' : World), y.1 = ((z : Int), xt) → Jt w (some ⟨b, o, none⟩) L c ns Mb (Mb + 1) (Mb + 2) (vals pre ++ [((z : Int), xt)]) W' → Ke Mb Mb W6 W' →
          KeepsFrom W5.heap.size W6 W' ∧ Kc Wm.heap.size W6 W' ∧ (pre ++ [y]).length ≤ L ∧ Jt w (some ⟨b, o, none⟩) L c ns Mb (Mb + 1) (Mb + 2) (vals (pre ++ [y])) W') := hid fun y W' hy hj hk =>
        ⟨hk.from (by omega), by rw [hMb]; exact hk.kc, by rw [List.length_append]; exact hpl, by rw [vals_snoc, hy]; exact hj⟩
      have HP : Hid (∀ (W : World) (kind : Int) (text : ByteArray) (kp : Option Addr) (kcap : Nat) (place : Int) (kids : List Int) (q : Nat), kids.length = q → Below W6.heap.size W6 W → (∀ k ∈ kids, i64 k) → kids.length ≤ 20000 → IntsAt W kp kids → keptK ns [((z : Int), xt)] = [kind] →
          Calls Tryz.prog 29 #[.pointer (some ⟨Mb + 1, 0, none⟩), .int .i64 (z : Int), .agg #[.int .i64 kind, .string text, .slice kp q kcap, .int .i64 place]] W (PutPost w (some ⟨b, o, none⟩) L c ns Mb (vals pre) ((z : Int), xt) W6)) := hid fun W kind text kp kcap place kids q hq hW hki hkl hka hkk => by
        subst hq
        have hLW : Laid Mb (Mb + 1) Mb W (flat os) os.length pre.length := by
          have h1 := hLd
          rw [hvl] at h1
          exact laid_grown h1 (gb_below hW) (fun r e => nomatch e)
        refine ((put_any Mb (Mb + 1) Mb (flat os) os.length pre.length (by omega) (by omega) kind text kp kcap place kids hki hkl W hka (z : Int) ⟨by omega, by omega⟩ hLW).mono fun e w' ⟨h1, ⟨kp', q', c', h2⟩, h3, h4⟩ => ⟨h1, hid ?_⟩)
        have hKe : Ke Mb Mb W6 w' := ke_t (ke_below hW (by omega)) ⟨h3, h4⟩
        exact ⟨jt_put (o := ⟨kind, text, kp', q', c', place⟩) hbx6 htx6 hB6 hos hkk (by omega) (by rw [hvl]; exact h2) hKe, hKe⟩
      cases xt with
      | true =>
        have H9 := hid (in_round (l := l) (n := 0) (HP.out W6 12 ⟨#[]⟩ none 0 0 [] 0 rfl (Below.refl _ _) (fun k h => nomatch h) (by simp) (.inl rfl) rfl))
        clear HP
        gi_wp2_with (refine ⟨trivial, ?_⟩; gi_at_call 29; ((with_reducible refine H9.out.mono ?_); clear H9; rintro e w' ⟨rfl, Hw⟩))
        exact HE.out _ _ rfl Hw.out.1 Hw.out.2
      | false =>
        have hwl := hbx6.lt
        have hTl := htx6.lt
        by_cases h36 : ns[z].kind = 36
        · have hkk : keptK ns [((z : Int), false)] = [] := by simp [keptK, hkz, h36, typedK]
          obtain ⟨n, D, hn, hM⟩ := hLd.map
          have hPw := hLd.box
          obtain ⟨v, hPw, _⟩ := hPw
          rw [hvl] at hn
          obtain ⟨bk, ok, hkp, hbk, ck⟩ := kid_at hfine (j := 0) ((Hsd.out z _ hnz).2.2.2 h36)
          have hu : i64 (ns[z].kids.getD 0 0) := by
            have h0 := (Hsd.out z _ hnz).2.2.2 h36
            rw [List.getD, List.getElem?_eq_getElem h0]
            exact hfine.2.2.2.2.1 _ (List.getElem_mem h0)
          have q0 : (0 : Int) < (ns[z].kids.length : Int) := by have h0 := (Hsd.out z _ hnz).2.2.2 h36; omega
          have hMh : ∃ es clk, W6.drew.heap[Mb]? = some (.map es clk) := by obtain ⟨es, clk, h, _⟩ := id hM; exact ⟨es, clk, h⟩
          rw [h36] at k0
          rw [hkp] at k2
          have ck0 : W6.cell? ⟨bk, ok, none⟩ = some (.int .i64 (ns[z].kids.getD 0 0)) := ck
          generalize ns[z].kids.getD 0 0 = u at *
          have q1 : 0 < ns[z].kids.length := (Hsd.out z _ hnz).2.2.2 h36
          have q2 : ¬ (ns[z].kids.length : Int) ≤ 0 := by omega
          have q3 : ns[z].kids.length ≠ 0 := by omega
          generalize ns[z].kids.length = q at *
          have hkeyu := keyOf_int_mk (P := Tryz.prog) (k := 3) Tryz.underlying3 (show (Lit.int .i64 u).wf = true from WalkArith.wf_i64 hu)
          have hkeyz := keyOf_int_mk (P := Tryz.prog) (k := 3) Tryz.underlying3 (show (Lit.int .i64 (z : Int)).wf = true from WalkArith.wf_i64 (by omega))
          obtain ⟨cv, hrun, _, hcw⟩ := hM.drew.lookup_int klaw Tryz.underlying51 Tryz.underlying3 (zero3 _) hkeyu
          have cP0 : W6.cell? ⟨Mb + 1, 0, none⟩ = some (.map (some Mb)) := by simp [World.cell?, hPw]
          have hPl := (Array.getElem?_eq_some_iff.1 hPw).1
          have HM := hid hM
          have HMh := hid hMh
          have Hkk := hid hkk
          have Hn := hid hn
          clear hM hMh hkk hn HP hPw hkp hnz hfine k1 k3 hLd hos hbx6 htx6 hkz h36 Hfine
          gi_wp2
          (refine wpIn_region_still_tail 17 (by kernel_rfl) (by kernel_rfl) (by kernel_rfl) ?_; simp only [List.take_succ_cons, List.take_zero, List.drop_succ_cons, List.drop_zero]; (repeat still_step); try refine wpStill_nil ?_)
          go_wp2_with (at_mapUpdate; refine wpList_mapUpdate_own _ rfl _ _ _ 51 rfl 3 3 klaw Tryz.underlying51 _ Mb n D rfl HM.out.drew (by unfold maxLen; have := Hn.out; omega) _ _ _ rfl rfl hkeyz _ [] (plainElem_int Tryz.underlying3 hcw) ?_)
          intro W7 hM7 hg7
          go_wp2
          obtain ⟨h1, h2⟩ := jt_map (x := ((z : Int), false)) (jt_drew Hj.out) Hkk.out hg7 HMh.out hM7 (by have := Hn.out; omega) (by omega)
          exact HE.out _ _ rfl h1 (ke_drew h2)
        · have HT : Hid (∀ W, CallsIn (Fence.wide.inRound l) 0 Tryz.prog 30 #[.agg #[.int .i64 ns[z].kind, .string ns[z].text, .slice ns[z].kp ns[z].kids.length ns[z].kcap, .int .i64 ns[z].place]] W fun e w' => e = .returned (.bool (typedK ns[z].kind)) ∧ Below W.heap.size W w') := hid fun W => in_round (typed_any _ _ _ _ _ _ _)
          have H13 : Hid (typedK ns[z].kind = false → ∀ W, Below W6.heap.size W6 W → Calls Tryz.prog 29 #[.pointer (some ⟨Mb + 1, 0, none⟩), .int .i64 (z : Int), .agg #[.int .i64 ns[z].kind, .string ns[z].text, .slice ns[z].kp ns[z].kids.length ns[z].kcap, .int .i64 ns[z].place]] W (PutPost w (some ⟨b, o, none⟩) L c ns Mb (vals pre) ((z : Int), false) W6)) :=
            hid fun ht W hW => by
              obtain ⟨_, _, _, _, _, hf, _⟩ := nd_at (NodesAt.later Ha.out (hB6.trans (hW.mono hB6.size))) hz
              exact HP.out W _ _ _ _ _ _ _ rfl hW hf.2.2.2.2.1 (Hs.out.2 _ (List.getElem_mem hz)).1 hf.2.2.2.2.2 (by simp [keptK, hkz, ht])
          have hk36 : (ns[z].kind == 36) = false := by simp [h36]
          have hkt : Hid (typedK ns[z].kind = true → keptK ns [((z : Int), false)] = []) := hid fun ht => by simp [keptK, hkz, ht]
          clear HP hnz hfine hLd hos hbx6 htx6 hkz h36 Hfine
          generalize ns[z].kind = kd at *
          generalize ns[z].text = tx at *
          generalize ns[z].kp = kp at *
          generalize ns[z].kids.length = q at *
          generalize ns[z].kcap = kc at *
          generalize ns[z].place = pl at *
          cases hty : typedK kd with
          | true =>
            rw [hty] at HT
            gi_wp2_with (refine ⟨trivial, ?_⟩; gi_at_call 30; ((with_reducible refine (HT.out _).mono ?_); clear HT; rintro e w' ⟨rfl, hb⟩; obtain ⟨g3, rfl⟩ := bout hb; clear hb))
            exact HE.out _ _ rfl (jt_skip (jt_below Hj.out (below_grow _ _)) (hkt.out hty)) (ke_below (below_grow _ _) (by omega))
          | false =>
            rw [hty] at HT
            have H13' := hid (H13.out hty)
            clear H13 hkt hty
            gi_wp2_with (refine ⟨trivial, ?_⟩; gi_at_call 30; ((with_reducible refine (HT.out _).mono ?_); clear HT; rintro e w' ⟨rfl, hb⟩; obtain ⟨g3, rfl⟩ := bout hb; clear hb))
            (refine wpIn_region_still_tail 6 (by kernel_rfl) (by kernel_rfl) (by kernel_rfl) ?_; simp only [List.take_succ_cons, List.take_zero, List.drop_succ_cons, List.drop_zero]; (repeat still_step); try refine wpStill_nil ?_)
            go_wp2_with (go_at_call 29; ((with_reducible refine (H13'.out _ ?_).mono ?_); rotate_left; rintro e w' ⟨rfl, Hw⟩))
            · exact HE.out _ _ rfl Hw.out.1 Hw.out.2
            · exact Below.drew (below_grow _ _)
    case done2 =>
      rintro D ys W hD hys ⟨hyl, hj⟩ hdf
      refine hK _ _ ?_
      obtain ⟨⟨hbx6, htx6⟩, hB6, os, hos, ⟨⟨v, hPw, hO⟩, _⟩⟩ := hj
      have c6 := htx6.cell
      have cP1 : W.cell? ⟨Mb + 1, 1, none⟩ = some v := by simp [World.cell?, hPw]
      have Hfin := hid (show Below w.heap.size w (W.putObj D (.deferred none)) ∧ (W.putObj D (.deferred none)).ownsRow Mb 30 4 v os.length (flat os) from by
        refine ⟨hB6.trans (belowK_b (w := w) (Nat.le_refl _) _ D _ _ (by omega) hdf rfl rfl), hO.kept (grownBy_putObj' _ D _) ?_⟩
        cases hv : v.ownBlock with
        | none => exact .inl rfl
        | some g =>
          obtain ⟨c, fz, hh⟩ := Lib.ownsRow_kind hO g hv
          exact .inr fun e => by cases e; rw [hh] at hdf; cases hdf)
      have Hos := hid hos
      have Hys := hid hys
      clear hos hys hO
      gi_wp2
      refine ⟨by simp, .inl ⟨_, _, rfl, run_takeDeferred hdf, ?_⟩⟩
      refine ⟨.tuple #[v, .int .i64 0], ?_, Hfin.out.1, _, _, rfl, .inr ⟨rfl, Hsd.out, Mb, os, vals ys, by omega, Hys.out, Hos.out, Hfin.out.2⟩⟩
      simp [results, Tryz.f10, go_sem]
  · have hne : (n2 != 0) = true := by simp [e0]
    have He := hid e0
    clear e0
    gi_wp2_with (first
      | (refine ⟨trivial, ?_⟩; (try refine ⟨hdd _, ?_⟩); gi_at_call 27; ((with_reducible refine (F1.out _ ?_).mono ?_); rotate_left; rintro e w' ⟨rfl, hb⟩; obtain ⟨g1, rfl⟩ := bout hb; clear hb)))
    all_goals (try (repeat (first | exact Below.refl _ _ | refine bG ?_ _ | refine bI ?_ _ _ | refine bA ?_ _)))
    refine ⟨.tuple #[.slice none 0 0, .int .i64 n2], ?_, ?_, _, _, rfl, .inl He.out⟩
    · simp [results, Tryz.f10, go_sem]
    · repeat (first | exact Below.refl _ _ | refine bG ?_ _ | refine bI ?_ _ _ | refine bA ?_ _)
end Go.Proofs.YtbgjanmheagilaaGreatDoor
