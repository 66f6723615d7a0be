/- erase.Tree, walked. Conditions: the sizes that a program may hold. -/
import Derived.RangeFuncWrites
import Derived.RangeFuncBox
import Derived.Maps.OwnIn
import Derived.Test.YtbgjanmheagilaaGreatDoorEcX
import Derived.Test.YtbgjanmheagilaaGreatDoorRn
import Derived.Test.YtbgjanmheagilaaGreatDoorCgX
import Derived.Maps.Views
set_option linter.unusedVariables false
set_option linter.unusedSimpArgs false
namespace Go.Proofs.YtbgjanmheagilaaGreatDoor
open Go Go.RowKit Go.Nodes Go.WideMaps Go.Maps
set_option linter.unusedVariables false
set_option linter.unusedSimpArgs false
attribute [local go_sem] Oper.semAt_some
/-- What erase.each hands back. -/
theorem each_any (w : World) (p : Option Addr) (c L : Nat) :
    Calls Tryz.prog 28 #[.slice p L c] w fun e w' => e = .returned (.func (.func 59) #[] #[.pointer (some ⟨w.heap.size, 0, none⟩)]) ∧ w' = w.alloc (.cells #[.slice p L c] 22) := by
  go_enter Tryz.func28, Tryz.ntmps28
  go_wp2
  go_ret
  exact ⟨rfl, rfl⟩
/-- What the body of a round over each keeps. -/
def Ke (b Mb : Nat) (A B : World) : Prop := Below b A B ∧ KeepT Mb A B
theorem ke_t {b Mb : Nat} {A B C : World} (h : Ke b Mb A B) (k : Ke b Mb B C) : Ke b Mb A C := ⟨h.1.trans k.1, h.2.trans k.2⟩
theorem ke_refl (b Mb : Nat) (A : World) : Ke b Mb A A := ⟨Below.refl _ _, ⟨fun _ _ _ _ _ h => h, fun _ _ _ _ h => h⟩⟩
/-- What a seat's own bookkeeping keeps: all cells. -/
def Kc (b : Nat) (A B : World) : Prop := Below b A B ∧ ∀ (k : Nat) (cs : Array Value) (t : Nat), t ≠ 53 → t ≠ 30 → A.heap[k]? = some (.cells cs t (0, 0)) → B.heap[k]? = some (.cells cs t (0, 0))
theorem Ke.kc {b Mb : Nat} {A B : World} (h : Ke b Mb A B) : Kc b A B := ⟨h.1, h.2.cells⟩
theorem kc_t {b : Nat} {A B C : World} (h : Kc b A B) (k : Kc b B C) : Kc b A C := ⟨h.1.trans k.1, fun n cs t t1 t2 h1 => k.2 n cs t t1 t2 (h.2 n cs t t1 t2 h1)⟩
theorem kc_b {b : Nat} {w : World} (hn : b ≤ w.heap.size) (W : World) (l : Nat) (o o' : Obj) (hl : w.heap.size ≤ l) (h : W.heap[l]? = some o) (h1 : o.isCells = false) (h2 : o.isWalk = false) : Kc b W (W.putObj l o') :=
  ⟨belowK_b hn W l o o' hl h h1 h2, fun k cs t _ _ hk => (World.putObj_heap_other (by intro e; subst e; rw [h] at hk; cases hk; cases h1)).trans hk⟩
theorem Ke.from {b Mb B : Nat} {A C : World} (h : Ke b Mb A C) (hB : Mb < B) : KeepsFrom B A C := ⟨h.1.size, fun k o hk h1 h2 => h.2.objs k o (by omega) h2 h1⟩
def YsOf (ns : List Nd) (ys : List (Int × Bool)) : Prop := ys.length = ns.length ∧ ∀ (i : Nat) (h : i < ys.length), ys[i].1 = (i : Int) ∧ (ys[i].2 = true → typedK (kindAt ns (i : Int)) = true)
/-- What each hands on. -/
def EachOf (ns : List Nd) : Type := { x : Int × Bool // 0 ≤ x.1 ∧ x.1 < (ns.length : Int) ∧ (x.2 = true → typedK (kindAt ns x.1) = true) }
def vals {ns : List Nd} (ys : List (EachOf ns)) : List (Int × Bool) := ys.map (·.1)
theorem vals_snoc {ns : List Nd} (l : List (EachOf ns)) (x : EachOf ns) : vals (l ++ [x]) = vals l ++ [x.1] := List.map_append ..
theorem each_stops (n Bl : Nat) (ns : List Nd) (p : Option Addr) (c : Nat) (w : World) (ha : NodesAt w p ns) (hs : Small ns) (hsd : Sound ns) (w1 : World) (hB : Below w.heap.size w w1) (hBll : Bl < w1.heap.size) (hBl : w1.cell? ⟨Bl, 0, none⟩ = some (.slice p ns.length c)) :
    SeqStopsK Fence.wide n Tryz.prog 59 #[.pointer (some ⟨Bl, 0, none⟩)] (fun x : EachOf ns => enc3 x.1) (Kc w.heap.size) (fun ys => YsOf ns (vals ys)) (fun _ => True) ns.length w1 := fun l J Jx W hW hJ _ hY h0 =>
  (each1_in n l Bl (fun pre W => ∃ pre' : List (EachOf ns), vals pre' = pre ∧ J pre' W) (fun pre W => ∃ pre' : List (EachOf ns), vals pre' = pre ∧ Jx pre' W) (Kc w.heap.size) ns p c w ha hs hsd (fun A B b cs _ h => h.2 b cs 4 (by decide) (by decide)) (fun A B h => h.1)
    (fun pre x W1 ⟨pre', hp, hj⟩ hlen h1 h2 => by
      have hlen' : pre'.length < ns.length := by rw [← hp] at hlen; simpa [vals] using hlen
      have hx : 0 ≤ x.1 ∧ x.1 < (ns.length : Int) ∧ (x.2 = true → typedK (kindAt ns x.1) = true) := ⟨by omega, by omega, h2⟩
      obtain ⟨fn, tmps, assign, body, hy, hR⟩ := hY pre' ⟨x, hx⟩ W1 hj hlen'
      exact ⟨fn, tmps, assign, body, hy, hR.mono fun e W' h => h.elim (fun ⟨e1, j1, k1⟩ => .inl ⟨e1, ⟨_, by rw [← hp]; exact vals_snoc _ _, j1⟩, k1⟩) (fun ⟨e1, j1⟩ => .inr ⟨e1, _, by rw [← hp]; exact vals_snoc _ _, j1⟩)⟩)
    W (hB.trans (hW.mono hB.size)) (fun s X Y row ⟨pre', hp, hj⟩ hg hr => ⟨pre', hp, hJ pre' X Y row hj hg hr⟩) (Nat.lt_of_lt_of_le hBll hW.size) ((hW.cell (p := ⟨Bl, 0, none⟩) hBll).trans hBl) ⟨[], rfl, h0⟩).mono
    fun e W' h => ⟨h.1, h.2.elim (fun ⟨ys, hys, pre', hp, hj⟩ => .inl ⟨pre', by show YsOf ns (vals pre'); rw [hp]; exact hys, hj⟩) fun ⟨pre, pre', _, h⟩ => .inr ⟨pre', trivial, h⟩⟩
/-- A node that is laid. -/
structure On where
  kind : Int
  text : ByteArray
  kp : Option Addr
  kn : Nat
  kc : Nat
  place : Int
def On.cells (x : On) : List Value := [.int .i64 x.kind, .string x.text, .slice x.kp x.kn x.kc, .int .i64 x.place]
def flat (os : List On) : List Value := (os.map On.cells).flatten
theorem flat_snoc (os : List On) (x : On) : flat (os ++ [x]) = flat os ++ x.cells := by simp [flat]
/-- Which kinds are laid. -/
def keptK (ns : List Nd) : List (Int × Bool) → List Int
  | [] => []
  | (n, true) :: l => 12 :: keptK ns l
  | (n, false) :: l => if typedK (kindAt ns n) then keptK ns l else kindAt ns n :: keptK ns l
theorem keptK_snoc (ns : List Nd) : ∀ (l : List (Int × Bool)) (x : Int × Bool), keptK ns (l ++ [x]) = keptK ns l ++ keptK ns [x]
  | [], x => rfl
  | (n, true) :: l, x => by simp [keptK, keptK_snoc ns l x]
  | (n, false) :: l, x => by simp only [List.cons_append, keptK, keptK_snoc ns l x]; split <;> simp
/-- What lies at the head of each round. -/
def Jt (w : World) (p : Option Addr) (L c : Nat) (ns : List Nd) (Mb Pb Tb : Nat) (pre : List (Int × Bool)) (W : World) : Prop :=
  (Boxed W w.heap.size 22 (.slice p L c) ∧ Boxed W Tb 50 (.pointer (some ⟨Pb, 0, none⟩))) ∧ Below w.heap.size w W ∧ ∃ os, os.map On.kind = keptK ns pre ∧ Laid Mb Pb Mb W (flat os) os.length pre.length
theorem boxed_grow {W : World} {B : Nat} {t : TypeId} {v : Value} (h : Boxed W B t v) (g : Gro) : Boxed (grow W g) B t v := h.kept (row := none) ⟨(below_grow W g).os, (below_grow W g).tape, (below_grow W g).output, (below_grow W g).size, fun n hn _ => (below_grow W g).block n hn⟩ (by simp)
theorem laid_grown {B Pb Mb N m : Nat} {W W' : World} {xs : List Value} {row : Option Nat} (h : Laid B Pb Mb W xs m N) (hg : W.grownBy W' row) (hr : ∀ r, row = some r → Mb < r ∧ ∃ o : Obj, W.heap[r]? = some o ∧ o.isCells = false) : Laid B Pb Mb W' xs m N := by
  obtain ⟨⟨v, hP, hO⟩, ⟨n, D, hn, hM⟩, hPB, hMB⟩ := h
  have hne : ∀ (b : Nat) (c : Array Value) (t : Nat) (fz : Nat × Nat), W.heap[b]? = some (.cells c t fz) → some b ≠ row := fun b c t fz hb e => by
    obtain ⟨_, o, ho, hc⟩ := hr b e.symm
    rw [hb] at ho; cases ho; cases hc
  refine ⟨⟨v, (hg.block Pb (Array.getElem?_eq_some_iff.1 hP).1 (hne _ _ _ _ hP)).trans hP, hO.kept hg ?_⟩, ⟨n, D, hn, hM.kept hg fun e => by have := (hr Mb e.symm).1; omega⟩, hPB, hMB⟩
  cases hv : v.ownBlock with
  | none => exact .inl rfl
  | some g =>
    obtain ⟨c, fz, hh⟩ := Lib.ownsRow_kind hO g hv
    exact .inr (hne _ _ _ _ hh)
theorem jt_own {B : Nat} (w : World) (p : Option Addr) (L c : Nat) (ns : List Nd) (Mb Pb Tb : Nat) (hM : Mb < B) (h : w.heap.size ≤ B) : OwnFrom B (Jt w p L c ns Mb Pb Tb) :=
  OwnFrom.and (OwnFrom.and (Own.from (boxed_own _ _ _) _) (Own.from (boxed_own _ _ _) _)) (OwnFrom.and (ownFrom_below (Nat.le_refl _) h)
    (fun pre W W' row hs hg hr => by obtain ⟨os, h1, h2⟩ := hs; exact ⟨os, h1, laid_grown h2 hg fun r e => ⟨by have := (hr r e).1; omega, (hr r e).2⟩⟩))
/-- A round that lays a node. -/
theorem jt_put {w W W' : World} {p : Option Addr} {L c Mb Pb Tb : Nat} {ns : List Nd} {pre : List (Int × Bool)} {x : Int × Bool} {os : List On} {o : On}
    (hb : Boxed W w.heap.size 22 (.slice p L c)) (ht : Boxed W Tb 50 (.pointer (some ⟨Pb, 0, none⟩))) (hB : Below w.heap.size w W) (hos : os.map On.kind = keptK ns pre) (hk : keptK ns [x] = [o.kind])
    (hMw : w.heap.size ≤ Mb) (hL : Laid Mb Pb Mb W' (flat os ++ o.cells) (os.length + 1) (pre.length + 1)) (hK : Ke Mb Mb W W') : Jt w p L c ns Mb Pb Tb (pre ++ [x]) W' :=
  ⟨⟨hK.2.cells _ _ _ (by decide) (by decide) hb, hK.2.cells _ _ _ (by decide) (by decide) ht⟩, hB.trans (hK.1.mono hMw), os ++ [o], by rw [List.map_append, hos, keptK_snoc, hk]; rfl, by
    rw [flat_snoc, List.length_append, List.length_append]; exact hL⟩
theorem laid_more {B Pb Mb m N : Nat} {W : World} {xs : List Value} (h : Laid B Pb Mb W xs m N) : Laid B Pb Mb W xs m (N + 1) :=
  ⟨h.box, by obtain ⟨n, D, hn, hM⟩ := h.map; exact ⟨n, D, by omega, hM⟩, h.pb, h.mb⟩
theorem jt_skip {w W : World} {p : Option Addr} {L c Mb Pb Tb : Nat} {ns : List Nd} {pre : List (Int × Bool)} {x : Int × Bool} (h : Jt w p L c ns Mb Pb Tb pre W) (hk : keptK ns [x] = []) : Jt w p L c ns Mb Pb Tb (pre ++ [x]) W := by
  obtain ⟨h1, h2, os, h3, h4⟩ := h
  exact ⟨h1, h2, os, by rw [keptK_snoc, hk, List.append_nil]; exact h3, by rw [List.length_append]; exact laid_more h4⟩
theorem gb_drew (W : World) : W.grownBy W.drew none := ⟨rfl, rfl, rfl, Nat.le_refl _, fun _ _ _ => rfl⟩
theorem jt_drew {w W : World} {p : Option Addr} {L c Mb Pb Tb : Nat} {ns : List Nd} {pre : List (Int × Bool)} (h : Jt w p L c ns Mb Pb Tb pre W) : Jt w p L c ns Mb Pb Tb pre W.drew := by
  obtain ⟨h1, h2, os, h3, h4⟩ := h
  exact ⟨h1, h2.drew, os, h3, laid_grown h4 (gb_drew W) (fun r e => nomatch e)⟩
theorem ke_drew {b Mb : Nat} {W W' : World} (h : Ke b Mb W.drew W') : Ke b Mb W W' := ⟨⟨h.1.os, h.1.tape, h.1.output, h.1.size, h.1.block⟩, ⟨h.2.cells, h.2.objs⟩⟩
theorem gb_below {W W' : World} (h : Below W.heap.size W W') : W.grownBy W' none := ⟨h.os, h.tape, h.output, h.size, fun n hn _ => h.block n hn⟩
theorem jt_below {w W W' : World} {p : Option Addr} {L c Mb Pb Tb : Nat} {ns : List Nd} {pre : List (Int × Bool)} (h : Jt w p L c ns Mb Pb Tb pre W) (hb : Below W.heap.size W W') : Jt w p L c ns Mb Pb Tb pre W' := by
  obtain ⟨h1, h2, os, h3, h4⟩ := h
  exact ⟨⟨h1.1.kept (gb_below hb) (by simp), h1.2.kept (gb_below hb) (by simp)⟩, h2.trans (hb.mono h2.size), os, h3, laid_grown h4 (gb_below hb) (fun r e => nomatch e)⟩
theorem ke_below {Mb : Nat} {W W' : World} (hb : Below W.heap.size W W') (h : Mb ≤ W.heap.size) : Ke Mb Mb W W' :=
  ⟨hb.mono h, ⟨fun b cs t _ _ hh => (hb.block b (Array.getElem?_eq_some_iff.1 hh).1).trans hh, fun b o _ _ hh => (hb.block b (Array.getElem?_eq_some_iff.1 hh).1).trans hh⟩⟩
/-- A round that notes a place alone. -/
theorem jt_map {w W W' : World} {p : Option Addr} {L c Mb Pb Tb n : Nat} {D : DataW Unit} {ns : List Nd} {pre : List (Int × Bool)} {x : Int × Bool} (h : Jt w p L c ns Mb Pb Tb pre W) (hk : keptK ns [x] = []) (hg : W.grownBy W' (some Mb)) (hMh : ∃ es clk, W.heap[Mb]? = some (.map es clk))
    (hM : MapOwn W' Mb n D) (hn : n ≤ pre.length + 1) (hMw : w.heap.size ≤ Mb) : Jt w p L c ns Mb Pb Tb (pre ++ [x]) W' ∧ Ke Mb Mb W W' := by
  obtain ⟨⟨h1, h2⟩, hB, os, h3, h4⟩ := h
  obtain ⟨es, clk, hMh⟩ := hMh
  have hlt : Mb < W.heap.size := (Array.getElem?_eq_some_iff.1 hMh).1
  have hKe : Ke Mb Mb W W' := by
    refine ⟨(Below.refl _ _).grown hg (by omega) (fun k e => by cases e; exact Nat.le_refl _), ⟨fun b cs t _ _ hh => ?_, fun b o hb _ hh => ?_⟩⟩
    · exact (hg.block b (Array.getElem?_eq_some_iff.1 hh).1 (fun e => by cases e; rw [hh] at hMh; cases hMh)).trans hh
    · exact (hg.block b (Array.getElem?_eq_some_iff.1 hh).1 (fun e => by cases e; exact hb rfl)).trans hh
  obtain ⟨⟨v, hP, hO⟩, _, hPB, hMB⟩ := h4
  refine ⟨⟨⟨hKe.2.cells _ _ _ (by decide) (by decide) h1, hKe.2.cells _ _ _ (by decide) (by decide) h2⟩, hB.trans (hKe.1.mono hMw), os, by rw [keptK_snoc, hk, List.append_nil]; exact h3, ⟨v, ?_, hO.kept hg ?_⟩, ⟨n, D, by rw [List.length_append]; exact hn, hM⟩, hPB, hMB⟩, hKe⟩
  · exact (hg.block Pb (Array.getElem?_eq_some_iff.1 hP).1 (fun e => by cases e; rw [hP] at hMh; cases hMh)).trans hP
  · cases hv : v.ownBlock with
    | none => exact .inl rfl
    | some g =>
      obtain ⟨c, fz, hh⟩ := Lib.ownsRow_kind hO g hv
      exact .inr fun e => by cases e; rw [hh] at hMh; cases hMh
/-- What a put leaves behind. -/
def PutPost (w : World) (p : Option Addr) (L c : Nat) (ns : List Nd) (Mb : Nat) (pre : List (Int × Bool)) (x : Int × Bool) (W6 : World) (e : Ending) (w' : World) : Prop :=
  e = .returned (.tuple #[]) ∧ Hid (Jt w p L c ns Mb (Mb + 1) (Mb + 2) (pre ++ [x]) w' ∧ Ke Mb Mb W6 w')
theorem in_round {l n : Nat} {P : Program} {f : FuncId} {args : Array Value} {w : World} {R : Ending → World → Prop} (h : Calls P f args w R) : CallsIn (Fence.wide.inRound l) n P f args w R := callsIn_wide (n := n).2 h
theorem keptK_len (ns : List Nd) : ∀ l : List (Int × Bool), (keptK ns l).length ≤ l.length
  | [] => Nat.le_refl _
  | (n, true) :: l => by simp [keptK, keptK_len ns l]
  | (n, false) :: l => by
    have := keptK_len ns l
    simp only [keptK]
    split <;> simp <;> omega
set_option maxRecDepth 100000 in
set_option maxHeartbeats 4000000 in
theorem tree10_any (p : Option Addr) (c : Nat) (ns : List Nd) (w : World) (ha : NodesAt w p ns) (hs : Small ns) (hc : Capped ns) (hl0 : Lib0 w) :
    Calls Tryz.prog 10 #[.slice p ns.length c] w fun e w' => Below w.heap.size w w' ∧ ∃ v n, e = .returned (.tuple #[v, .int .i64 n]) ∧
      (n ≠ 0 ∨ (n = 0 ∧ Sound ns ∧ ∃ B os ys, w.heap.size ≤ B ∧ YsOf ns ys ∧ os.map On.kind = keptK ns ys ∧ w'.ownsRow B 30 4 v os.length (flat os))) := by
  have hmm := @run_makeMap Tryz.prog
  have hdd : ∀ k : Nat, (Fence.wide.depth.isSome = true → 1 ≤ k) := fun k h => by cases h
  obtain ⟨n1, hn1⟩ : ∃ n1, (checkS ns).1 = n1 := ⟨_, rfl⟩
  obtain ⟨n2, hn2⟩ : ∃ n2, (checkS ns).2 = n2 := ⟨_, rfl⟩
  have F1 : Hid (∀ w', Below w.heap.size w w' → CallsIn Fence.wide 2 Tryz.prog 27 #[.slice p ns.length c] w' (ErrPost n1 n2 w')) := hid fun w' h => callsIn_wide.2 (by have := check_any w' p c ns hs hc (NodesAt.later ha h) (hl0.later h); rw [hn1, hn2] at this; exact this)
  obtain ⟨L, hL⟩ : ∃ L, L = ns.length := ⟨_, rfl⟩
  rw [← hL] at F1 ⊢
  have HL := hid hL
  have Ha := hid ha
  have Hs := hid hs
  have Hc := hid hc
  have Hn2 := hid hn2
  clear hL ha hl0 hs hc hn1 hn2
  refine (callsIn_wide (n := 3)).1 ?_
  refine callsIn_of_wp_marks Tryz.func10 rfl trivial ?_ rfl
  simp only [Tryz.ntmps10, List.size_toArray, List.length_cons, List.length_nil, Nat.reduceAdd, Nat.reduceSub, Array.replicate_succ, Array.replicate_zero, List.push_toArray, List.append_toArray, List.nil_append, List.cons_append]
  by_cases e0 : n2 = 0
  · subst e0
    have Hsd := hid (sound_of Hn2.out)
    gi_wp2_with (first
      | (refine ⟨trivial, ?_⟩; (try refine ⟨hdd _, ?_⟩); gi_at_call 27; ((with_reducible refine (F1.out _ ?_).mono ?_); rotate_left; rintro e w' ⟨rfl, hb⟩; obtain ⟨g1, rfl⟩ := bout hb; clear hb))
      | (refine ⟨trivial, ?_⟩; (try refine ⟨hdd _, ?_⟩); gi_at_call 28; refine (callsIn_wide.2 (each_any _ _ _ _)).mono ?_; rintro e w' ⟨rfl, rfl⟩))
    all_goals (try (repeat (first | exact Below.refl _ _ | refine bG ?_ _ | refine bI ?_ _ _ | refine bA ?_ _)))
    obtain ⟨Wm, hWm⟩ : ∃ Wm, grow (w.alloc (.cells #[.slice p L c] 22)) g1 = Wm := ⟨_, rfl⟩
    have hsz : Wm.heap.size = w.heap.size + 1 + g1.size := by rw [← hWm]; simp
    have hbm : Below w.heap.size w Wm := by rw [← hWm]; repeat (first | exact Below.refl _ _ | refine bG ?_ _ | refine bI ?_ _ _ | refine bA ?_ _)
    have hbx : Boxed Wm w.heap.size 22 (.slice p L c) := by rw [← hWm]; exact boxed_grow (Boxed.new w 22 _) _
    rw [hWm, ← hsz]
    clear hWm
    obtain ⟨Mb, hMb⟩ : ∃ Mb, Wm.heap.size = Mb := ⟨_, rfl⟩
    rw [hMb]
    obtain ⟨W5, hW5⟩ : ∃ W5, (((Wm.alloc (.map #[] 0)).alloc (.cells #[.map (some Mb), .slice none 0 0] 53)).alloc (.cells #[.pointer (some ⟨Mb + 1, 0, none⟩)] 50)).alloc (.cells #[.slice p L c] 22) = W5 := ⟨_, rfl⟩
    rw [hW5]
    have hS5 : W5.heap.size = Mb + 4 := by rw [← hW5]; simp [hMb]
    have hB5 : Below Mb Wm W5 := by rw [← hW5, ← hMb]; repeat (first | exact Below.refl _ _ | refine bG ?_ _ | refine bI ?_ _ _ | refine bA ?_ _)
    have hMw : w.heap.size + 1 ≤ Mb := by omega
    have hM0 := (((World.ownsMap_made Wm Tryz.prog 3 (plainElem (H := Unit) Tryz.prog 3)).alloc (.cells #[.map (some Mb), .slice none 0 0] 53)).alloc (.cells #[.pointer (some ⟨Mb + 1, 0, none⟩)] 50)).alloc (.cells #[.slice p L c] 22)
    rw [hW5, hMb] at hM0
    have hJ0 : Jt w p L c ns Mb (Mb + 1) (Mb + 2) [] W5 := by
      refine ⟨⟨?_, ?_⟩, hbm.trans (hB5.mono (by omega)), [], rfl, ⟨⟨.slice none 0 0, ?_, by simp [flat], .inl ⟨rfl, by simp⟩⟩, ⟨0, _, Nat.zero_le _, hM0⟩, by omega, Nat.le_refl _⟩⟩
      · rw [← hW5]; exact (((hbx.alloc _).alloc _).alloc _).alloc _
      · rw [← hW5]
        have h1 := (Boxed.new ((Wm.alloc (.map #[] 0)).alloc (.cells #[.map (some Mb), .slice none 0 0] 53)) 50 (.pointer (some ⟨Mb + 1, 0, none⟩))).alloc (.cells #[.slice p L c] 22)
        have h2 : ((Wm.alloc (.map #[] 0)).alloc (.cells #[.map (some Mb), .slice none 0 0] 53)).heap.size = Mb + 2 := by simp [hMb]
        rw [h2] at h1
        exact h1
      · rw [← hW5, ← hMb]
        have h1 : (Wm.alloc (.map #[] 0)).heap.size = Wm.heap.size + 1 := by simp
        rw [Below.heap_alloc _ _ _ (by simp), Below.heap_alloc _ _ _ (by simp), ← h1]
        exact heap_alloc_new _ _
    have hBl5 : Boxed W5 (Mb + 3) 22 (.slice p L c) := by
      rw [← hW5]
      have h1 := Boxed.new (((Wm.alloc (.map #[] 0)).alloc (.cells #[.map (some Mb), .slice none 0 0] 53)).alloc (.cells #[.pointer (some ⟨Mb + 1, 0, none⟩)] 50)) 22 (.slice p L c)
      have h2 : (((Wm.alloc (.map #[] 0)).alloc (.cells #[.map (some Mb), .slice none 0 0] 53)).alloc (.cells #[.pointer (some ⟨Mb + 1, 0, none⟩)] 50)).heap.size = Mb + 3 := by simp [hMb]
      rw [h2] at h1
      exact h1
    clear hW5 hsz
    rename_i K hK
    refine wpIn_rangeFunc_ownG (n := 3) rfl (by omega) (gf := 59) (lb := #[.pointer (some ⟨Mb + 3, 0, none⟩)]) rfl trivial (enters_of Tryz.func59 (by kernel_rfl) rfl)
      (each_stops (3 - 1) (Mb + 3) ns p c Wm (NodesAt.later Ha.out hbm) Hs.out Hsd.out W5 (by rw [hMb]; exact hB5) hBl5.lt (by rw [← HL.out]; exact hBl5.cell)) kc_t (kc_b (by omega)) (Below.refl _ _) (fun _ => rfl)
      (fun pre W6 => pre.length ≤ L ∧ Jt w p L c ns Mb (Mb + 1) (Mb + 2) (vals pre) W6)
      (fun cc pre W6 => False)
      (OwnFrom.and (ownFrom_pure _ _) (fun s X Y row h hg hr => jt_own w p L c ns Mb (Mb + 1) (Mb + 2) (by omega) (by omega) (vals s) X Y row h hg hr)) (fun cc => ownFrom_pure _ _) ⟨Nat.zero_le _, hJ0⟩
      (fun x => { tmps := List.toArray (.slice p L c :: .pointer (some ⟨w.heap.size, 0, none⟩) :: .slice none 0 0 :: .int .i64 0 :: .int .i64 n1 :: .int .i64 0 :: .pointer (some ⟨Mb + 2, 0, none⟩) :: .int .i64 x.1.1 :: .bool x.1.2 :: .tuple #[.int .i64 n1, .int .i64 0] :: .slice p L c :: .tuple #[.int .i64 n1, .int .i64 0] :: .int .i64 n1 :: .int .i64 0 :: .int .i64 0 :: .bool false :: undef :: .map (some Mb) :: .agg #[.map (some Mb), .slice none 0 0] :: .pointer (some ⟨Mb + 1, 0, none⟩) :: .slice p L c :: .func (.func 59) #[] #[.pointer (some ⟨Mb + 3, 0, none⟩)] :: .int .i64 x.1.1 :: .bool x.1.2 :: undef :: undef :: undef :: undef :: undef :: undef :: undef :: undef :: undef :: undef :: undef :: undef :: undef :: undef :: undef :: undef :: undef :: undef :: undef :: undef :: undef :: undef :: undef :: undef :: undef :: undef :: undef :: undef :: undef :: undef :: undef :: undef :: undef :: undef :: undef :: undef :: undef :: undef :: undef :: undef :: undef :: undef :: undef :: undef :: undef :: undef :: undef :: undef :: []), defers := [] }) ?assign2 ?body2 ?done2 ?stop2
    case assign2 =>
      intro l x W K hK
      dsimp only [enc3]
      gi_wp2
      simpa [enc3] using hK
    case stop2 =>
      intro D cc pre W _ _ h
      exact h.elim
    case body2 =>
      rintro l pre ⟨⟨xi, xt⟩, hx0, hx1, hx2⟩ W6 ⟨hple, hj⟩ hlen
      obtain ⟨z, rfl⟩ : ∃ z : Nat, xi = (z : Int) := ⟨xi.toNat, by simp at hx0; omega⟩
      have hz : z < ns.length := by simp at hx1; omega
      have hzL : (z : Int) < (L : Int) := by have := HL.out; omega
      have z0 : (0 : Int) ≤ (z : Int) := by omega
      have hLs : L ≤ 5000 := by have := HL.out; have := Hs.out.1; omega
      have hpl : pre.length + 1 ≤ L := by have := HL.out; omega
      have Hj := hid hj
      obtain ⟨⟨hbx6, htx6⟩, hB6, os, hos, hLd⟩ := hj
      have hosl : os.length ≤ pre.length := by
        have h1 := congrArg List.length hos
        have h2 := keptK_len ns (vals pre)
        simp [vals] at h1 h2
        omega
      have hMl : Mb < W6.heap.size := by obtain ⟨n, D, _, hM⟩ := hLd.map; exact hM.lt
      have hvl : (vals pre).length = pre.length := by simp [vals]
      have c1 := hbx6.cell
      have c6 := htx6.cell
      obtain ⟨b, o, rfl, hbl, hnz, hfine, k0, k1, k2, k3⟩ := nd_at (NodesAt.later Ha.out hB6) hz
      have hkz : kindAt ns (z : Int) = ns[z].kind := by unfold kindAt; rw [Int.toNat_natCast, hnz]
      have Hfine := hid hfine
      have HE : Hid (∀ (y : EachOf ns) (W' : World), y.1 = ((z : Int), xt) → Jt w (some ⟨b, o, none⟩) L c ns Mb (Mb + 1) (Mb + 2) (vals pre ++ [((z : Int), xt)]) W' → Ke Mb Mb W6 W' →
          KeepsFrom W5.heap.size W6 W' ∧ Kc Wm.heap.size W6 W' ∧ (pre ++ [y]).length ≤ L ∧ Jt w (some ⟨b, o, none⟩) L c ns Mb (Mb + 1) (Mb + 2) (vals (pre ++ [y])) W') := hid fun y W' hy hj hk =>
        ⟨hk.from (by omega), by rw [hMb]; exact hk.kc, by rw [List.length_append]; exact hpl, by rw [vals_snoc, hy]; exact hj⟩
      have HP : Hid (∀ (W : World) (kind : Int) (text : ByteArray) (kp : Option Addr) (kcap : Nat) (place : Int) (kids : List Int) (q : Nat), kids.length = q → Below W6.heap.size W6 W → (∀ k ∈ kids, i64 k) → kids.length ≤ 20000 → IntsAt W kp kids → keptK ns [((z : Int), xt)] = [kind] →
          Calls Tryz.prog 29 #[.pointer (some ⟨Mb + 1, 0, none⟩), .int .i64 (z : Int), .agg #[.int .i64 kind, .string text, .slice kp q kcap, .int .i64 place]] W (PutPost w (some ⟨b, o, none⟩) L c ns Mb (vals pre) ((z : Int), xt) W6)) := hid fun W kind text kp kcap place kids q hq hW hki hkl hka hkk => by
        subst hq
        have hLW : Laid Mb (Mb + 1) Mb W (flat os) os.length pre.length := by
          have h1 := hLd
          rw [hvl] at h1
          exact laid_grown h1 (gb_below hW) (fun r e => nomatch e)
        refine ((put_any Mb (Mb + 1) Mb (flat os) os.length pre.length (by omega) (by omega) kind text kp kcap place kids hki hkl W hka (z : Int) ⟨by omega, by omega⟩ hLW).mono fun e w' ⟨h1, ⟨kp', q', c', h2⟩, h3, h4⟩ => ⟨h1, hid ?_⟩)
        have hKe : Ke Mb Mb W6 w' := ke_t (ke_below hW (by omega)) ⟨h3, h4⟩
        exact ⟨jt_put (o := ⟨kind, text, kp', q', c', place⟩) hbx6 htx6 hB6 hos hkk (by omega) (by rw [hvl]; exact h2) hKe, hKe⟩
      cases xt with
      | true =>
        have H9 := hid (in_round (l := l) (n := 0) (HP.out W6 12 ⟨#[]⟩ none 0 0 [] 0 rfl (Below.refl _ _) (fun k h => nomatch h) (by simp) (.inl rfl) rfl))
        clear HP
        gi_wp2_with (refine ⟨trivial, ?_⟩; gi_at_call 29; ((with_reducible refine H9.out.mono ?_); clear H9; rintro e w' ⟨rfl, Hw⟩))
        exact HE.out _ _ rfl Hw.out.1 Hw.out.2
      | false =>
        have hwl := hbx6.lt
        have hTl := htx6.lt
        by_cases h36 : ns[z].kind = 36
        · have hkk : keptK ns [((z : Int), false)] = [] := by simp [keptK, hkz, h36, typedK]
          obtain ⟨n, D, hn, hM⟩ := hLd.map
          have hPw := hLd.box
          obtain ⟨v, hPw, _⟩ := hPw
          rw [hvl] at hn
          obtain ⟨bk, ok, hkp, hbk, ck⟩ := kid_at hfine (j := 0) ((Hsd.out z _ hnz).2.2.2 h36)
          have hu : i64 (ns[z].kids.getD 0 0) := by
            have h0 := (Hsd.out z _ hnz).2.2.2 h36
            rw [List.getD, List.getElem?_eq_getElem h0]
            exact hfine.2.2.2.2.1 _ (List.getElem_mem h0)
          have q0 : (0 : Int) < (ns[z].kids.length : Int) := by have h0 := (Hsd.out z _ hnz).2.2.2 h36; omega
          have hMh : ∃ es clk, W6.drew.heap[Mb]? = some (.map es clk) := by obtain ⟨es, clk, h, _⟩ := id hM; exact ⟨es, clk, h⟩
          rw [h36] at k0
          rw [hkp] at k2
          have ck0 : W6.cell? ⟨bk, ok, none⟩ = some (.int .i64 (ns[z].kids.getD 0 0)) := ck
          generalize ns[z].kids.getD 0 0 = u at *
          have q1 : 0 < ns[z].kids.length := (Hsd.out z _ hnz).2.2.2 h36
          have q2 : ¬ (ns[z].kids.length : Int) ≤ 0 := by omega
          have q3 : ns[z].kids.length ≠ 0 := by omega
          generalize ns[z].kids.length = q at *
          have hkeyu := keyOf_int_mk (P := Tryz.prog) (k := 3) Tryz.underlying3 (show (Lit.int .i64 u).wf = true from WalkArith.wf_i64 hu)
          have hkeyz := keyOf_int_mk (P := Tryz.prog) (k := 3) Tryz.underlying3 (show (Lit.int .i64 (z : Int)).wf = true from WalkArith.wf_i64 (by omega))
          obtain ⟨cv, hrun, _, hcw⟩ := hM.drew.lookup_int klaw Tryz.underlying51 Tryz.underlying3 (zero3 _) hkeyu
          have cP0 : W6.cell? ⟨Mb + 1, 0, none⟩ = some (.map (some Mb)) := by simp [World.cell?, hPw]
          have hPl := (Array.getElem?_eq_some_iff.1 hPw).1
          have HM := hid hM
          have HMh := hid hMh
          have Hkk := hid hkk
          have Hn := hid hn
          clear hM hMh hkk hn HP hPw hkp hnz hfine k1 k3 hLd hos hbx6 htx6 hkz h36 Hfine
          gi_wp2
          (refine wpIn_region_still_tail 17 (by kernel_rfl) (by kernel_rfl) (by kernel_rfl) ?_; simp only [List.take_succ_cons, List.take_zero, List.drop_succ_cons, List.drop_zero]; (repeat still_step); try refine wpStill_nil ?_)
          go_wp2_with (at_mapUpdate; refine wpList_mapUpdate_own _ rfl _ _ _ 51 rfl 3 3 klaw Tryz.underlying51 _ Mb n D rfl HM.out.drew (by unfold maxLen; have := Hn.out; omega) _ _ _ rfl rfl hkeyz _ [] (plainElem_int Tryz.underlying3 hcw) ?_)
          intro W7 hM7 hg7
          go_wp2
          obtain ⟨h1, h2⟩ := jt_map (x := ((z : Int), false)) (jt_drew Hj.out) Hkk.out hg7 HMh.out hM7 (by have := Hn.out; omega) (by omega)
          exact HE.out _ _ rfl h1 (ke_drew h2)
        · have HT : Hid (∀ W, CallsIn (Fence.wide.inRound l) 0 Tryz.prog 30 #[.agg #[.int .i64 ns[z].kind, .string ns[z].text, .slice ns[z].kp ns[z].kids.length ns[z].kcap, .int .i64 ns[z].place]] W fun e w' => e = .returned (.bool (typedK ns[z].kind)) ∧ Below W.heap.size W w') := hid fun W => in_round (typed_any _ _ _ _ _ _ _)
          have H13 : Hid (typedK ns[z].kind = false → ∀ W, Below W6.heap.size W6 W → Calls Tryz.prog 29 #[.pointer (some ⟨Mb + 1, 0, none⟩), .int .i64 (z : Int), .agg #[.int .i64 ns[z].kind, .string ns[z].text, .slice ns[z].kp ns[z].kids.length ns[z].kcap, .int .i64 ns[z].place]] W (PutPost w (some ⟨b, o, none⟩) L c ns Mb (vals pre) ((z : Int), false) W6)) :=
            hid fun ht W hW => by
              obtain ⟨_, _, _, _, _, hf, _⟩ := nd_at (NodesAt.later Ha.out (hB6.trans (hW.mono hB6.size))) hz
              exact HP.out W _ _ _ _ _ _ _ rfl hW hf.2.2.2.2.1 (Hs.out.2 _ (List.getElem_mem hz)).1 hf.2.2.2.2.2 (by simp [keptK, hkz, ht])
          have hk36 : (ns[z].kind == 36) = false := by simp [h36]
          have hkt : Hid (typedK ns[z].kind = true → keptK ns [((z : Int), false)] = []) := hid fun ht => by simp [keptK, hkz, ht]
          clear HP hnz hfine hLd hos hbx6 htx6 hkz h36 Hfine
          generalize ns[z].kind = kd at *
          generalize ns[z].text = tx at *
          generalize ns[z].kp = kp at *
          generalize ns[z].kids.length = q at *
          generalize ns[z].kcap = kc at *
          generalize ns[z].place = pl at *
          cases hty : typedK kd with
          | true =>
            rw [hty] at HT
            gi_wp2_with (refine ⟨trivial, ?_⟩; gi_at_call 30; ((with_reducible refine (HT.out _).mono ?_); clear HT; rintro e w' ⟨rfl, hb⟩; obtain ⟨g3, rfl⟩ := bout hb; clear hb))
            exact HE.out _ _ rfl (jt_skip (jt_below Hj.out (below_grow _ _)) (hkt.out hty)) (ke_below (below_grow _ _) (by omega))
          | false =>
            rw [hty] at HT
            have H13' := hid (H13.out hty)
            clear H13 hkt hty
            gi_wp2_with (refine ⟨trivial, ?_⟩; gi_at_call 30; ((with_reducible refine (HT.out _).mono ?_); clear HT; rintro e w' ⟨rfl, hb⟩; obtain ⟨g3, rfl⟩ := bout hb; clear hb))
            (refine wpIn_region_still_tail 6 (by kernel_rfl) (by kernel_rfl) (by kernel_rfl) ?_; simp only [List.take_succ_cons, List.take_zero, List.drop_succ_cons, List.drop_zero]; (repeat still_step); try refine wpStill_nil ?_)
            go_wp2_with (go_at_call 29; ((with_reducible refine (H13'.out _ ?_).mono ?_); rotate_left; rintro e w' ⟨rfl, Hw⟩))
            · exact HE.out _ _ rfl Hw.out.1 Hw.out.2
            · exact Below.drew (below_grow _ _)
    case done2 =>
      rintro D ys W hD hys ⟨hyl, hj⟩ hdf
      refine hK _ _ ?_
      obtain ⟨⟨hbx6, htx6⟩, hB6, os, hos, ⟨⟨v, hPw, hO⟩, _⟩⟩ := hj
      have c6 := htx6.cell
      have cP1 : W.cell? ⟨Mb + 1, 1, none⟩ = some v := by simp [World.cell?, hPw]
      have Hfin := hid (show Below w.heap.size w (W.putObj D (.deferred none)) ∧ (W.putObj D (.deferred none)).ownsRow Mb 30 4 v os.length (flat os) from by
        refine ⟨hB6.trans (belowK_b (w := w) (Nat.le_refl _) _ D _ _ (by omega) hdf rfl rfl), hO.kept (grownBy_putObj' _ D _) ?_⟩
        cases hv : v.ownBlock with
        | none => exact .inl rfl
        | some g =>
          obtain ⟨c, fz, hh⟩ := Lib.ownsRow_kind hO g hv
          exact .inr fun e => by cases e; rw [hh] at hdf; cases hdf)
      have Hos := hid hos
      have Hys := hid hys
      clear hos hys hO
      gi_wp2
      refine ⟨by simp, .inl ⟨_, _, rfl, run_takeDeferred hdf, ?_⟩⟩
      refine ⟨.tuple #[v, .int .i64 0], ?_, Hfin.out.1, _, _, rfl, .inr ⟨rfl, Hsd.out, Mb, os, vals ys, by omega, Hys.out, Hos.out, Hfin.out.2⟩⟩
      simp [results, Tryz.f10, go_sem]
  · have hne : (n2 != 0) = true := by simp [e0]
    have He := hid e0
    clear e0
    gi_wp2_with (first
      | (refine ⟨trivial, ?_⟩; (try refine ⟨hdd _, ?_⟩); gi_at_call 27; ((with_reducible refine (F1.out _ ?_).mono ?_); rotate_left; rintro e w' ⟨rfl, hb⟩; obtain ⟨g1, rfl⟩ := bout hb; clear hb)))
    all_goals (try (repeat (first | exact Below.refl _ _ | refine bG ?_ _ | refine bI ?_ _ _ | refine bA ?_ _)))
    refine ⟨.tuple #[.slice none 0 0, .int .i64 n2], ?_, ?_, _, _, rfl, .inl He.out⟩
    · simp [results, Tryz.f10, go_sem]
    · repeat (first | exact Below.refl _ _ | refine bG ?_ _ | refine bI ?_ _ _ | refine bA ?_ _)
end Go.Proofs.YtbgjanmheagilaaGreatDoor

/- erase's put, walked: a node is laid, told exactly. Conditions: what lies in the box. -/
namespace Go.Proofs.YtbgjanmheagilaaGreatDoor
open Go Go.RowKit Go.Nodes Go.WideMaps Go.Maps Go.ChangeShapes
set_option linter.unusedVariables false
set_option linter.unusedSimpArgs false
def valD (D : DataW Unit) (k : Int) : Int := match D.atKey (.int .i64 k) (.lit (.int .i64 0)) with
  | .lit (.int _ c) => c
  | _ => 0
theorem valD_of {D : DataW Unit} {k c : Int} (h : D.atKey (.int .i64 k) (.lit (.int .i64 0)) = .lit (.int .i64 c)) : valD D k = c := by unfold valD; rw [h]
/-- What becomes of kids. -/
def kidsD (D : DataW Unit) (l : List Int) : List Int := l.filterMap fun k => if Maps.has D (.int .i64 k) then some (valD D k) else none
theorem kidsD_snoc (D : DataW Unit) (l : List Int) (k : Int) : kidsD D (l ++ [k]) = kidsD D l ++ if Maps.has D (.int .i64 k) then [valD D k] else [] := by
  unfold kidsD
  rw [List.filterMap_append]
  by_cases h : Maps.has D (.int .i64 k) = true <;> simp [h]
theorem kidsD_len (D : DataW Unit) (l : List Int) : (kidsD D l).length ≤ l.length := List.length_filterMap_le _ _
def cellsN (x : Nd) : List Value := [.int .i64 x.kind, .string x.text, .slice x.kp x.kids.length x.kcap, .int .i64 x.place]
def flatN (os : List Nd) : List Value := (os.map cellsN).flatten
theorem flatN_snoc (os : List Nd) (x : Nd) : flatN (os ++ [x]) = flatN os ++ cellsN x := by simp [flatN]
/-- What is laid, exactly. -/
structure LaidX (B Pb Mb : Nat) (w : World) (os : List Nd) (n : Nat) (D : DataW Unit) : Prop where
  box : ∃ v, w.heap[Pb]? = some (.cells #[.map (some Mb), v] 53 (0, 0)) ∧ w.ownsRow B 30 4 v os.length (flatN os)
  map : MapOwn w Mb n D
  kids : ∀ x ∈ os, Ints B w (.slice x.kp x.kids.length x.kcap) x.kids
  pb : B ≤ Pb
  mb : B ≤ Mb
theorem ints_mono {B B' : Nat} {w : World} {v : Value} {l : List Int} (h : Ints B w v l) (hB : B' ≤ B) : Ints B' w v l :=
  ⟨h.1, h.2.elim .inl fun ⟨g, cap, cur, e, hg, r⟩ => .inr ⟨g, cap, cur, e, Nat.le_trans hB hg, r⟩⟩
theorem ints_keepT {B Mb : Nat} {w w' : World} {v : Value} {l : List Int} (h : Ints B w v l) (hk : KeepT Mb w w') : Ints B w' v l :=
  ⟨h.1, h.2.elim .inl fun ⟨g, cap, cur, e, hg, hh, r⟩ => .inr ⟨g, cap, cur, e, hg, hk.cells _ _ _ (by decide) (by decide) hh, r⟩⟩
theorem keepT_below {Mb : Nat} {W W' : World} (hb : Below W.heap.size W W') : KeepT Mb W W' :=
  ⟨fun b cs t _ _ hh => (hb.block b (Array.getElem?_eq_some_iff.1 hh).1).trans hh, fun b o _ _ hh => (hb.block b (Array.getElem?_eq_some_iff.1 hh).1).trans hh⟩
theorem put_finX {B Pb Mb : Nat} {w w6 w7 : World} {xs : List Value} {m cn : Nat} {D : DataW Unit} {po : Option Addr} {co gg cap : Nat} {cs : Array Value} {ys : List Value}
    (hP6 : w6.heap[Pb]? = some (.cells #[.map (some Mb), .slice po m co] 53 (0, 0))) (hM6 : MapOwn w6 Mb (cn + 1) D) (hPB : B ≤ Pb) (hMB : B ≤ Mb)
    (hb6 : Below B w w6) (hkt6 : KeepT Mb w w6) (hO6 : w6.ownsRow B 30 4 (.slice po m co) m xs)
    (hgrow0 : (w6.alloc (.cells cs 30 (0, 0))).drew.grownBy w7 (Value.slice po m co).ownBlock)
    (hown7 : w7.ownsRow B 30 4 (.slice (some ⟨gg, 0, none⟩) (m + 1) cap) (m + 1) (xs ++ ys))
    (hat : (Value.slice po m co).ownBlock = some gg ∨ gg = w6.heap.size + 1) :
    (∃ v, (w7.setCell ⟨Pb, 1, none⟩ (.slice (some ⟨gg, 0, none⟩) (m + 1) cap)).heap[Pb]? = some (.cells #[.map (some Mb), v] 53 (0, 0)) ∧ (w7.setCell ⟨Pb, 1, none⟩ (.slice (some ⟨gg, 0, none⟩) (m + 1) cap)).ownsRow B 30 4 v (m + 1) (xs ++ ys)) ∧
      MapOwn (w7.setCell ⟨Pb, 1, none⟩ (.slice (some ⟨gg, 0, none⟩) (m + 1) cap)) Mb (cn + 1) D ∧ Below B w (w7.setCell ⟨Pb, 1, none⟩ (.slice (some ⟨gg, 0, none⟩) (m + 1) cap)) ∧ KeepT Mb w (w7.setCell ⟨Pb, 1, none⟩ (.slice (some ⟨gg, 0, none⟩) (m + 1) cap)) := by
  have hgrow : (w6.alloc (.cells cs 30 (0, 0))).grownBy w7 (Value.slice po m co).ownBlock := ⟨hgrow0.os, hgrow0.tape, hgrow0.output, hgrow0.size, hgrow0.block⟩
  have hPl : Pb < w6.heap.size := (Array.getElem?_eq_some_iff.1 hP6).1
  obtain ⟨es, clk, hMh, _⟩ := id hM6
  have hMl : Mb < w6.heap.size := (Array.getElem?_eq_some_iff.1 hMh).1
  have hB6 : B ≤ w6.heap.size := by omega
  have kind := Lib.ownsRow_kind hO6
  have hrowM : (Value.slice po m co).ownBlock ≠ some Mb := fun e => by
    obtain ⟨c, fz, hh⟩ := kind _ e
    rw [hMh] at hh; cases hh
  have hrowP : (Value.slice po m co).ownBlock ≠ some Pb := fun e => by
    obtain ⟨c, fz, hh⟩ := kind _ e
    rw [hP6] at hh; cases hh
  have hrowB : ∀ g, (Value.slice po m co).ownBlock = some g → B ≤ g := fun g hg => by
    rcases hO6.2 with ⟨e1, _⟩ | ⟨g', c', _, e1, hle, _⟩
    · rw [e1] at hg; cases hg
    · rw [e1] at hg; cases hg; exact hle
  have hb7 : Below B w w7 := Below.grown (hb6.alloc hB6 _) hgrow (by simp; omega) hrowB
  have hP7 : w7.heap[Pb]? = some (.cells #[.map (some Mb), .slice po m co] 53 (0, 0)) := by
    rw [hgrow.block Pb (by simp; omega) (fun e => hrowP e.symm), Below.heap_alloc _ _ _ hPl]; exact hP6
  have hgP : gg ≠ Pb := by
    rcases hat with h | h
    · intro e; subst e; exact hrowP h
    · omega
  refine ⟨⟨_, cells_set hP7 1 _, ownsRow_setCell_other hown7 (by simp [Value.ownBlock]; exact hgP) _⟩, ?_, hb7.setCell (p := ⟨Pb, 1, none⟩) hPB _, ?_⟩
  · have h7 : MapOwn w7 Mb (cn + 1) D := (hM6.alloc _).kept hgrow (fun e => hrowM e.symm)
    exact h7.setCell (a := ⟨Pb, 1, none⟩) (fun e => by simp at e; subst e; rw [hP6] at hMh; cases hMh) _
  · refine ⟨fun b cs' t t1 t2 h => ?_, fun b o hbM ho h => ?_⟩
    rotate_left
    · have h6 := hkt6.objs b o hbM ho h
      have hl6 : b < w6.heap.size := (Array.getElem?_eq_some_iff.1 h6).1
      have hbP : b ≠ Pb := fun e => by subst e; rw [hP6] at h6; cases h6; cases ho
      rw [Below.heap_setCell _ _ _ _ hbP, hgrow.block b (by simp; omega) (fun e => by obtain ⟨c, fz, hh⟩ := kind _ e.symm; rw [h6] at hh; cases hh; cases ho), Below.heap_alloc _ _ _ hl6]
      exact h6
    have h6 := hkt6.cells b cs' t t1 t2 h
    have hl6 : b < w6.heap.size := (Array.getElem?_eq_some_iff.1 h6).1
    have hbP : b ≠ Pb := fun e => by subst e; rw [hP6] at h6; injection h6 with h6; injection h6 with _ h6; exact t1 h6.symm
    rw [Below.heap_setCell _ _ _ _ hbP, hgrow.block b (by simp; omega) (fun e => by obtain ⟨c, fz, hh⟩ := kind _ e.symm; rw [h6] at hh; injection hh with hh; injection hh with _ hh; exact t2 hh), Below.heap_alloc _ _ _ hl6]
    exact h6
set_option maxRecDepth 100000 in
set_option maxHeartbeats 4000000 in
theorem put_ex (B Pb Mb : Nat) (os : List Nd) (cn : Nat) (D : DataW Unit) (hm : os.length ≤ 100000) (hN : cn ≤ 100000) (kind : Int) (text : ByteArray) (kp : Option Addr) (kcap : Nat) (place : Int) (kids : List Int) (hki : ∀ k ∈ kids, i64 k) (hkl : kids.length ≤ 20000)
    (w : World) (ha : IntsAt w kp kids) (key : Int) (hky : i64 key) (hL : LaidX B Pb Mb w os cn D) :
    Calls Tryz.prog 29 #[.pointer (some ⟨Pb, 0, none⟩), .int .i64 key, .agg #[.int .i64 kind, .string text, .slice kp kids.length kcap, .int .i64 place]] w fun e w' => e = .returned (.tuple #[]) ∧
      (∃ kp' kc', LaidX B Pb Mb w' (os ++ [⟨kind, text, kp', kc', kidsD D kids, place⟩]) (cn + 1) (D.put (.int .i64 key) (.lit (.int .i64 (os.length : Int))))) ∧ Below B w w' ∧ KeepT Mb w w' := by
  obtain ⟨⟨ov, hP, hO⟩, hM, hKd, hPB, hMB⟩ := hL
  obtain ⟨xs, hxs⟩ : ∃ xs, xs = flatN os := ⟨_, rfl⟩
  obtain ⟨m, hmm⟩ : ∃ m, m = os.length := ⟨_, rfl⟩
  have Hxs := hid hxs
  have Hmm := hid hmm
  have HKd := hid hKd
  rw [← hxs, ← hmm] at hO
  rw [← hmm] at hm ⊢
  clear hxs hmm hKd
  have hPl : Pb < w.heap.size := (Array.getElem?_eq_some_iff.1 hP).1
  have HP := hid hP
  have HO := hid hO
  have HM := hid hM
  have Ha := hid ha
  obtain ⟨q, hq⟩ : ∃ q, q = kids.length := ⟨_, rfl⟩
  rw [← hq] at hkl ⊢
  have hq1 : (q : Int) ≤ 20000 := by omega
  have Hq := hid hq
  have Hki := hid hki
  clear hP hO hM ha hq hki
  go_enter Tryz.func29, Tryz.ntmps29
  go_wp2
  go_loopw [6, 14] (fun kv iv wr => ∃ (j : Nat) (l : List Int), j ≤ q ∧ iv = .int .i64 j ∧ Hid (l = kidsD D (kids.take j) ∧ Ints (w.heap.size + 1) wr kv l ∧ Below w.heap.size w wr ∧ wr.heap[w.heap.size]? = some (.cells #[.int .i64 kind, .string text, .slice kp q kcap, .int .i64 place] 30 (0, 0)))) (fun _ iv _ => q - (intOf iv).toNat)
  case atStart => exact ⟨0, [], Nat.zero_le _, rfl, hid ⟨by simp [kidsD], ⟨by simp, .inl ⟨rfl, by simp⟩⟩, bA (Below.refl _ _) _, heap_alloc_new _ _⟩⟩
  case round =>
    obtain ⟨j, l, hj, rfl, hI⟩ := hrel
    have hPw : wr.heap[Pb]? = some (.cells #[.map (some Mb), ov] 53 (0, 0)) := by rw [hI.out.2.2.1.block Pb hPl]; exact HP.out
    have cP0 : wr.cell? ⟨Pb, 0, none⟩ = some (.map (some Mb)) := by simp [World.cell?, hPw]
    have cP1 : wr.cell? ⟨Pb, 1, none⟩ = some ov := by simp [World.cell?, hPw]
    have hown : MapOwn wr Mb cn D := HM.out.kept (below_gb hI.out.2.2.1) (by simp)
    have hX := hI.out.2.2.2
    have hXl : w.heap.size < wr.heap.size := (Array.getElem?_eq_some_iff.1 hX).1
    by_cases hjq : j < q
    · have hll : l.length ≤ j := by have h1 := congrArg List.length hI.out.1; have h2 := kidsD_len D (kids.take j); rw [List.length_take] at h2; omega
      have hjk : j < kids.length := by have := Hq.out; omega
      have Htk := hid (show kids.take (j + 1) = kids.take j ++ [kids[j]] by rw [List.take_add_one, List.getElem?_eq_getElem hjk]; rfl)
      rcases Ha.out with ix | ⟨bk, ok, rfl, hbk, hc⟩
      · subst ix; simp at hjk
      have ck := cell_later hI.out.2.2.1 (hc j hjk)
      have hu := Hki.out kids[j] (List.getElem_mem hjk)
      generalize kids[j] = u at *
      have j0 : (0 : Int) ≤ (j : Int) := by omega
      have j1 : (j : Int) < (q : Int) := by omega
      have hkey := keyOf_int_mk (P := Tryz.prog) (k := 3) Tryz.underlying3 (show (Lit.int .i64 u).wf = true from WalkArith.wf_i64 hu)
      clear hc
      cases hh : Maps.has D (.int .i64 u) with
      | true =>
        go_wp2_with (first
          | (at_lookup; refine wpList_lookup_own_ok_int _ rfl _ _ 51 rfl 3 3 .i64 klaw Tryz.underlying51 Tryz.underlying3 (zero3 _) Mb cn D rfl hown _ _ rfl hkey ?_; intro c hat hwc; rw [hh])
          | (at_builtin; go_loud (refine wpList_append_int rfl _ _ rfl (w.heap.size + 1) u6 l c wr.heap.size 1 rfl ?aown rfl ?acell ?alen ?abase ?arest)))
        case aown => exact own_below hI.out.2.1 (bA (Below.refl _ _) _)
        case acell => simp [go_sem]
        case alen => omega
        case abase => simp; omega
        case arest =>
          intro v' w4 h1 h2 h3
          have hrow : ∀ g, u6.ownBlock = some g → w.heap.size + 1 ≤ g := fun g hg => hI.out.2.1.2.elim (fun h => by rw [h.1] at hg; cases hg) fun ⟨g', _, _, e, hle, _⟩ => by rw [e] at hg; cases hg; exact hle
          have hb4 : Below w.heap.size w w4 := Below.grown (bA hI.out.2.2.1 _) h2 (by simp; omega) fun g hg => by have := hrow g hg; omega
          have hX4 : w4.heap[w.heap.size]? = some (.cells #[.int .i64 kind, .string text, .slice (some ⟨bk, ok, none⟩) q kcap, .int .i64 place] 30 (0, 0)) := by
            rw [h2.block w.heap.size (by simp; omega) (fun e => by have := hrow _ e.symm; omega), Below.heap_alloc _ _ _ hXl]; exact hX
          have HI4 := hid (show l ++ [c] = kidsD D (kids.take (j + 1)) ∧ Ints (w.heap.size + 1) w4 v' (l ++ [c]) ∧ Below w.heap.size w w4 ∧ w4.heap[w.heap.size]? = some (.cells #[.int .i64 kind, .string text, .slice (some ⟨bk, ok, none⟩) q kcap, .int .i64 place] 30 (0, 0)) from ⟨by rw [Htk.out, kidsD_snoc, hh, if_pos rfl, valD_of hat, hI.out.1], h1, hb4, hX4⟩)
          clear hrow hb4 hX4 h1 h2 h3 hPw cP0 cP1 hown hX hXl ck hkey hh hat hwc
          go_wp2
          go_roundw
          case rel => exact ⟨j + 1, l ++ [c], by omega, by go_num, HI4⟩
          case measure => simp [intOf]; omega
      | false =>
        have Hh := hid hh
        go_wp2_with (at_lookup; refine wpList_lookup_own_ok_int _ rfl _ _ 51 rfl 3 3 .i64 klaw Tryz.underlying51 Tryz.underlying3 (zero3 _) Mb cn D rfl hown _ _ rfl hkey ?_; intro c hat hwc; rw [hh])
        go_roundw
        case rel => exact ⟨j + 1, l, by omega, by go_num, hid ⟨by rw [Htk.out, kidsD_snoc, Hh.out]; simpa using hI.out.1, hI.out.2⟩⟩
        case measure => simp [intOf]; omega
    · obtain rfl : j = q := by omega
      have hll : l = kidsD D kids := by rw [hI.out.1, List.take_of_length_le (by have := Hq.out; omega)]
      have Hll := hid hll
      have Hints := hid hI.out.2.1
      clear hll
      obtain ⟨pk, ck, hkv, _⟩ := hI.out.2.1.out
      obtain ⟨po, co, hov⟩ : ∃ po co, ov = .slice po m co := by
        rcases HO.out.2 with ⟨e1, e2⟩ | ⟨g, cap, cur, e1, _⟩
        · exact ⟨none, 0, by rw [e1, e2]⟩
        · exact ⟨_, _, e1⟩
      obtain ⟨lk, hlk⟩ : ∃ n, n = l.length := ⟨_, rfl⟩
      rw [← hlk] at hkv
      subst hkv hov
      have cX2 : wr.cell? ⟨w.heap.size, 2, none⟩ = some (.slice kp j kcap) := by simp [World.cell?, hX]
      have fX2 : wr.frozen? ⟨w.heap.size, 2, none⟩ = false := by simp [World.frozen?, hX]
      have hMl : Mb < w.heap.size := HM.out.lt
      clear cP0 cP1
      obtain ⟨w5, hw5⟩ : ∃ w5, wr.setCell ⟨w.heap.size, 2, none⟩ (.slice pk lk ck) = w5 := ⟨_, rfl⟩
      have hw5' := hw5
      have hX5 : w5.heap[w.heap.size]? = some (.cells #[.int .i64 kind, .string text, .slice pk lk ck, .int .i64 place] 30 (0, 0)) := by
        rw [← hw5]; exact cells_set hX 2 _
      have hb5 : Below w.heap.size w w5 := by
        rw [← hw5]; exact hI.out.2.2.1.setCell (p := ⟨w.heap.size, 2, none⟩) (Nat.le_refl _) _
      have hP5 : w5.heap[Pb]? = some (.cells #[.map (some Mb), .slice po m co] 53 (0, 0)) := by rw [hb5.block Pb hPl]; exact HP.out
      have hM5 : MapOwn w5 Mb cn D := HM.out.kept (below_gb hb5) (by simp)
      have cP0 : w5.cell? ⟨Pb, 0, none⟩ = some (.map (some Mb)) := by simp [World.cell?, hP5]
      have cP1 : w5.cell? ⟨Pb, 1, none⟩ = some (.slice po m co) := by simp [World.cell?, hP5]
      have hkey := keyOf_int_mk (P := Tryz.prog) (k := 3) Tryz.underlying3 (show (Lit.int .i64 key).wf = true from WalkArith.wf_i64 hky)
      have hm0 : (Lit.int .i64 (m : Int)).wf = true := WalkArith.wf_i64 (by omega)
      go_wp2
      rw [show wr.setCell { block := w.heap.size, off := 2 } (Value.slice pk l.length ck) = w5 from by rw [← hlk]; exact hw5]
      go_still_tail 10, (by kernel_rfl)
      go_wp2_with (at_mapUpdate; refine wpList_mapUpdate_own _ rfl _ _ _ 51 rfl 3 3 klaw Tryz.underlying51 _ Mb cn D rfl hM5.drew (by unfold maxLen; omega) _ _ _ rfl rfl hkey _ [] (plainElem_int Tryz.underlying3 hm0) ?_)
      intro w6 hM6 hg6
      have hsz5 : w.heap.size ≤ w5.heap.size := hb5.size
      have hb6 : Below B w5 w6 := Below.grown (Below.refl _ _).drew hg6 (by simp; omega) (fun k e => by cases e; exact hMB)
      obtain ⟨es, clk, hMh, _⟩ := HM.out
      have hPM : Pb ≠ Mb := fun e => by subst e; rw [HP.out] at hMh; cases hMh
      have hX5l : w.heap.size < w5.heap.size := (Array.getElem?_eq_some_iff.1 hX5).1
      have hP6 : w6.heap[Pb]? = some (.cells #[.map (some Mb), .slice po m co] 53 (0, 0)) := by rw [hg6.block Pb (by simp; omega) (by simpa using hPM)]; exact hP5
      have hX6 : w6.heap[w.heap.size]? = some (.cells #[.int .i64 kind, .string text, .slice pk l.length ck, .int .i64 place] 30 (0, 0)) := by
        rw [hg6.block w.heap.size (by simp; omega) (by simp; omega), ← hlk]; exact hX5
      have hrowlt : ∀ g, (Value.slice po m co).ownBlock = some g → g < w.heap.size := fun g hg => by
        obtain ⟨c, fz, hh⟩ := Lib.ownsRow_kind HO.out g hg
        exact (Array.getElem?_eq_some_iff.1 hh).1
      have hrowM : (Value.slice po m co).ownBlock ≠ some Mb := fun e => by
        obtain ⟨c, fz, hh⟩ := Lib.ownsRow_kind HO.out _ e
        rw [hMh] at hh; cases hh
      have hrowP : (Value.slice po m co).ownBlock ≠ some Pb := fun e => by
        obtain ⟨c, fz, hh⟩ := Lib.ownsRow_kind HO.out _ e
        rw [HP.out] at hh; cases hh
      have hO6 : w6.ownsRow B 30 4 (.slice po m co) m xs := (own_below HO.out hb5).drew.kept hg6 (.inr hrowM)
      have hkt6 : KeepT Mb w5 w6 := by
        refine ⟨fun b cs t t1 t2 h => ?_, fun b o hbM ho h => ?_⟩
        · have hlt := (Array.getElem?_eq_some_iff.1 h).1
          have hM5h : w5.heap[Mb]? = some (.map es clk) := by rw [hb5.block Mb hMl]; exact hMh
          rw [hg6.block b (by simp; omega) (by intro e; simp at e; subst e; rw [h] at hM5h; cases hM5h)]
          exact h
        · have hlt := (Array.getElem?_eq_some_iff.1 h).1
          rw [hg6.block b (by simp; omega) (by simpa using hbM)]
          exact h
      have hI5 : Ints (w.heap.size + 1) w5 (.slice pk lk ck) l := by rw [← hw5']; exact Ints_setCell Hints.out _ (by omega)
      have hkept : KeepT Mb w w5 := keepT_below hb5
      have hB5 : Below B w w5 := hb5.mono (by omega)
      have HF := hid (show KeepT Mb w w5 ∧ Below B w w5 ∧ Ints (w.heap.size + 1) w5 (.slice pk lk ck) l from ⟨hkept, hB5, hI5⟩)
      clear hI5 hkept hB5
      have hs6 : w5.heap.size ≤ w6.heap.size := hg6.size
      have cP0 : w6.cell? ⟨Pb, 0, none⟩ = some (.map (some Mb)) := by simp [World.cell?, hP6]
      have cP1 : w6.cell? ⟨Pb, 1, none⟩ = some (.slice po m co) := by simp [World.cell?, hP6]
      have fP1 : w6.frozen? ⟨Pb, 1, none⟩ = false := by simp [World.frozen?, hP6]
      have hfz : ∀ cs t, (w6.alloc (.cells cs t (0, 0))).drew.frozen? ⟨Pb, 1, none⟩ = false := fun cs t => (Go.RowKit.frozen?_alloc_cells w6 cs t _).trans fP1
      have hP6l : Pb < w6.heap.size := (Array.getElem?_eq_some_iff.1 hP6).1
      have hfc : ∀ cs t, (w6.alloc (.cells cs t (0, 0))).drew.cell? ⟨Pb, 1, none⟩ = some (.slice po m co) := fun cs t => (World.cell?_of_block (Below.heap_alloc w6 _ _ hP6l)).trans cP1
      have cX0 : w6.cell? ⟨w.heap.size, 0, none⟩ = some (.int .i64 kind) := by simp [World.cell?, hX6]
      have cX1 : w6.cell? ⟨w.heap.size, 1, none⟩ = some (.string text) := by simp [World.cell?, hX6]
      have cX2 : w6.cell? ⟨w.heap.size, 2, none⟩ = some (.slice pk l.length ck) := by simp [World.cell?, hX6]
      have cX3 : w6.cell? ⟨w.heap.size, 3, none⟩ = some (.int .i64 place) := by simp [World.cell?, hX6]
      obtain ⟨i0, hi0, hz0, hz1, hz2⟩ := info_parts Tryz.infoN
      clear hw5 hw5' hP5 hM5 hI hX fX2 hPw hown
      go_wp2
      go_region_law
        ((refine step_append_lies _ (by rfl) _ _ _ (by rfl) B 30 i0 _ 4 56 Tryz.underlying22 hi0 hz0 hz1 hz2 rfl (by omega) (.slice po m co) m xs (by rfl) (by first | exact (hO6.alloc _).drew | exact hO6.drew.alloc _)
              ⟨w6.heap.size, 0, none⟩ 1 1 [.int .i64 kind, .string text, .slice pk l.length ck, .int .i64 place] (by rfl) (by rfl) (World.news_of_block (cs := #[.int .i64 kind, .string text, .slice pk l.length ck, .int .i64 place]) (t := 30) (fr := (0, 0)) (heap_alloc_new _ _)) (by simp [Value.oneCell'])
              (by omega) (by unfold maxLen; omega) (by omega) (by simp; omega) (w6.heap.size + 1) (by simp) ?_; intro gg cap w7 hown7 hgrow hat hlt; have c7 : w7.cell? ⟨Pb, 1, none⟩ = some (.slice po m co) := (hgrow.cell_far ⟨Pb, 1, none⟩ (by simp; omega) (by simpa using Ne.symm hrowP)).trans (hfc _ _); have f7 : w7.frozen? ⟨Pb, 1, none⟩ = false := (hgrow.frozen_far ⟨Pb, 1, none⟩ (by simp; omega) (by simpa using Ne.symm hrowP)).trans (hfz _ _)))
      all_goals
        go_wp2
        go_end0
        obtain ⟨h1, h2, h3, h4⟩ := put_finX hP6 hM6 hPB hMB hb6 hkt6 hO6 hgrow hown7 hat
        obtain ⟨f1, f2, f3⟩ := HF.out
        have hlen : (os ++ [(⟨kind, text, pk, ck, kidsD D kids, place⟩ : Nd)]).length = m + 1 := by rw [List.length_append, Hmm.out]; rfl
        refine ⟨rfl, ⟨pk, ck, ⟨?_, h2, fun x hx => ?_, hPB, hMB⟩⟩, f2.trans h3, f1.trans h4⟩
        · obtain ⟨v, e1, e2⟩ := h1
          refine ⟨v, e1, ?_⟩
          rw [hlen, flatN_snoc, ← Hxs.out]
          have e3 : cellsN (⟨kind, text, pk, ck, kidsD D kids, place⟩ : Nd) = [.int .i64 kind, .string text, .slice pk l.length ck, .int .i64 place] := by simp [cellsN, Hll.out]
          rw [e3]
          exact e2
        · rcases List.mem_append.1 hx with hx | hx
          · exact ints_keepT (ints_keepT (HKd.out x hx) f1) h4
          · obtain rfl := List.mem_singleton.1 hx
            have h5 := ints_keepT (ints_mono f3 (B' := B) (by omega)) h4
            rw [hlk, Hll.out] at h5
            exact h5
end Go.Proofs.YtbgjanmheagilaaGreatDoor

/- What is left without channels and bounds, in plain words. Conditions: none. -/
namespace Go.Proofs.YtbgjanmheagilaaGreatDoor
open Go Go.RowKit Go.Nodes Go.WideMaps Go.Maps Go.ChangeShapes
set_option linter.unusedVariables false
set_option linter.unusedSimpArgs false
abbrev Sd := Int × ByteArray × List Int × Int
def strip (x : Nd) : Sd := (x.kind, x.text, x.kids, x.place)
def kidsL (ns : List Nd) (A : List Int) (l : List Int) : List Int := (l.filter fun k => kindAt ns k != 2).map fun k => A.getD k.toNat 0
/-- The numbers that nodes become, and the nodes. -/
def labS (ns : List Nd) : Nat → List Int × List Sd
  | 0 => ([], [])
  | j + 1 => match ns[j]? with
    | none => labS ns j
    | some x => if x.kind = 36 then ((labS ns j).1 ++ [(labS ns j).1.getD (x.kids.getD 0 0).toNat 0], (labS ns j).2)
      else if x.kind = 2 then ((labS ns j).1 ++ [0], (labS ns j).2)
      else ((labS ns j).1 ++ [((labS ns j).2.length : Int)], (labS ns j).2 ++ [(x.kind, x.text, kidsL ns (labS ns j).1 x.kids, x.place)])
theorem labS_none {ns : List Nd} {j : Nat} (hx : ns[j]? = none) : labS ns (j + 1) = labS ns j := by simp [labS, hx]
theorem labS_36 {ns : List Nd} {j : Nat} {x : Nd} (hx : ns[j]? = some x) (h : x.kind = 36) : labS ns (j + 1) = ((labS ns j).1 ++ [(labS ns j).1.getD (x.kids.getD 0 0).toNat 0], (labS ns j).2) := by
  rw [labS, hx]; simp [h]
theorem labS_2 {ns : List Nd} {j : Nat} {x : Nd} (hx : ns[j]? = some x) (h : x.kind = 2) : labS ns (j + 1) = ((labS ns j).1 ++ [0], (labS ns j).2) := by
  rw [labS, hx]; simp [h]
theorem labS_put {ns : List Nd} {j : Nat} {x : Nd} (hx : ns[j]? = some x) (h : x.kind ≠ 36) (h2 : x.kind ≠ 2) :
    labS ns (j + 1) = ((labS ns j).1 ++ [((labS ns j).2.length : Int)], (labS ns j).2 ++ [(x.kind, x.text, kidsL ns (labS ns j).1 x.kids, x.place)]) := by
  rw [labS, hx]; simp [h, h2]
theorem labS_len (ns : List Nd) : ∀ j, j ≤ ns.length → (labS ns j).1.length = j
  | 0, _ => rfl
  | j + 1, h => by
    have ih := labS_len ns j (by omega)
    have hx : ns[j]? = some ns[j] := List.getElem?_eq_getElem (by omega)
    by_cases h36 : ns[j].kind = 36
    · rw [labS_36 hx h36]; simp [ih]
    · by_cases h2 : ns[j].kind = 2
      · rw [labS_2 hx h2]; simp [ih]
      · rw [labS_put hx h36 h2]; simp [ih]
theorem labS_outlen (ns : List Nd) : ∀ j, (labS ns j).2.length ≤ j
  | 0 => Nat.le_refl _
  | j + 1 => by
    have ih := labS_outlen ns j
    cases hx : ns[j]? with
    | none => rw [labS_none hx]; omega
    | some x =>
      by_cases h36 : x.kind = 36
      · rw [labS_36 hx h36]; simp; omega
      · by_cases h2 : x.kind = 2
        · rw [labS_2 hx h2]; simp; omega
        · rw [labS_put hx h36 h2]; simp; omega
/-- All numbers are of nodes. -/
theorem labS_in (ns : List Nd) : ∀ j, ∀ a ∈ (labS ns j).1, 0 ≤ a ∧ a ≤ (j : Int)
  | 0, a, h => by simp [labS] at h
  | j + 1, a, h => by
    have ih := labS_in ns j
    have ho := labS_outlen ns j
    have hg : ∀ i : Nat, 0 ≤ (labS ns j).1.getD i 0 ∧ (labS ns j).1.getD i 0 ≤ (j : Int) := fun i => by
      rw [List.getD]
      cases hi : (labS ns j).1[i]? with
      | none => simp
      | some y => exact ih y (List.mem_of_getElem? hi)
    have wk : ∀ a ∈ (labS ns j).1, 0 ≤ a ∧ a ≤ ((j + 1 : Nat) : Int) := fun a h => by have := ih a h; omega
    cases hx : ns[j]? with
    | none => rw [labS_none hx] at h; exact wk a h
    | some x =>
      by_cases h36 : x.kind = 36
      · rw [labS_36 hx h36] at h
        rcases List.mem_append.1 h with h | h
        · exact wk a h
        · obtain rfl := List.mem_singleton.1 h
          have := hg (x.kids.getD 0 0).toNat
          omega
      · by_cases h2 : x.kind = 2
        · rw [labS_2 hx h2] at h
          rcases List.mem_append.1 h with h | h
          · exact wk a h
          · obtain rfl := List.mem_singleton.1 h
            omega
        · rw [labS_put hx h36 h2] at h
          rcases List.mem_append.1 h with h | h
          · exact wk a h
          · obtain rfl := List.mem_singleton.1 h
            omega
/-- What the map says. -/
def MapRel (ns : List Nd) (j : Nat) (A : List Int) (D : DataW Unit) : Prop :=
  IsMap D ∧ ∀ k : Nat, (k < j → Maps.has D (.int .i64 (k : Int)) = (kindAt ns (k : Int) != 2) ∧ valD D (k : Int) = A.getD k 0) ∧ (j ≤ k → Maps.has D (.int .i64 (k : Int)) = false)
theorem mapRel_nil (ns : List Nd) : MapRel ns 0 [] (DataW.map []) := ⟨⟨[], rfl⟩, fun k => ⟨fun h => by omega, fun _ => rfl⟩⟩
theorem valD_none {D : DataW Unit} {k : Int} (h : Maps.has D (.int .i64 k) = false) : valD D k = 0 := by unfold valD; rw [atKey_of_not_has h]
theorem valD_put_same {D : DataW Unit} {k v : Int} (h : IsMap D) : valD (D.put (.int .i64 k) (.lit (.int .i64 v))) k = v := by unfold valD; rw [atKey_put_same h (show WideAt.IsKeyLit (.int .i64 k) from trivial)]
theorem valD_put_other {D : DataW Unit} {k k' v : Int} (h : k' ≠ k) : valD (D.put (.int .i64 k) (.lit (.int .i64 v))) k' = valD D k' := by
  unfold valD; rw [atKey_put_other (fun e => h (by cases e; rfl))]
theorem isMap_put {D : DataW Unit} (h : IsMap D) (k : Lit) (d : DataW Unit) : IsMap (D.put k d) := by
  obtain ⟨es, rfl⟩ := h
  exact ⟨_, rfl⟩
theorem getD_old (A : List Int) (x : Int) {k : Nat} (h : k < A.length) : (A ++ [x]).getD k 0 = A.getD k 0 := by
  simp [List.getD, List.getElem?_append_left h]
theorem getD_new (A : List Int) (x : Int) : (A ++ [x]).getD A.length 0 = x := by simp [List.getD]
theorem mapRel_put {ns : List Nd} {j : Nat} {A : List Int} {D : DataW Unit} (h : MapRel ns j A D) (hA : A.length = j) (v : Int) (hk : kindAt ns (j : Int) ≠ 2) : MapRel ns (j + 1) (A ++ [v]) (D.put (.int .i64 (j : Int)) (.lit (.int .i64 v))) := by
  refine ⟨isMap_put h.1 _ _, fun k => ⟨fun hkj => ?_, fun hkj => ?_⟩⟩
  · by_cases e : k = j
    · subst e
      refine ⟨?_, ?_⟩
      · rw [has_put_same h.1 (show WideAt.IsKeyLit (.int .i64 (k : Int)) from trivial)]; simp [hk]
      · rw [valD_put_same h.1, ← hA, getD_new]
    · have h1 := (h.2 k).1 (by omega)
      have hne : (k : Int) ≠ (j : Int) := by omega
      refine ⟨?_, ?_⟩
      · rw [has_put_other (fun e => hne (by cases e; rfl))]; exact h1.1
      · rw [valD_put_other hne, getD_old _ _ (by omega)]; exact h1.2
  · have hne : (k : Int) ≠ (j : Int) := by omega
    rw [has_put_other (fun e => hne (by cases e; rfl))]
    exact (h.2 k).2 (by omega)
theorem mapRel_skip {ns : List Nd} {j : Nat} {A : List Int} {D : DataW Unit} (h : MapRel ns j A D) (hA : A.length = j) (hk : kindAt ns (j : Int) = 2) : MapRel ns (j + 1) (A ++ [0]) D := by
  refine ⟨h.1, fun k => ⟨fun hkj => ?_, fun hkj => (h.2 k).2 (by omega)⟩⟩
  by_cases e : k = j
  · subst e
    have h1 := (h.2 k).2 (Nat.le_refl _)
    refine ⟨by rw [h1, hk]; rfl, ?_⟩
    rw [valD_none h1, ← hA, getD_new]
  · have h1 := (h.2 k).1 (by omega)
    exact ⟨h1.1, by rw [getD_old _ _ (by omega)]; exact h1.2⟩
theorem kidsD_eq {ns : List Nd} {j : Nat} {A : List Int} {D : DataW Unit} (h : MapRel ns j A D) : ∀ (l : List Int), (∀ k ∈ l, 0 ≤ k ∧ k < (j : Int)) → kidsD D l = kidsL ns A l
  | [], _ => rfl
  | k :: l, hl => by
    obtain ⟨h0, h1⟩ := hl k (by simp)
    obtain ⟨z, rfl⟩ : ∃ z : Nat, k = (z : Int) := ⟨k.toNat, by omega⟩
    obtain ⟨e1, e2⟩ := (h.2 z).1 (by omega)
    have ih := kidsD_eq h l (fun k hk => hl k (by simp [hk]))
    unfold kidsD at ih ⊢
    unfold kidsL at ih ⊢
    rw [List.filterMap_cons, List.filter_cons, e1, ih, e2]
    by_cases hk : (kindAt ns (z : Int) != 2) = true
    · simp [hk]
    · simp [hk]
end Go.Proofs.YtbgjanmheagilaaGreatDoor
