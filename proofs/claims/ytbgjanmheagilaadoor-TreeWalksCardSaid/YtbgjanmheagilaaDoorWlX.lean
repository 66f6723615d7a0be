/- tree.Walk: the iterator, walked: it hands on each node ahead of its kids. Conditions: what Check takes. -/
import Derived.RangeFuncNested
import Derived.RangeFuncBound
import Derived.RangeFuncCalls
import Derived.RangeFuncLeaves
import Derived.Shelf.Abstract
import Derived.Shelf.RegionOpen
import Derived.OwnWalkIn
import Derived.TacticsInMore
import Derived.LoopNIn
import Derived.LoopIn
import Derived.Test.YtbgjanmheagilaaDoorRwX
import Derived.Test.YtbgjanmheagilaaDoorCgX
import Derived.RangeFuncFrom
import Derived.RangeFuncBox
import Derived.Test.YtbgjanmheagilaaDoorTs
set_option linter.unusedVariables false
set_option linter.unusedSimpArgs false
namespace Go.Proofs.YtbgjanmheagilaaDoor
open Go Go.RowKit Go.Nodes Go.Shelf
set_option linter.unusedVariables false
set_option linter.unusedSimpArgs false
attribute [local go_sem] Oper.semAt_some
theorem room_of_none {F : Fence} (hd : F.depth = none) (k : Nat) : F.room k := fun d h => by rw [hd] at h; cases h
theorem RoundIn.anyDepth {F : Fence} (hd : F.depth = none) {m m' : Nat} {P : Program} {l : Nat} {f : FuncId} {tmps : Array Value} {assign body : Code} {w : World} {R : Ending → World → Prop}
    (h : RoundIn F m P l f tmps assign body w R) : RoundIn F m' P l f tmps assign body w R := ⟨h.1, fun c cs _ => h.2 c cs (room_of_none hd _)⟩
theorem YieldAt.anyDepth {F : Fence} (hd : F.depth = none) {m : Nat} (m' : Nat) {P : Program} {l : Nat} {args : Array Value} {W : World} {R : Ending → World → Prop} (h : YieldAt F m P l args W R) : YieldAt F m' P l args W R := by
  obtain ⟨fn, tmps, assign, body, hy, hR⟩ := h
  exact ⟨fn, tmps, assign, body, hy, RoundIn.anyDepth hd hR⟩
def enc2 (x : Int × Int) : Array Value := #[.int .i64 x.1, .int .i64 x.2]
set_option maxRecDepth 100000 in
set_option maxHeartbeats 4000000 in
theorem down_in (F : Fence) (hd : F.depth = none) (h34 : F.fn 34) (hro : F.round = none) (l N : Nat) (J Jx : List (Int × Int) → World → Prop) (ns : List Nd) (p : Option Addr) (c : Nat) (w0 : World) (ha : NodesAt w0 p ns) (hA : Ahead ns) (hs : Small ns)
    (hY : ∀ m pre x W, J pre W → pre.length < N → YieldAt F m Tryd.prog l (enc2 x) W fun e W' =>
      (e = .returned (.bool true) ∧ J (pre ++ [x]) W' ∧ Below w0.heap.size W W') ∨ (e = .returned (.bool false) ∧ Jx (pre ++ [x]) W')) :
    ∀ (k n i : Nat) (d : Int) (pr : List (Int × Int)) (W : World), i < k → i < ns.length → 0 ≤ d → d + i ≤ 5000 → Below w0.heap.size w0 W → J pr W → pr.length + (pre ns i d).length ≤ N →
      CallsIn F n Tryd.prog 34 #[.slice p ns.length c, .int .i64 (i : Int), .int .i64 d, .func (.yield l) #[] #[]] W fun e W' =>
        (e = .returned (.bool true) ∧ J (pr ++ pre ns i d) W' ∧ Below w0.heap.size W W') ∨ (e = .returned (.bool false) ∧ ∃ q, q <+: pre ns i d ∧ Jx (pr ++ q) W') := by
  intro k
  induction k with
  | zero => intro n i d pr W hik; omega
  | succ k ih =>
    intro n i d pr W hik hi hd0 hdi hB hJ hN
    have hdd : ∀ k : Nat, (F.depth.isSome = true → 1 ≤ k) := fun k h => by rw [hd] at h; cases h
    obtain ⟨b, o, rfl, hb, hx, hf, a0, a1, a2, a3⟩ := nd_at ha hi
    have hpe := pre_eq hA (i : Int) d (by omega)
    rw [kidsOf_nat hx] at hpe
    have hkid : ∀ j, j < ns[i].kids.length → 0 ≤ ns[i].kids.getD j 0 ∧ ns[i].kids.getD j 0 < i := fun j hj => by
      refine hA (i : Int) (by omega) _ ?_
      rw [kidsOf_nat hx, List.getD, List.getElem?_eq_getElem hj]
      exact List.getElem_mem hj
    obtain ⟨L, hL⟩ : ∃ L, L = ns.length := ⟨_, rfl⟩
    obtain ⟨q, hq⟩ : ∃ q, q = ns[i].kids.length := ⟨_, rfl⟩
    obtain ⟨kids, hkids⟩ : ∃ kids, kids = ns[i].kids := ⟨_, rfl⟩
    obtain ⟨kp, hkp⟩ : ∃ kp, kp = ns[i].kp := ⟨_, rfl⟩
    obtain ⟨kcap, hkcap⟩ : ∃ kcap, kcap = ns[i].kcap := ⟨_, rfl⟩
    have hq5 : (q : Int) ≤ 20000 := by have := (hs.2 ns[i] (List.getElem_mem hi)).1; omega
    have Hat : Hid (∀ W, Below w0.heap.size w0 W → W.cell? ⟨b, o + i * 4 + 2, none⟩ = some (.slice kp q kcap) ∧ ∀ j, j < q → ∃ bx ox, kp = some ⟨bx, ox, none⟩ ∧ bx < W.heap.size ∧ W.cell? ⟨bx, ox + j, none⟩ = some (.int .i64 (kids.getD j 0))) := hid fun W hW => by
      obtain ⟨b', o', hp', hb, hx', hf', _, _, a2, _⟩ := nd_at (NodesAt.later ha (show Below w0.heap.size w0 W from hW)) hi
      cases hp'
      rw [hkp, hq, hkcap, hkids]
      exact ⟨a2, fun j hj => kid_at hf' hj⟩
    have Hqk : Hid (kids.length = q) := hid (by rw [hq, hkids])
    rw [← hkids] at hpe hkid
    rw [← hL] at ih ⊢
    have Hpe := hid hpe
    have Hkid := hid hkid
    have Hih := hid ih
    have HN := hid hN
    have HLn := hid hL
    have HB := hid hB
    have hi2 : (i : Int) < (L : Int) := by omega
    have hY0 := hY (n - 1) pr ((i : Int), d) W hJ (by rw [hpe, List.length_cons] at hN; omega)
    have hY1 := hY0.mono (R' := fun e W2 => (e = .returned (.bool true) ∧ (J (pr ++ [((i : Int), d)]) W2 ∧ Below w0.heap.size W W2) ∧ W2.cell? ⟨b, o + i * 4 + 2, none⟩ = some (.slice kp q kcap)) ∨ (e = .returned (.bool false) ∧ Jx (pr ++ [((i : Int), d)]) W2))
      fun e W2 h => h.elim (fun ⟨he, hj, hb2⟩ => .inl ⟨he, ⟨hj, hb2⟩, (HB.out.trans hb2 |> Hat.out W2).1⟩) .inr
    clear hq hkids hkp hkcap hx hf ha a0 a1 a2 a3 hpe hkid ih hN hL hB hY0
    obtain ⟨fn, tmps, assign, body, hy, hR⟩ := hY1
    dsimp only [enc2] at hy
    have HY := hid hY
    clear hY
    refine callsIn_of_wp Tryd.func34 rfl h34 ?_ hro
    simp only [Tryd.ntmps34, List.size_toArray, List.length_cons, List.length_nil, Nat.reduceAdd, Nat.reduceSub, Array.replicate_succ, Array.replicate_zero, List.push_toArray, List.append_toArray, List.nil_append, List.cons_append]
    gi_wp2_with ((try refine ⟨hdd _, ?_⟩); refine hR.mono ?_; clear hR; rintro e W2 (⟨rfl, ⟨hJ2, hb2⟩, c2⟩ | ⟨rfl, hx2⟩))
    · have HJ2 := hid hJ2
      have Hb2 := hid hb2
      clear hJ2 hb2 c2 hy
      gi_loopw [22] (fun iv wr => ∃ j : Nat, j ≤ q ∧ iv = .int .i64 (j : Int) ∧ Hid (J (pr ++ (((i : Int), d) :: (kids.take j).flatMap fun k => pre ns k (d + 1))) wr ∧ Below w0.heap.size W wr)) (fun iv _ => q - (intOf iv).toNat)
      case atStart => exact ⟨0, Nat.zero_le _, rfl, hid ⟨by simpa using HJ2.out, Hb2.out⟩⟩
      case round =>
        obtain ⟨j, hj, rfl, hI⟩ := hrel
        by_cases hjq : j < q
        · have n0 : (0 : Int) ≤ (j : Int) := by omega
          have n1 : (j : Int) < (q : Int) := by omega
          obtain ⟨_, hkk⟩ := Hat.out wr (HB.out.trans hI.out.2)
          obtain ⟨bx, ox, rfl, hbx, ck⟩ := hkk j hjq
          have hkd := Hkid.out j (by rw [Hqk.out]; exact hjq)
          have Htk : Hid (kids.take (j + 1) = kids.take j ++ [kids.getD j 0]) := hid (by
            have h1 : j < kids.length := by rw [Hqk.out]; omega
            rw [List.take_succ_eq_append_getElem h1, List.getD, List.getElem?_eq_getElem h1]; rfl)
          generalize kids.getD j 0 = kd at *
          obtain ⟨z, rfl⟩ : ∃ z : Nat, kd = (z : Int) := ⟨kd.toNat, by omega⟩
          clear hkk
          have Hsp : Hid ((kids.flatMap fun k => pre ns k (d + 1)) = ((kids.take j).flatMap fun k => pre ns k (d + 1)) ++ (pre ns (z : Int) (d + 1) ++ ((kids.drop (j + 1)).flatMap fun k => pre ns k (d + 1)))) := hid (by
            conv => lhs; rw [← List.take_append_drop (j + 1) kids]
            rw [List.flatMap_append, Htk.out, List.flatMap_append]
            simp)
          have hc := Hih.out (n - 1) z (d + 1) (pr ++ (((i : Int), d) :: (kids.take j).flatMap fun k => pre ns k (d + 1))) wr (by omega) (by have := HLn.out; omega) (by omega) (by omega) (HB.out.trans hI.out.2) hI.out.1 (by
            have h1 := HN.out
            rw [Hpe.out, Hsp.out] at h1
            simp only [List.length_append, List.length_cons] at h1 ⊢
            omega)
          have Hc := hid hc
          clear hc
          gi_wp2_with ((try refine ⟨hdd _, ?_⟩); gi_at_call 34; refine Hc.out.mono ?_; clear Hc; rintro e W3 (⟨rfl, hJ3, hb3⟩ | ⟨rfl, q3, hq3, hx3⟩))
          · refine ⟨⟨j + 1, by omega, by go_num, hid ⟨?_, hI.out.2.trans hb3⟩⟩, by simp [intOf]; omega⟩
            rw [Htk.out]
            simpa using hJ3
          · go_ret
            obtain ⟨r, hr⟩ := hq3
            refine .inr ⟨rfl, ((i : Int), d) :: ((kids.take j).flatMap fun k => pre ns k (d + 1)) ++ q3, ⟨r ++ ((kids.drop (j + 1)).flatMap fun k => pre ns k (d + 1)), ?_⟩, by simpa using hx3⟩
            rw [Hpe.out, Hsp.out, ← hr]
            simp
        · obtain rfl : j = q := by omega
          gi_wp2
          go_ret
          refine .inl ⟨rfl, ?_, hI.out.2⟩
          have h1 := hI.out.1
          rw [List.take_of_length_le (by rw [Hqk.out]; exact Nat.le_refl _), ← Hpe.out] at h1
          exact h1
    · go_ret
      exact .inr ⟨rfl, [((i : Int), d)], ⟨_, by rw [Hpe.out]; rfl⟩, hx2⟩
end Go.Proofs.YtbgjanmheagilaaDoor

/- tree.Walk: what it hands back, walked. Conditions: few nodes. -/
namespace Go.Proofs.YtbgjanmheagilaaDoor
open Go Go.RowKit Go.Nodes Go.Shelf
set_option linter.unusedVariables false
set_option linter.unusedSimpArgs false
attribute [local go_sem] Oper.semAt_some
theorem Below.gb {w w' : World} (hb : Below w.heap.size w w') : w.grownBy w' none := ⟨hb.os, hb.tape, hb.output, hb.size, fun n h _ => hb.block n h⟩
set_option maxRecDepth 100000 in
set_option maxHeartbeats 4000000 in
theorem walk1_in (n l Bl : Nat) (J Jx : List (Int × Int) → World → Prop) (ns : List Nd) (p : Option Addr) (c : Nat) (w0 : World) (ha : NodesAt w0 p ns) (hs : Small ns) (hc : Capped ns) (hl0 : Lib0 w0)
    (hY : ∀ pre x W, J pre W → pre.length < (walkS ns).length → YieldAt Fence.wide (n - 1) Tryd.prog l (enc2 x) W fun e W' =>
      (e = .returned (.bool true) ∧ J (pre ++ [x]) W' ∧ Below w0.heap.size W W') ∨ (e = .returned (.bool false) ∧ Jx (pre ++ [x]) W'))
    (W : World) (hB : Below w0.heap.size w0 W) (hJ : AbidesFrom W.heap.size J) (hBll : Bl < W.heap.size) (hBl : W.cell? ⟨Bl, 0, none⟩ = some (.slice p ns.length c)) (h0 : J [] W) :
    CallsIn Fence.wide n Tryd.prog 33 #[.func (.yield l) #[] #[], .pointer (some ⟨Bl, 0, none⟩)] W fun e W' => (∃ v, e = .returned v) ∧
      ((∃ ys, ys = walkS ns ∧ J ys W') ∨ (∃ pre, pre <+: walkS ns ∧ Jx pre W')) := by
  have hdd : ∀ k : Nat, (Fence.wide.depth.isSome = true → 1 ≤ k) := fun k h => by cases h
  have hck := callsIn_wide (n := n - 1).2 (check_any W p c ns hs hc (NodesAt.later ha hB) (Lib0.later hl0 hB))
  have hJ' : ∀ W', Below W.heap.size W W' → J [] W' := fun W' hb => hJ [] W W' none h0 (Below.gb hb) (fun r e => by cases e)
  have hdown := down_in Fence.wide rfl trivial rfl l (walkS ns).length J Jx ns p c w0 ha
  obtain ⟨L, hL⟩ : ∃ L, L = ns.length := ⟨_, rfl⟩
  rw [← hL] at hck hBl hdown
  unfold ErrPost at hck
  obtain ⟨e0, he0⟩ : ∃ e0, e0 = (checkS ns).1 := ⟨_, rfl⟩
  obtain ⟨e1, he1⟩ : ∃ e1, e1 = (checkS ns).2 := ⟨_, rfl⟩
  rw [← he0, ← he1] at hck
  have hck2 := hck.mono (R' := fun e W' => e = .returned (.tuple #[.int .i64 e0, .int .i64 e1]) ∧ Hid (Below W.heap.size W W') ∧ W'.cell? ⟨Bl, 0, none⟩ = some (.slice p L c)) (fun e W' h => ⟨h.1, hid h.2, (h.2.cell (p := ⟨Bl, 0, none⟩) hBll).trans hBl⟩)
  have hL5 : (L : Int) ≤ 5000 := by have := hs.1; omega
  have HL := hid hL
  have He1 := hid he1
  have Hdown := hid hdown
  have Hs := hid hs
  have HY := hid hY
  have HJ := hid hJ'
  have HB := hid hB
  clear hck hdown hL he0 he1 hs hY hJ' hB ha hJ
  refine callsIn_of_wp Tryd.func33 rfl trivial ?_ rfl
  simp only [Tryd.ntmps33, List.size_toArray, List.length_cons, List.length_nil, Nat.reduceAdd, Nat.reduceSub, Array.replicate_succ, Array.replicate_zero, List.push_toArray, List.append_toArray, List.nil_append, List.cons_append]
  by_cases he : e1 = 0
  · subst he
    have Ht := hid (taken He1.out.symm)
    have Hw : Hid (walkS ns = pre ns ((ns.length : Int) - 1) 0) := hid (by unfold walkS; rw [if_pos He1.out.symm])
    have hL1 : (1 : Int) ≤ (L : Int) := by have := Ht.out.2.1; have := HL.out; omega
    obtain ⟨z, hz⟩ : ∃ z : Nat, (L : Int) - 1 = (z : Int) := ⟨L - 1, by omega⟩
    have Hdn : Hid (∀ W1, Below W.heap.size W W1 → CallsIn Fence.wide (n - 1) Tryd.prog 34 #[.slice p L c, .int .i64 ((L : Int) - 1), .int .i64 0, .func (.yield l) #[] #[]] W1 fun e W' =>
        (e = .returned (.bool true) ∧ J (walkS ns) W') ∨ (e = .returned (.bool false) ∧ ∃ q, q <+: walkS ns ∧ Jx q W')) := hid fun W1 hW1 => by
      have h1 := Hdown.out Ht.out.1 Hs.out (fun m pre x W hj hl => YieldAt.anyDepth rfl m (HY.out pre x W hj hl)) (z + 1) (n - 1) z 0 [] W1 (by omega) (by have := HL.out; omega) (by omega) (by omega) (HB.out.trans (hW1.mono HB.out.size)) (HJ.out W1 hW1) (by rw [Hw.out, ← HL.out, hz]; simp)
      rw [hz, Hw.out, ← HL.out, hz]
      exact h1.mono fun e W' h => h.elim (fun h => .inl ⟨h.1, by simpa using h.2.1⟩) (fun ⟨he, q, hq, hx⟩ => .inr ⟨he, q, hq, by simpa using hx⟩)
    clear hz
    gi_wp2_with (first
      | (refine ⟨trivial, ?_⟩; (try refine ⟨hdd _, ?_⟩); gi_at_call 32; refine hck2.mono ?_; clear hck2; rintro e W1 ⟨rfl, hb1, c1⟩)
      | (refine ⟨trivial, ?_⟩; (try refine ⟨hdd _, ?_⟩); gi_at_call 34; refine (Hdn.out _ hb1.out).mono ?_; clear Hdn; rintro e W3 (⟨rfl, hJ3⟩ | ⟨rfl, q3, hq3, hx3⟩)))
    · go_end0
      exact ⟨⟨_, rfl⟩, .inl ⟨_, rfl, hJ3⟩⟩
    · go_end0
      exact ⟨⟨_, rfl⟩, .inr ⟨q3, hq3, hx3⟩⟩
  · have hne : (e1 == 0) = false := by simp [he]
    have Hne := hid he
    clear he
    gi_wp2_with (refine ⟨trivial, ?_⟩; (try refine ⟨hdd _, ?_⟩); gi_at_call 32; refine hck2.mono ?_; clear hck2; rintro e W1 ⟨rfl, hb1, c1⟩)
    go_end0
    have hw : walkS ns = [] := by unfold walkS; rw [if_neg (fun h => Hne.out (He1.out.trans h))]
    exact ⟨⟨_, rfl⟩, .inl ⟨[], hw.symm, HJ.out W1 hb1.out⟩⟩
/-- What tree.Walk hands back. -/
theorem walk_any (w : World) (p : Option Addr) (c L : Nat) :
    Calls Tryd.prog 20 #[.slice p L c] w fun e w' => e = .returned (.func (.func 33) #[] #[.pointer (some ⟨w.heap.size, 0, none⟩)]) ∧ w' = w.alloc (.cells #[.slice p L c] 33) := by
  go_enter Tryd.func20, Tryd.ntmps20
  go_wp2
  go_ret
  exact ⟨rfl, rfl⟩
theorem walk_stops (n Bl : Nat) (ns : List Nd) (p : Option Addr) (c : Nat) (w : World) (ha : NodesAt w p ns) (hs : Small ns) (hc : Capped ns) (hl0 : Lib0 w) (w1 : World) (hB : Below w.heap.size w w1) (hBll : Bl < w1.heap.size) (hBl : w1.cell? ⟨Bl, 0, none⟩ = some (.slice p ns.length c)) :
    SeqStopsK Fence.wide n Tryd.prog 33 #[.pointer (some ⟨Bl, 0, none⟩)] enc2 (Below w.heap.size) (fun ys => ys = walkS ns) (fun pre => pre <+: walkS ns) (walkS ns).length w1 := fun l J Jx W hW hJ _ hY h0 =>
  walk1_in n l Bl J Jx ns p c w ha hs hc hl0 hY W (hB.trans (hW.mono hB.size)) hJ (Nat.lt_of_lt_of_le hBll hW.size) ((hW.cell (p := ⟨Bl, 0, none⟩) hBll).trans hBl) h0
end Go.Proofs.YtbgjanmheagilaaDoor

/- TreeWalks: the law, walked. Conditions: the sizes that a program may hold. -/
namespace Go.Proofs.YtbgjanmheagilaaDoor
open Go Go.RowKit Go.Nodes Go.Shelf
set_option linter.unusedVariables false
set_option linter.unusedSimpArgs false
attribute [local go_sem] Oper.semAt_some
/-- The boxes of the law, and what lay before it. -/
def Wb (w : World) (stop : Int) (sl : Value) (Bl : Nat) (k : Int) (W : World) : Prop := (Boxed W w.heap.size 3 (.int .i64 stop) ∧ Boxed W (w.heap.size + 1) 4 (.bool false) ∧ Boxed W Bl 33 sl ∧ Boxed W (Bl + 1) 3 (.int .i64 k)) ∧ Below w.heap.size w W
theorem wb_own {β : Type} {B : Nat} (w : World) (stop : Int) (sl : Value) (Bl : Nat) (k : β → Int) (h : w.heap.size ≤ B) : OwnFrom B (fun s W => Wb w stop sl Bl (k s) W) :=
  OwnFrom.and (OwnFrom.and (Own.from (boxed_own _ _ _) _) (OwnFrom.and (Own.from (boxed_own _ _ _) _) (OwnFrom.and (Own.from (boxed_own _ _ _) _) (Own.from (boxed_own _ _ _) _)))) (ownFrom_below (Nat.le_refl _) h)
theorem wb_set {w W : World} {stop : Int} {sl : Value} {Bl : Nat} {k : Int} (h : Wb w stop sl Bl k W) (hb : w.heap.size + 1 < Bl) (k' : Int) : Wb w stop sl Bl k' (W.setCell ⟨Bl + 1, 0, none⟩ (.int .i64 k')) :=
  ⟨⟨h.1.1.other (by omega) _, h.1.2.1.other (by omega) _, h.1.2.2.1.other (by omega) _, h.1.2.2.2.set _⟩, h.2.setCell (by simp; omega) _⟩
theorem wb_later {w W W' : World} {stop : Int} {sl : Value} {Bl : Nat} {k : Int} (h : Wb w stop sl Bl k W) (hb : Below W.heap.size W W') : Wb w stop sl Bl k W' :=
  ⟨⟨h.1.1.kept (Below.gb hb) (by simp), h.1.2.1.kept (Below.gb hb) (by simp), h.1.2.2.1.kept (Below.gb hb) (by simp), h.1.2.2.2.kept (Below.gb hb) (by simp)⟩, h.2.trans (hb.mono h.2.size)⟩
theorem ints_own {β : Type} (n1 : Nat) (v : Value) (l : List Int) : Own (fun (_ : β) W => Ints n1 W v l) := fun s X Y row hs hg hrow => by
  refine Ints_grown hs hg fun g hg' e => ?_
  obtain ⟨o, ho, hc⟩ := hrow g e
  obtain ⟨c, fz, h2⟩ := Go.Lib.ownsRow_kind hs g hg'
  rw [h2] at ho; cases ho; cases hc
theorem def_own {β : Type} {B D : Nat} {o : Obj} (h : D < B) : OwnFrom B (fun (_ : β) W => W.heap[D]? = some o) := fun s X Y row hs hg hrow =>
  (hg.block D (Array.getElem?_eq_some_iff.1 hs).1 (fun e => by have := (hrow D e.symm).1; omega)).trans hs
/-- .. and the rows of the reference. -/
def Wc (w : World) (stop : Int) (sl : Value) (Bl b7 n1 D : Nat) (v u : Value) (A B : List Int) (k : Int) (W : World) : Prop :=
  Wb w stop sl Bl k W ∧ (Boxed W b7 42 v ∧ Boxed W (b7 + 1) 42 u) ∧ (Ints n1 W v A ∧ Ints n1 W u B) ∧ W.heap[D]? = some (.deferred (some []))
theorem wc_own {β : Type} {B0 : Nat} (w : World) (stop : Int) (sl : Value) (Bl b7 n1 D : Nat) (v u : Value) (A B : List Int) (k : β → Int) (h : w.heap.size ≤ B0) (hD : D < B0) : OwnFrom B0 (fun s W => Wc w stop sl Bl b7 n1 D v u A B (k s) W) :=
  OwnFrom.and (wb_own w stop sl Bl k h) (OwnFrom.and (OwnFrom.and (Own.from (boxed_own _ _ _) _) (Own.from (boxed_own _ _ _) _)) (OwnFrom.and (OwnFrom.and (Own.from (ints_own _ _ _) _) (Own.from (ints_own _ _ _) _)) (def_own hD)))
theorem Ints_setCell2 {n1 : Nat} {w : World} {v : Value} {l : List Int} (h : Ints n1 w v l) {n : Nat} (x : Value) (hn : n < n1) : Ints n1 (w.setCell ⟨n, 0, none⟩ x) v l := Ints_setCell h x hn
theorem snoc_prefix {l pre : List (Int × Int)} {x : Int × Int} (h : pre <+: l) (hl : pre.length < l.length) : pre ++ [x] <+: l ↔ x = l[pre.length] := by
  obtain ⟨r, rfl⟩ := h
  cases r with
  | nil => simp at hl
  | cons a r => simp [List.prefix_append_right_inj]
theorem wc_set {w W : World} {stop : Int} {sl v u : Value} {Bl b7 n1 D : Nat} {A B : List Int} {k : Int} (h : Wc w stop sl Bl b7 n1 D v u A B k W) (hb : w.heap.size + 1 < Bl) (h1 : Bl + 1 < n1) (h7 : Bl + 1 < b7) (k' : Int) :
    Wc w stop sl Bl b7 n1 D v u A B k' (W.setCell ⟨Bl + 1, 0, none⟩ (.int .i64 k')) :=
  ⟨wb_set h.1 hb k', ⟨h.2.1.1.other (by omega) _, h.2.1.2.other (by omega) _⟩, ⟨Ints_setCell2 h.2.2.1.1 _ h1, Ints_setCell2 h.2.2.1.2 _ h1⟩, (KeepsOthers.setCell W ⟨Bl + 1, 0, none⟩ _).same D _ h.2.2.2 rfl⟩
theorem ints_cell {n1 : Nat} {W : World} {pv : Option Addr} {N cv : Nat} {A : List Int} (h : Ints n1 W (.slice pv N cv) A) {j : Nat} (hj : j < A.length) : ∃ b o, pv = some ⟨b, o, none⟩ ∧ W.cell? ⟨b, o + j, none⟩ = some (.int .i64 (A.getD j 0)) := by
  obtain ⟨p, c, hv, ha⟩ := h.out
  cases hv
  rcases ha with h0 | ⟨b, o, hp, _, hc⟩
  · rw [h0] at hj; simp at hj
  · exact ⟨b, o, hp, by rw [hc j hj, List.getD, List.getElem?_eq_getElem hj]; rfl⟩
theorem boxed_grow {W : World} {B : Nat} {t : TypeId} {v : Value} (h : Boxed W B t v) (g : Gro) : Boxed (grow W g) B t v := h.kept (Below.gb (below_grow W g)) (by simp)
@[go_sem] theorem eql_nilFunc (f : Nat) (a b : Array Value) (W : World) : (binOp .eql 40 (.func (.func f) a b) .nilFunc).run Tryd.prog W = .ok (.bool false) W := by kernel_rfl
set_option maxRecDepth 100000 in
set_option maxHeartbeats 4000000 in
theorem treeWalks_any (p : Option Addr) (c : Nat) (ns : List Nd) (stop : Int) (w : World) (ha : NodesAt w p ns) (hs : Slim ns) (hc : Capped ns) (hl0 : Lib0 w) :
    Calls Tryd.prog 7 #[.slice p ns.length c, .int .i64 stop] w fun e w' => e = .returned (.bool true) ∧ Below w.heap.size w w' := by
  have hdd : ∀ k : Nat, (Fence.wide.depth.isSome = true → 1 ≤ k) := fun k h => by cases h
  have F1 : Hid (∀ w', Below w.heap.size w w' → CallsIn Fence.wide 2 Tryd.prog 13 #[.slice p ns.length c] w' fun e w2 => e = .returned (.bool (fewS ns 0)) ∧ Below w'.heap.size w' w2) := hid fun w' h => callsIn_wide.2 (few_any p c ns w' (NodesAt.later ha h))
  have hsm := fun h => small_of hs h
  obtain ⟨L, hL⟩ : ∃ L, L = ns.length := ⟨_, rfl⟩
  rw [← hL] at F1 ⊢
  have HL := hid hL
  have Hsm := hid hsm
  have Ha := hid ha
  have Hc := hid hc
  have Hl := hid hl0
  clear hL hsm ha hc hl0 hs
  generalize hf : fewS ns 0 = f at F1
  refine (callsIn_wide (n := 3)).1 ?_
  refine callsIn_of_wp_marks Tryd.func7 rfl trivial ?_ rfl
  simp only [Tryd.ntmps7, List.size_toArray, List.length_cons, List.length_nil, Nat.reduceAdd, Nat.reduceSub, Array.replicate_succ, Array.replicate_zero, List.push_toArray, List.append_toArray, List.nil_append, List.cons_append]
  cases f with
  | false =>
    clear hf
    gi_wp2_with (first
      | (refine ⟨trivial, ?_⟩; (try refine ⟨hdd _, ?_⟩); gi_at_call 12; refine (callsIn_wide.2 (awake6 _)).mono ?_; rintro e w' ⟨rfl, hb⟩; obtain ⟨g1, rfl⟩ := bout hb; clear hb)
      | (refine ⟨trivial, ?_⟩; (try refine ⟨hdd _, ?_⟩); gi_at_call 13; ((with_reducible refine (F1.out _ ?_).mono ?_); rotate_left; rintro e w' ⟨rfl, hb⟩; obtain ⟨g2, rfl⟩ := bout hb; clear hb)))
    all_goals (try (repeat (first | exact Below.refl _ _ | refine bG ?_ _ | refine bI ?_ _ _ | refine bA ?_ _)))
    refine ⟨.bool true, ?_, rfl, ?_⟩
    · simp [results, Tryd.f7, go_sem]
    · repeat (first | exact Below.refl _ _ | refine bG ?_ _ | refine bI ?_ _ _ | refine bA ?_ _)
  | true =>
    have Hs := hid (Hsm.out hf)
    clear hf
    gi_wp2_with (first
      | (refine ⟨trivial, ?_⟩; (try refine ⟨hdd _, ?_⟩); gi_at_call 12; refine (callsIn_wide.2 (awake6 _)).mono ?_; rintro e w' ⟨rfl, hb⟩; obtain ⟨g1, rfl⟩ := bout hb; clear hb)
      | (refine ⟨trivial, ?_⟩; (try refine ⟨hdd _, ?_⟩); gi_at_call 13; ((with_reducible refine (F1.out _ ?_).mono ?_); rotate_left; rintro e w' ⟨rfl, hb⟩; obtain ⟨g2, rfl⟩ := bout hb; clear hb))
      | (refine ⟨trivial, ?_⟩; (try refine ⟨hdd _, ?_⟩); gi_at_call 20; refine (callsIn_wide.2 (walk_any _ _ _ _)).mono ?_; rintro e w' ⟨rfl, rfl⟩))
    all_goals (try (repeat (first | exact Below.refl _ _ | refine bG ?_ _ | refine bI ?_ _ _ | refine bA ?_ _)))
    obtain ⟨Bl, hBl⟩ : ∃ Bl, w.heap.size + 1 + 1 + (g1.app g2).size = Bl := ⟨_, rfl⟩
    rw [hBl]
    obtain ⟨Wl, hWl⟩ : ∃ Wl, ((grow ((w.alloc (.cells #[.int .i64 stop] 3)).alloc (.cells #[.bool false] 4)) (g1.app g2)).alloc (.cells #[.slice p L c] 33)).alloc (.cells #[.int .i64 0] 3) = Wl := ⟨_, rfl⟩
    rw [hWl]
    have hwb : Wb w stop (.slice p L c) Bl 0 Wl := by
      have z1 : (w.alloc (.cells #[.int .i64 stop] 3)).heap.size = w.heap.size + 1 := World.size_alloc _ _
      have z2 : (grow ((w.alloc (.cells #[.int .i64 stop] 3)).alloc (.cells #[.bool false] 4)) (g1.app g2)).heap.size = Bl := by rw [← hBl]; simp
      rw [← hWl]
      refine ⟨⟨((boxed_grow ((Boxed.new w 3 _).alloc _) _).alloc _).alloc _, ?_, ?_, ?_⟩, ?_⟩
      · have h := Boxed.new (w.alloc (.cells #[.int .i64 stop] 3)) 4 (.bool false)
        rw [z1] at h
        exact ((boxed_grow h _).alloc _).alloc _
      · have h := Boxed.new (grow ((w.alloc (.cells #[.int .i64 stop] 3)).alloc (.cells #[.bool false] 4)) (g1.app g2)) 33 (.slice p L c)
        rw [z2] at h
        exact h.alloc _
      · have h := Boxed.new ((grow ((w.alloc (.cells #[.int .i64 stop] 3)).alloc (.cells #[.bool false] 4)) (g1.app g2)).alloc (.cells #[.slice p L c] 33)) 3 (.int .i64 0)
        rw [World.size_alloc, z2] at h
        exact h
      · repeat (first | exact Below.refl _ _ | refine bG ?_ _ | refine bI ?_ _ _ | refine bA ?_ _)
    have hBlw : w.heap.size + 1 < Bl := by omega
    clear hWl hBl
    have hN := walkS_len ns
    have hN5 : ((walkS ns).length : Int) ≤ 5000 := by have := Hs.out.1; omega
    clear hN
    rename_i K hK
    have tail : ∀ (D : Nat) (z : Int) (W : World), w.heap.size ≤ D → Wb w stop (.slice p L c) Bl z W → W.heap[D]? = some (.deferred (some [])) → K { tmps := List.toArray (.slice p L c :: .int .i64 stop :: undef :: .pointer (some ⟨w.heap.size, 0, none⟩) :: .pointer (some ⟨w.heap.size + 1, 0, none⟩) :: .func (.func 33) #[] #[.pointer (some ⟨Bl, 0, none⟩)] :: .pointer (some ⟨Bl + 1, 0, none⟩) :: undef :: undef :: undef :: undef :: .bool true :: .bool false :: .slice p L c :: .bool true :: .bool false :: .slice p L c :: .func (.func 33) #[] #[.pointer (some ⟨Bl, 0, none⟩)] :: .func (.func 33) #[] #[.pointer (some ⟨Bl, 0, none⟩)] :: .bool false :: .func (.func 33) #[] #[.pointer (some ⟨Bl, 0, none⟩)] :: undef :: undef :: undef :: undef :: undef :: undef :: undef :: undef :: undef :: undef :: undef :: undef :: undef :: undef :: undef :: undef :: undef :: undef :: undef :: undef :: undef :: undef :: undef :: undef :: undef :: undef :: undef :: undef :: undef :: undef :: undef :: undef :: undef :: undef :: undef :: undef :: undef :: undef :: undef :: undef :: undef :: []), defers := [{ target := .collected D, args := #[] }] } W := by
      intro D z W hD hb hdf
      refine hK _ _ ?_
      have hb0 := hb
      obtain ⟨⟨b3, b4, bl, b6⟩, hB⟩ := hb0
      have hrw : CallsIn Fence.wide 2 Tryd.prog 21 #[.slice p L c] W fun e w' => ∃ v u, e = .returned (.tuple #[v, u]) ∧ Below W.heap.size W w' ∧ Ints W.heap.size w' v ((walkS ns).map (·.1)) ∧ Ints W.heap.size w' u ((walkS ns).map (·.2)) := by
        have h := rwalk_any W p c ns Hs.out Hc.out (NodesAt.later Ha.out hB) (Lib0.later Hl.out hB)
        rw [← HL.out] at h
        exact callsIn_wide.2 h
      obtain ⟨A, hA⟩ : ∃ A, A = (walkS ns).map (·.1) := ⟨_, rfl⟩
      obtain ⟨B, hB2⟩ : ∃ B, B = (walkS ns).map (·.2) := ⟨_, rfl⟩
      rw [← hA, ← hB2] at hrw
      have hAl : A.length = (walkS ns).length := by rw [hA, List.length_map]
      have hBl2 : B.length = (walkS ns).length := by rw [hB2, List.length_map]
      have hrw2 := hrw.mono (R' := fun e w' => ∃ pv cv pu cu, e = .returned (.tuple #[.slice pv (walkS ns).length cv, .slice pu (walkS ns).length cu]) ∧ ((∀ o1 o2, ((w'.alloc o1).alloc o2).cell? ⟨Bl + 1, 0, none⟩ = some (.int .i64 z)) ∧ (∀ o1 o2, ((w'.alloc o1).alloc o2).frozen? ⟨Bl + 1, 0, none⟩ = false) ∧ Bl + 1 < w'.heap.size) ∧ Hid (Below W.heap.size W w' ∧ Ints W.heap.size w' (.slice pv (walkS ns).length cv) A ∧ Ints W.heap.size w' (.slice pu (walkS ns).length cu) B)) (fun e w' ⟨v, u, he, hb, hv, hu⟩ => by
        obtain ⟨pv, cv, rfl, _⟩ := hv.out
        obtain ⟨pu, cu, rfl, _⟩ := hu.out
        rw [hAl] at he hv
        rw [hBl2] at he hu
        have h6 := b6.kept (Below.gb hb) (by simp)
        exact ⟨pv, cv, pu, cu, he, ⟨fun o1 o2 => ((h6.alloc o1).alloc o2).cell, fun o1 o2 => ((h6.alloc o1).alloc o2).frozen, h6.lt⟩, hid ⟨hb, hv, hu⟩⟩)
      have Hrw := hid hrw2
      have HA := hid hA
      have HB2 := hid hB2
      clear hrw hrw2 hA hB2 hAl hBl2
      obtain ⟨N, hNn⟩ : ∃ N, N = (walkS ns).length := ⟨_, rfl⟩
      rw [← hNn] at Hrw hN5
      have HN := hid hNn
      clear hNn
      gi_wp2_with ((refine ⟨trivial, ?_⟩; (try refine ⟨hdd _, ?_⟩); gi_at_call 21; refine Hrw.out.mono ?_; clear Hrw; rintro e w' ⟨pv, cv, pu, cu, rfl, ⟨k6, y6, t6⟩, Hv⟩))
      obtain ⟨b7, hb7⟩ : ∃ b7, w'.heap.size = b7 := ⟨_, rfl⟩
      rw [hb7]
      obtain ⟨W5, hW5⟩ : ∃ W5, ((w'.alloc (.cells #[.slice pv N cv] 42)).alloc (.cells #[.slice pu N cu] 42)).setCell ⟨Bl + 1, 0, none⟩ (.int .i64 0) = W5 := ⟨_, rfl⟩
      rw [hW5]
      obtain ⟨hbw, hv, hu⟩ := Hv.out
      have hDW : D < W.heap.size := (Array.getElem?_eq_some_iff.1 hdf).1
      have hbW2 : Below W.heap.size W ((w'.alloc (.cells #[.slice pv N cv] 42)).alloc (.cells #[.slice pu N cu] 42)) := (hbw.alloc hbw.size _).alloc (by have := hbw.size; simp; omega) _
      have hwc : Wc w stop (.slice p L c) Bl b7 W.heap.size D (.slice pv N cv) (.slice pu N cu) A B 0 W5 := by
        rw [← hW5]
        refine ⟨wb_set (wb_later hb hbW2) hBlw 0, ⟨?_, ?_⟩, ⟨?_, ?_⟩, ?_⟩
        · have h := (Boxed.new w' 42 (.slice pv N cv)).alloc (.cells #[.slice pu N cu] 42)
          rw [hb7] at h
          exact h.other (by omega) _
        · have h := Boxed.new (w'.alloc (.cells #[.slice pv N cv] 42)) 42 (.slice pu N cu)
          rw [World.size_alloc, hb7] at h
          exact h.other (by omega) _
        · exact Ints_setCell2 (own_below (own_below hv (bA (Below.refl _ _) _)) (bA (Below.refl _ _) _)) _ (by have := b6.lt; omega)
        · exact Ints_setCell2 (own_below (own_below hu (bA (Below.refl _ _) _)) (bA (Below.refl _ _) _)) _ (by have := b6.lt; omega)
        · rw [Below.heap_setCell _ _ _ _ (by intro e; simp at e; have h := b6; unfold Boxed at h; rw [← e, hdf] at h; cases h), hbW2.block D hDW]
          exact hdf
      have hW5s : W.heap.size ≤ W5.heap.size := by rw [← hW5]; have := hbW2.size; simpa [World.setCell] using this
      have hws : w.heap.size ≤ W5.heap.size := Nat.le_trans hB.size hW5s
      have h7b : Bl + 1 < b7 := by rw [← hb7]; exact t6
      have h1b : Bl + 1 < W.heap.size := b6.lt
      clear hW5 hbW2 hv hu hbw hb7 k6 y6 t6
      obtain ⟨n1, hn1⟩ : ∃ n1, W.heap.size = n1 := ⟨_, rfl⟩
      rw [hn1] at hwc hW5s hDW h1b
      rename_i K2 hK2
      refine wpIn_rangeFunc_ownF (n := 3) rfl (by omega) (gf := 33) (lb := #[.pointer (some ⟨Bl, 0, none⟩)]) rfl trivial (enters_of Tryd.func33 (by kernel_rfl) rfl)
        (walk_stops (3 - 1) Bl ns p c w Ha.out Hs.out Hc.out Hl.out W5 hwc.1.2 hwc.1.1.2.2.1.lt (by rw [← HL.out]; exact hwc.1.1.2.2.1.cell)) belowK_t (belowK_b hws) (Below.refl _ _) (fun _ => rfl)
        (fun pre W6 => pre <+: walkS ns ∧ Wc w stop (.slice p L c) Bl b7 n1 D (.slice pv N cv) (.slice pu N cu) A B (pre.length : Int) W6)
        (fun cc pre W6 => ¬ pre <+: walkS ns)
        (OwnFrom.and (ownFrom_pure _ _) (wc_own w stop _ Bl b7 n1 D _ _ A B _ hws (by omega))) (fun cc => ownFrom_pure _ _) ⟨List.nil_prefix, hwc⟩
        (fun x => { tmps := List.toArray (.slice p L c :: .int .i64 stop :: undef :: .pointer (some ⟨w.heap.size, 0, none⟩) :: .pointer (some ⟨w.heap.size + 1, 0, none⟩) :: .func (.func 33) #[] #[.pointer (some ⟨Bl, 0, none⟩)] :: .pointer (some ⟨Bl + 1, 0, none⟩) :: .pointer (some ⟨b7, 0, none⟩) :: .pointer (some ⟨b7 + 1, 0, none⟩) :: .int .i64 x.1 :: .int .i64 x.2 :: .bool true :: .bool false :: .slice p L c :: .bool true :: .bool false :: .slice p L c :: .func (.func 33) #[] #[.pointer (some ⟨Bl, 0, none⟩)] :: .func (.func 33) #[] #[.pointer (some ⟨Bl, 0, none⟩)] :: .bool false :: .func (.func 33) #[] #[.pointer (some ⟨Bl, 0, none⟩)] :: undef :: undef :: undef :: undef :: undef :: undef :: undef :: .tuple #[.slice pv N cv, .slice pu N cu] :: .slice p L c :: .tuple #[.slice pv N cv, .slice pu N cu] :: .slice pv N cv :: .slice pu N cu :: .func (.func 33) #[] #[.pointer (some ⟨Bl, 0, none⟩)] :: .int .i64 x.1 :: .int .i64 x.2 :: undef :: undef :: undef :: undef :: undef :: undef :: undef :: undef :: undef :: undef :: undef :: undef :: undef :: undef :: undef :: undef :: undef :: undef :: undef :: undef :: undef :: undef :: undef :: undef :: undef :: undef :: []), defers := [] }) ?assign2 ?body2 ?done2 ?stop2
      case assign2 =>
        intro l x W K hK
        dsimp only [enc2]
        gi_wp2
        simpa [enc2] using hK
      case body2 =>
        rintro l pre x W6 ⟨hpre, hwc6⟩ hlen
        have hset := hid (wc_set hwc6 hBlw h1b h7b ((pre.length : Int) + 1))
        obtain ⟨⟨⟨b3, b4, bl, b6⟩, hB6⟩, ⟨b7x, b8x⟩, ⟨iA, iB⟩, hd⟩ := hwc6
        have hjA : pre.length < A.length := by rw [HA.out, List.length_map]; exact hlen
        have hjB : pre.length < B.length := by rw [HB2.out, List.length_map]; exact hlen
        obtain ⟨bA, oA, rfl, kA⟩ := ints_cell iA hjA
        obtain ⟨bB, oB, rfl, kB⟩ := ints_cell iB hjB
        have gA : A.getD pre.length 0 = ((walkS ns)[pre.length]'hlen).1 := by rw [HA.out, List.getD, List.getElem?_map, List.getElem?_eq_getElem hlen]; rfl
        have gB : B.getD pre.length 0 = ((walkS ns)[pre.length]'hlen).2 := by rw [HB2.out, List.getD, List.getElem?_map, List.getElem?_eq_getElem hlen]; rfl
        rw [gA] at kA
        rw [gB] at kB
        have hsn := hid (snoc_prefix (x := x) hpre hlen)
        generalize hy : (walkS ns)[pre.length]'hlen = y at *
        have c3 := b3.cell
        have c4 := b4.cell
        have z4 := b4.frozen
        have c6 := b6.cell
        have z6 := b6.frozen
        have c7 := b7x.cell
        have c8 := b8x.cell
        have n0 : (0 : Int) ≤ (pre.length : Int) := by omega
        have n2 : (pre.length : Int) < (N : Int) := by have := HN.out; omega
        have n3 : ¬ (N : Int) ≤ (pre.length : Int) := by omega
        have hk : (pre.length : Int) + 1 ≤ 5001 := by omega
        have Hhy := hid hy
        have Hset := hset
        have Hsn := hsn
        clear hy gA gB hset hsn iA iB hd
        by_cases e1 : x.1 = y.1
        · by_cases e2 : x.2 = y.2
          · have f1 : (x.1 != y.1) = false := by simp [e1]
            have f2 : (x.2 != y.2) = false := by simp [e2]
            have hxy : Hid (pre ++ [x] <+: walkS ns) := hid (Hsn.out.2 (Prod.ext e1 e2))
            have Hpl : Hid (((pre ++ [x]).length : Int) = (pre.length : Int) + 1) := hid (by simp)
            rw [← e1] at kA
            rw [← e2] at kB
            clear e1 e2 f1 f2 Hsn
            gi_wp2
            refine ⟨KeepsOthers.setCell _ _ _, (Below.refl w.heap.size W6).setCell (p := ⟨Bl + 1, 0, none⟩) (by simp; omega) _, hxy.out, ?_⟩
            show Wc w stop _ Bl b7 n1 D _ _ A B ((pre ++ [x]).length : Int) _
            rw [Hpl.out]
            exact Hset.out
          · have f1 : (x.1 != y.1) = false := by simp [e1]
            have f2 : (x.2 != y.2) = true := by simp [e2]
            have hno : Hid (¬ (pre ++ [x] <+: walkS ns)) := hid fun h => e2 (by rw [Hsn.out.1 h])
            rw [← e1] at kA
            clear e1 e2 f1 Hsn
            gi_wp2
            exact ⟨KeepsOthers.setCell _ _ _, hno.out⟩
        · have f1 : (x.1 != y.1) = true := by simp [e1]
          have hno : Hid (¬ (pre ++ [x] <+: walkS ns)) := hid fun h => e1 (by rw [Hsn.out.1 h])
          clear e1 Hsn
          gi_wp2
          exact ⟨KeepsOthers.setCell _ _ _, hno.out⟩
      case done2 =>
        rintro D2 ys W6 hD2 rfl ⟨_, ⟨⟨⟨b3, b4, bl, b6⟩, hB6⟩, ⟨b7x, b8x⟩, _, hd⟩⟩ hdf2
        have c4 := b4.cell
        have z4 := b4.frozen
        have c6 := b6.cell
        have c7 := b7x.cell
        rw [← HN.out] at c6
        refine hK2 _ _ ?_
        gi_wp2
        have hK2 := (KeepsOthers.setCell W6 ⟨w.heap.size + 1, 0, none⟩ (.bool true)).same D2 _ hdf2 rfl
        have hK1 := (KeepsOthers.setCell W6 ⟨w.heap.size + 1, 0, none⟩ (.bool true)).same D _ hd rfl
        have hcc := World.cell?_setCell_same' W6 ⟨w.heap.size + 1, 0, none⟩ (.bool true) (by rw [c4]; rfl)
        have hB7 := hB6.setCell (p := ⟨w.heap.size + 1, 0, none⟩) (by simp) (.bool true)
        generalize W6.setCell ⟨w.heap.size + 1, 0, none⟩ (.bool true) = W7 at *
        have hne : D2 ≠ D := by omega
        have hK1' : (W7.putObj D2 (.deferred none)).heap[D]? = some (.deferred (some [])) :=
          ((grownBy_putObj' W7 D2 (.deferred none)).block D (Array.getElem?_eq_some_iff.1 hK1).1 (fun e => by cases e; exact hne rfl)).trans hK1
        have hc8 := cell_kept hcc (grownBy_putObj' _ D2 (.deferred none)) (fun r e => by cases e; exact ⟨_, hK2, rfl⟩)
        have hc9 := cell_kept hc8 (grownBy_putObj' _ D (.deferred none)) (fun r e => by cases e; exact ⟨_, hK1', rfl⟩)
        refine ⟨by simp, .inl ⟨_, _, rfl, run_takeDeferred hK2, ?_⟩⟩
        refine ⟨by simp, .inl ⟨_, _, rfl, run_takeDeferred hK1', ?_⟩⟩
        refine ⟨.bool true, ?_, rfl, (hB7.trans (belowK_b (w := w) (Nat.le_refl _) _ D2 _ _ (by omega) hK2 rfl rfl)).trans (belowK_b (w := w) (Nat.le_refl _) _ D _ _ hD hK1' rfl rfl)⟩
        simp [results, Tryd.f7, go_sem, hc9]
      case stop2 =>
        intro D2 cc pre W6 hD2 hpre hno hdf2
        exact absurd hpre hno
    have hn2 : (Below w.heap.size w Wl) := hwb.2
    refine wpIn_rangeFunc_ownF (n := 3) rfl (by omega) (gf := 33) (lb := #[.pointer (some ⟨Bl, 0, none⟩)]) rfl trivial (enters_of Tryd.func33 (by kernel_rfl) rfl)
      (walk_stops (3 - 1) Bl ns p c w Ha.out Hs.out Hc.out Hl.out Wl hwb.2 hwb.1.2.2.1.lt (by rw [← HL.out]; exact hwb.1.2.2.1.cell)) belowK_t (belowK_b hwb.2.size) (Below.refl _ _) (fun _ => rfl)
      (fun pre W => Wb w stop (.slice p L c) Bl (pre.length : Int) W) (fun cc pre W => cc = .exit 0 ∧ Wb w stop (.slice p L c) Bl (pre.length : Int) W)
      (wb_own w stop _ Bl _ hwb.2.size) (fun cc => OwnFrom.and (ownFrom_pure _ _) (wb_own w stop _ Bl _ hwb.2.size)) hwb
      (fun x => { tmps := List.toArray (.slice p L c :: .int .i64 stop :: undef :: .pointer (some ⟨w.heap.size, 0, none⟩) :: .pointer (some ⟨w.heap.size + 1, 0, none⟩) :: .func (.func 33) #[] #[.pointer (some ⟨Bl, 0, none⟩)] :: .pointer (some ⟨Bl + 1, 0, none⟩) :: undef :: undef :: undef :: undef :: .bool true :: .bool false :: .slice p L c :: .bool true :: .bool false :: .slice p L c :: .func (.func 33) #[] #[.pointer (some ⟨Bl, 0, none⟩)] :: .func (.func 33) #[] #[.pointer (some ⟨Bl, 0, none⟩)] :: .bool false :: .func (.func 33) #[] #[.pointer (some ⟨Bl, 0, none⟩)] :: .int .i64 x.1 :: .int .i64 x.2 :: undef :: undef :: undef :: undef :: undef :: undef :: undef :: undef :: undef :: undef :: undef :: undef :: undef :: undef :: undef :: undef :: undef :: undef :: undef :: undef :: undef :: undef :: undef :: undef :: undef :: undef :: undef :: undef :: undef :: undef :: undef :: undef :: undef :: undef :: undef :: undef :: undef :: undef :: undef :: []), defers := [] }) ?assign ?body ?done ?stop
    case assign =>
      intro l x W K hK
      gi_wp2
      simpa [enc2] using hK
    case body =>
      rintro l pre x W hwb3 hlen
      obtain ⟨⟨b3, b4, bl, b6⟩, hB⟩ := hwb3
      have c3 := b3.cell
      have c6 := b6.cell
      have z6 := b6.frozen
      have hk : (pre.length : Int) + 1 ≤ 5001 := by omega
      have hpl : ((pre ++ [x]).length : Int) = (pre.length : Int) + 1 := by simp
      have hset := wb_set ⟨⟨b3, b4, bl, b6⟩, hB⟩ hBlw ((pre.length : Int) + 1)
      rw [← hpl] at hset
      have Hset := hid hset
      have Hpl := hid hpl
      clear hset hpl
      gi_wp2
      · exact ⟨KeepsOthers.setCell _ _ _, rfl, by have := Hset.out; rw [Hpl.out] at this; show Wb w stop _ Bl ((pre ++ [x]).length : Int) _; rw [Hpl.out]; exact this⟩
      · exact ⟨KeepsOthers.setCell _ _ _, (Below.refl w.heap.size W).setCell (p := ⟨Bl + 1, 0, none⟩) (by simp; omega) _, by have := Hset.out; rw [Hpl.out] at this; show Wb w stop _ Bl ((pre ++ [x]).length : Int) _; rw [Hpl.out]; exact this⟩
    case done =>
      rintro D ys W hD rfl hwb2 hdf
      exact tail D _ W (Nat.le_trans hwb.2.size hD) hwb2 hdf
    case stop =>
      rintro D cc pre W hD hpre ⟨rfl, hwb2⟩ hdf
      gi_wp2
      exact tail D _ W (Nat.le_trans hwb.2.size hD) hwb2 hdf
end Go.Proofs.YtbgjanmheagilaaDoor
