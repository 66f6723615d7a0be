/- erase.each: the iterator, walked: each node's number, and whether it stands on top of a type. Conditions: what Check takes. -/
import Derived.RangeFuncNested
import Derived.RangeFuncBound
import Derived.RangeFuncCalls
import Derived.RangeFuncLeaves
import Derived.RangeFuncFrom
import Derived.Shelf.Abstract
import Derived.Shelf.RegionOpen
import Derived.OwnWalkIn
import Derived.TacticsInMore
import Derived.LoopNIn
import Derived.LoopIn
import Derived.Test.YtbgjanmheagilaaGreatDoorEaX
import Derived.Maps.OwnSet
import Derived.Deep.AppendLies
import Derived.StillTailTactics
import Derived.Lib.OwnKind
import Derived.RangeFuncWrites
import Derived.RangeFuncBox
import Derived.Deep.RegionHeld3
set_option linter.unusedVariables false
set_option linter.unusedSimpArgs false
namespace Go.Proofs.YtbgjanmheagilaaGreatDoor
open Go Go.RowKit Go.Nodes Go.Shelf
set_option linter.unusedVariables false
set_option linter.unusedSimpArgs false
attribute [local go_sem] Oper.semAt_some
def enc3 (x : Int × Bool) : Array Value := #[.int .i64 x.1, .bool x.2]
def pres (us : List Bool) (j : Nat) : List (Int × Bool) := (List.range j).map fun (i : Nat) => ((i : Int), us.getD i false)
theorem pres_len (us : List Bool) (j : Nat) : (pres us j).length = j := by simp [pres]
theorem pres_succ (us : List Bool) (j : Nat) : pres us (j + 1) = pres us j ++ [((j : Int), us.getD j false)] := by simp [pres, List.range_succ]
theorem pres_get (us : List Bool) (j k : Nat) (h : k < (pres us j).length) : (pres us j)[k] = ((k : Int), us.getD k false) := by simp [pres]
/-- Only types are on top. -/
def Topped (ns : List Nd) (us : List Bool) : Prop := ∀ i : Nat, us.getD i false = true → typedK (kindAt ns (i : Int)) = true
theorem topped_rep (ns : List Nd) (n : Nat) : Topped ns (List.replicate n false) := fun i h => by
  rw [List.getD, List.getElem?_replicate] at h
  split at h <;> cases h
theorem topped_set {ns : List Nd} {us : List Bool} {z : Nat} {b : Bool} (h : Topped ns us) (hb : b = true → typedK (kindAt ns (z : Int)) = true) : Topped ns (us.set z b) := fun i hi => by
  by_cases e : i = z
  · subst e
    by_cases hl : i < us.length
    · rw [List.getD, List.getElem?_set_self hl] at hi
      exact hb hi
    · rw [List.getD, List.getElem?_eq_none (by simpa using hl)] at hi
      cases hi
  · refine h i ?_
    rw [List.getD, List.getElem?_set_ne (fun h => e h.symm)] at hi
    exact hi
theorem below_grow2 {a w : World} (h : Below a.heap.size a w) : w = grow a (Classical.choose (bout h)) := Classical.choose_spec (bout h)
theorem set_top (w : World) (us : List Bool) (g g2 : Gro) (box : Obj) (k : Nat) (b : Bool) : (grow ((grow (w.alloc (.cells (us.map Value.bool).toArray 4)) g).alloc box) g2).setCell ⟨w.heap.size, k, none⟩ (.bool b) = grow ((grow (w.alloc (.cells ((us.set k b).map Value.bool).toArray 4)) g).alloc box) g2 := by
  rw [used_set, List.setIfInBounds_toArray, List.map_set]
set_option maxRecDepth 100000 in
set_option maxHeartbeats 8000000 in
theorem each1_in (n l Bl : Nat) (J Jx : List (Int × Bool) → World → Prop) (Kp : World → World → Prop) (ns : List Nd) (p : Option Addr) (c : Nat) (w0 : World) (ha : NodesAt w0 p ns) (hs : Small ns) (hsd : Sound ns)
    (hKp : ∀ (A B : World) (b : Nat) (cs : Array Value), w0.heap.size ≤ b → Kp A B → A.heap[b]? = some (.cells cs 4 (0, 0)) → B.heap[b]? = some (.cells cs 4 (0, 0))) (hKb : ∀ (A B : World), Kp A B → Below w0.heap.size A B)
    (hY : ∀ pre x W, J pre W → pre.length < ns.length → x.1 = (pre.length : Int) → (x.2 = true → typedK (kindAt ns x.1) = true) → YieldAt Fence.wide (n - 1) Tryz.prog l (enc3 x) W fun e W' =>
      (e = .returned (.bool true) ∧ J (pre ++ [x]) W' ∧ Kp W W') ∨ (e = .returned (.bool false) ∧ Jx (pre ++ [x]) W'))
    (W : World) (hB : Below w0.heap.size w0 W) (hJ : AbidesFrom W.heap.size J) (hBll : Bl < W.heap.size) (hBl : W.cell? ⟨Bl, 0, none⟩ = some (.slice p ns.length c)) (h0 : J [] W) :
    CallsIn Fence.wide n Tryz.prog 59 #[.func (.yield l) #[] #[], .pointer (some ⟨Bl, 0, none⟩)] W fun e W' => (∃ v, e = .returned v) ∧
      ((∃ ys : List (Int × Bool), (ys.length = ns.length ∧ ∀ (i : Nat) (h : i < ys.length), ys[i].1 = (i : Int) ∧ (ys[i].2 = true → typedK (kindAt ns (i : Int)) = true)) ∧ J ys W') ∨ (∃ pre, Jx pre W')) := by
  obtain ⟨iB, hiB, zB0, zB1, zB2⟩ := info_parts Tryz.infoB
  have hBW : Bl < W.heap.size := hBll
  have Ha : Hid (NodesAt W p ns) := hid (NodesAt.later ha hB)
  have Hs := hid hs
  have Hsd := hid hsd
  obtain ⟨L, hL⟩ : ∃ L, L = ns.length := ⟨_, rfl⟩
  rw [← hL] at hBl hY ⊢
  have hL5 : (L : Int) ≤ 5000 := by have := hs.1; omega
  have HL := hid hL
  have HY := hid hY
  have HJ : Hid (∀ W', Below W.heap.size W W' → J [] W') := hid fun W' hb => hJ [] W W' none h0 ⟨hb.os, hb.tape, hb.output, hb.size, fun n h _ => hb.block n h⟩ (fun r e => by cases e)
  have HB := hid hB
  have HKp := hid hKp
  have HKb := hid hKb
  clear ha hs hsd hL hY hJ h0 hB hKp hKb
  refine callsIn_of_wp Tryz.func59 rfl trivial ?_ rfl
  simp only [Tryz.ntmps59, List.size_toArray, List.length_cons, List.length_nil, Nat.reduceAdd, Nat.reduceSub, Array.replicate_succ, Array.replicate_zero, List.push_toArray, List.append_toArray, List.nil_append, List.cons_append]
  refine (wpIn_wide (n := n)).2 ?_
  go_wp2_with (refine wpList_make_full _ rfl _ _ 69 rfl W.heap.size 4 iB (.bool false) 1 Tryz.underlying69 hiB zB0 zB1 .i64 .i64 _ _ L rfl rfl (by go_num) (by go_num) ?_ ?_ ?_ ?_)
  · rw [zB2]; omega
  · unfold maxLen; omega
  · simp
  intro w1 hO hG
  obtain ⟨g1, rfl⟩ := make_out hO hG (by simp)
  clear hO hG
  have hmade : (madeCells #[Value.bool false] L).toList = (List.replicate L false).map Value.bool := by
    rw [toList_madeCells_one, List.map_replicate]
  rw [hmade]
  clear hmade hiB zB0 zB1 zB2
  go_wp2
  go_loopw [14] (fun iv wr => ∃ (i : Nat) (us : List Bool) (g : Gro), i ≤ L ∧ iv = .int .i64 i ∧ wr = grow (W.alloc (.cells (us.map Value.bool).toArray 4)) g ∧ us.length = L ∧ Hid (Topped ns us)) (fun iv _ => L - (intOf iv).toNat)
  case atStart => exact ⟨0, List.replicate L false, g1, by omega, rfl, by simp, by simp, hid (topped_rep ns L)⟩
  case round =>
    obtain ⟨i, us, g, hn, rfl, rfl, hul, hR⟩ := hrel
    by_cases hlt : i < L
    · have hnx : i < ns.length := by have := HL.out; omega
      obtain ⟨b, o, rfl, hb, hx, hf, c0, c1, c2, c3⟩ := nd_at Ha.out hnx
      have hsm := Hs.out.2 ns[i] (List.getElem_mem hnx)
      have hk := (Hsd.out i ns[i] hx).1
      have i0 : (0 : Int) ≤ (i : Int) := by omega
      have i1 : (i : Int) < (L : Int) := by omega
      obtain ⟨q, hq⟩ : ∃ q, q = ns[i].kids.length := ⟨_, rfl⟩
      have hq1 : (q : Int) ≤ 20000 := by have := hsm.1; omega
      have Hf := hid hf.2.2.2.2.2
      generalize hxx : ns[i] = x at *
      obtain ⟨kind, text, kp, kcap, kids, place⟩ := x
      simp only at hsm c0 c1 c2 c3 hq Hf hk
      rw [← hq] at c2
      have Hq := hid hq
      have Hk := hid hk
      obtain ⟨tx, htx⟩ : ∃ t, typedK kind = t := ⟨_, rfl⟩
      have Hx : Hid (∀ w, Calls Tryz.prog 30 #[.agg #[.int .i64 kind, .string text, .slice kp q kcap, .int .i64 place]] w fun e w' => e = .returned (.bool tx) ∧ Below w.heap.size w w') := hid fun w => by
        have h := typed_any kind text kp q kcap place w
        rw [htx] at h; exact h
      clear hsm hq hf hx hxx hk htx
      go_wp2
      go_loopw [21] (fun iv w2 => ∃ (j : Nat) (us2 : List Bool) (g2 : Gro), j ≤ q ∧ iv = .int .i64 j ∧ us2.length = L ∧ w2 = grow ((grow (W.alloc (.cells (us2.map Value.bool).toArray 4)) g).alloc (.cells #[.int .i64 kind, .string text, .slice kp q kcap, .int .i64 place] 30)) g2 ∧ Hid (Topped ns us2)) (fun iv _ => q - (intOf iv).toNat)
      case atStart =>
        obtain ⟨g0, h0⟩ := bout (Below.refl _ ((grow (W.alloc (.cells (us.map Value.bool).toArray 4)) g).alloc (.cells #[.int .i64 kind, .string text, .slice kp q kcap, .int .i64 place] 30)))
        exact ⟨0, us, g0, by omega, rfl, hul, h0, hR⟩
      case round =>
        obtain ⟨j, us2, g2, hj, rfl, hul2, rfl, hI⟩ := hrel
        by_cases hjq : j < q
        · rcases Hf.out with ix | ⟨bx, ox, hpx, hbx, hcx⟩
          · subst ix; have := Hq.out; simp at this; omega
          subst hpx
          have hjk : j < kids.length := by have := Hq.out; omega
          replace hcx := hcx j hjk
          have hku := Hk.out kids[j] (List.getElem_mem hjk)
          generalize kids[j] = u at *
          obtain ⟨z, rfl⟩ : ∃ z : Nat, u = (z : Int) := ⟨u.toNat, by omega⟩
          have q0 : (0 : Int) ≤ (j : Int) := by omega
          have q1 : (j : Int) < (q : Int) := by omega
          have hzx : z < ns.length := by omega
          have z0 : (0 : Int) ≤ (z : Int) := by omega
          have z2 : (z : Int) < (L : Int) := by omega
          obtain ⟨b3, o3, h3, _, hx3, hf3, d0, d1, d2, d3⟩ := nd_at Ha.out hzx
          cases h3
          have hsd3 := Hsd.out z ns[z] hx3
          have hsm3 := Hs.out.2 ns[z] (List.getElem_mem hzx)
          have HK3 := hid (kindAt_of hx3)
          obtain ⟨q3, hq3⟩ : ∃ q, q = ns[z].kids.length := ⟨_, rfl⟩
          have Hkid3 : Hid (0 < ns[z].kids.length → ∃ bk ok, ns[z].kp = some ⟨bk, ok, none⟩ ∧ bk < W.heap.size ∧ W.cell? ⟨bk, ok + 0, none⟩ = some (.int .i64 (ns[z].kids.getD 0 0))) := hid fun h => kid_at hf3 h
          rw [← hq3] at d2 Hkid3
          have HS3 : Hid ((∀ k ∈ ns[z].kids, 0 ≤ k ∧ k < (z : Int)) ∧ (ns[z].kind = 36 → 0 < q3)) := hid ⟨hsd3.1, by rw [hq3]; exact hsd3.2.2.2⟩
          have hq3b : (q3 : Int) ≤ 20000 := by have := hsm3.1; omega
          have HQ3 := hid hq3
          generalize hx4 : ns[z] = y at *
          obtain ⟨kind3, text3, kp3, kcap3, kids3, place3⟩ := y
          simp only at d0 d1 d2 d3 HK3 Hkid3 HS3 HQ3
          obtain ⟨ty, hty⟩ : ∃ t, typedK kind3 = t := ⟨_, rfl⟩
          have Hy : Hid (∀ w, Calls Tryz.prog 30 #[.agg #[.int .i64 kind3, .string text3, .slice kp3 q3 kcap3, .int .i64 place3]] w fun e w' => e = .returned (.bool ty) ∧ Below w.heap.size w w') := hid fun w => by
            have h := typed_any kind3 text3 kp3 q3 kcap3 place3 w
            rw [hty] at h; exact h
          have HT3 : Hid (ty = true → typedK (kindAt ns (z : Int)) = true) := hid fun h => by rw [HK3.out, hty, h]
          clear hx4 hty hsd3 hsm3 hf3 hx3 hq3 hku
          by_cases hc : kind3 = 36
          · cases tx with
            | true =>
              subst hc
              cases hub : us2.getD z false with
              | true =>
                have hz2 : us2[z]? = some true := by rw [← hub, List.getD, List.getElem?_eq_getElem (by omega)]; rfl
                have Hub := hid hub
                clear hub
                go_wp2_with (first
                  | (go_at_call 30; ((with_reducible refine (Hx.out _).mono ?_); rintro e w' ⟨rfl, hb⟩; obtain ⟨g3, rfl⟩ := bout hb; clear hb))
                  | (go_at_call 30; ((with_reducible refine (Hy.out _).mono ?_); rintro e w' ⟨rfl, hb⟩; obtain ⟨g3, rfl⟩ := bout hb; clear hb)))
                go_roundw
                case rel => exact ⟨j + 1, us2.set z true, _, by omega, by go_num, by simp [hul2], by rw [List.map_set], hid (topped_set hI.out (fun _ => hI.out _ Hub.out))⟩
                case measure => simp [intOf]; omega
              | false =>
                have hz2 : us2[z]? = some false := by rw [← hub, List.getD, List.getElem?_eq_getElem (by omega)]; rfl
                clear hub
                cases ty with
                | false =>
                  go_wp2_with (first
                    | (go_at_call 30; ((with_reducible refine (Hx.out _).mono ?_); rintro e w' ⟨rfl, hb⟩; obtain ⟨g3, rfl⟩ := bout hb; clear hb))
                    | (go_at_call 30; ((with_reducible refine (Hy.out _).mono ?_); rintro e w' ⟨rfl, hb⟩; obtain ⟨g3, rfl⟩ := bout hb; clear hb)))
                  go_roundw
                  case rel => exact ⟨j + 1, us2.set z false, _, by omega, by go_num, by simp [hul2], by rw [List.map_set], hid (topped_set hI.out (fun h => nomatch h))⟩
                  case measure => simp [intOf]; omega
                | true =>
                  go_wp2_with (first
                    | (go_at_call 30; ((with_reducible refine (Hx.out _).mono ?_); rintro e w' ⟨rfl, hb⟩; obtain ⟨g3, rfl⟩ := bout hb; clear hb))
                    | (go_at_call 30; ((with_reducible refine (Hy.out _).mono ?_); rintro e w' ⟨rfl, hb⟩; obtain ⟨g3, rfl⟩ := bout hb; clear hb)))
                  go_roundw
                  case rel => exact ⟨j + 1, us2.set z false, _, by omega, by go_num, by simp [hul2], by rw [List.map_set], hid (topped_set hI.out (fun h => nomatch h))⟩
                  case measure => simp [intOf]; omega
            | false =>
              have hq30 := HS3.out.2 hc
              obtain ⟨bk, ok, rfl, hbk, ck⟩ := Hkid3.out hq30
              have hk5 := HS3.out.1 (kids3.getD 0 0) (by
                have h9 : 0 < kids3.length := by rw [← HQ3.out]; exact hq30
                rw [List.getD, List.getElem?_eq_getElem h9]; exact List.getElem_mem h9)
              generalize kids3.getD 0 0 = v at *
              obtain ⟨y, rfl⟩ : ∃ y : Nat, v = (y : Int) := ⟨v.toNat, by omega⟩
              rw [Nat.add_zero] at ck
              subst hc
              clear Hy HT3
              have hyx : y < ns.length := by omega
              have y0 : (0 : Int) ≤ (y : Int) := by omega
              have y2 : (y : Int) < (L : Int) := by omega
              have q30 : (0 : Int) < (q3 : Int) := by omega
              obtain ⟨b4, o4, h4, _, hx4, hf4, e0, e1, e2, e3⟩ := nd_at Ha.out hyx
              cases h4
              have hsm4 := Hs.out.2 ns[y] (List.getElem_mem hyx)
              have HK4 := hid (kindAt_of hx4)
              obtain ⟨q4, hq4⟩ : ∃ q, q = ns[y].kids.length := ⟨_, rfl⟩
              rw [← hq4] at e2
              generalize ns[y] = yy at *
              obtain ⟨kind4, text4, kp4, kcap4, kids4, place4⟩ := yy
              simp only at e0 e1 e2 e3 HK4
              obtain ⟨ty, hty⟩ : ∃ t, typedK kind4 = t := ⟨_, rfl⟩
              have Hy : Hid (∀ w, Calls Tryz.prog 30 #[.agg #[.int .i64 kind4, .string text4, .slice kp4 q4 kcap4, .int .i64 place4]] w fun e w' => e = .returned (.bool ty) ∧ Below w.heap.size w w') := hid fun w => by
                have h := typed_any kind4 text4 kp4 q4 kcap4 place4 w
                rw [hty] at h; exact h
              have HT3 : Hid (ty = true → typedK (kindAt ns (y : Int)) = true) := hid fun h => by rw [HK4.out, hty, h]
              clear hty hsm4 hf4 hx4 hq4 hk5
              cases hub : us2.getD y false with
              | true =>
                have hz2 : us2[y]? = some true := by rw [← hub, List.getD, List.getElem?_eq_getElem (by omega)]; rfl
                have Hub := hid hub
                clear hub
                go_wp2_with (first
                  | (go_at_call 30; ((with_reducible refine (Hx.out _).mono ?_); rintro e w' ⟨rfl, hb⟩; obtain ⟨g3, rfl⟩ := bout hb; clear hb))
                  | (go_at_call 30; ((with_reducible refine (Hy.out _).mono ?_); rintro e w' ⟨rfl, hb⟩; obtain ⟨g3, rfl⟩ := bout hb; clear hb)))
                go_roundw
                case rel => exact ⟨j + 1, us2.set y true, _, by omega, by go_num, by simp [hul2], by rw [List.map_set], hid (topped_set hI.out (fun _ => hI.out _ Hub.out))⟩
                case measure => simp [intOf]; omega
              | false =>
                have hz2 : us2[y]? = some false := by rw [← hub, List.getD, List.getElem?_eq_getElem (by omega)]; rfl
                clear hub
                cases ty with
                | false =>
                  go_wp2_with (first
                    | (go_at_call 30; ((with_reducible refine (Hx.out _).mono ?_); rintro e w' ⟨rfl, hb⟩; obtain ⟨g3, rfl⟩ := bout hb; clear hb))
                    | (go_at_call 30; ((with_reducible refine (Hy.out _).mono ?_); rintro e w' ⟨rfl, hb⟩; obtain ⟨g3, rfl⟩ := bout hb; clear hb)))
                  go_roundw
                  case rel => exact ⟨j + 1, us2.set y false, _, by omega, by go_num, by simp [hul2], by rw [List.map_set], hid (topped_set hI.out (fun h => nomatch h))⟩
                  case measure => simp [intOf]; omega
                | true =>
                  go_wp2_with (first
                    | (go_at_call 30; ((with_reducible refine (Hx.out _).mono ?_); rintro e w' ⟨rfl, hb⟩; obtain ⟨g3, rfl⟩ := bout hb; clear hb))
                    | (go_at_call 30; ((with_reducible refine (Hy.out _).mono ?_); rintro e w' ⟨rfl, hb⟩; obtain ⟨g3, rfl⟩ := bout hb; clear hb)))
                  go_roundw
                  case rel => exact ⟨j + 1, us2.set y true, _, by omega, by go_num, by simp [hul2], by rw [List.map_set], hid (topped_set hI.out (fun _ => HT3.out (by trivial)))⟩
                  case measure => simp [intOf]; omega
          · have hc1 : (kind3 == 36) = false := by simp [hc]
            clear hc
            cases hub : us2.getD z false with
            | true =>
              have hz2 : us2[z]? = some true := by rw [← hub, List.getD, List.getElem?_eq_getElem (by omega)]; rfl
              have Hub := hid hub
              clear hub
              go_wp2_with (first
                | (go_at_call 30; ((with_reducible refine (Hx.out _).mono ?_); rintro e w' ⟨rfl, hb⟩; obtain ⟨g3, rfl⟩ := bout hb; clear hb))
                | (go_at_call 30; ((with_reducible refine (Hy.out _).mono ?_); rintro e w' ⟨rfl, hb⟩; obtain ⟨g3, rfl⟩ := bout hb; clear hb)))
              go_roundw
              case rel => exact ⟨j + 1, us2.set z true, _, by omega, by go_num, by simp [hul2], by rw [List.map_set], hid (topped_set hI.out (fun _ => hI.out _ Hub.out))⟩
              case measure => simp [intOf]; omega
            | false =>
              have hz2 : us2[z]? = some false := by rw [← hub, List.getD, List.getElem?_eq_getElem (by omega)]; rfl
              clear hub
              cases ty with
              | false =>
                go_wp2_with (first
                  | (go_at_call 30; ((with_reducible refine (Hx.out _).mono ?_); rintro e w' ⟨rfl, hb⟩; obtain ⟨g3, rfl⟩ := bout hb; clear hb))
                  | (go_at_call 30; ((with_reducible refine (Hy.out _).mono ?_); rintro e w' ⟨rfl, hb⟩; obtain ⟨g3, rfl⟩ := bout hb; clear hb)))
                go_roundw
                case rel => exact ⟨j + 1, us2.set z false, _, by omega, by go_num, by simp [hul2], by rw [List.map_set], hid (topped_set hI.out (fun h => nomatch h))⟩
                case measure => simp [intOf]; omega
              | true =>
                cases tx with
                | true =>
                  go_wp2_with (first
                    | (go_at_call 30; ((with_reducible refine (Hx.out _).mono ?_); rintro e w' ⟨rfl, hb⟩; obtain ⟨g3, rfl⟩ := bout hb; clear hb))
                    | (go_at_call 30; ((with_reducible refine (Hy.out _).mono ?_); rintro e w' ⟨rfl, hb⟩; obtain ⟨g3, rfl⟩ := bout hb; clear hb)))
                  go_roundw
                  case rel => exact ⟨j + 1, us2.set z false, _, by omega, by go_num, by simp [hul2], by rw [List.map_set], hid (topped_set hI.out (fun h => nomatch h))⟩
                  case measure => simp [intOf]; omega
                | false =>
                  go_wp2_with (first
                    | (go_at_call 30; ((with_reducible refine (Hx.out _).mono ?_); rintro e w' ⟨rfl, hb⟩; obtain ⟨g3, rfl⟩ := bout hb; clear hb))
                    | (go_at_call 30; ((with_reducible refine (Hy.out _).mono ?_); rintro e w' ⟨rfl, hb⟩; obtain ⟨g3, rfl⟩ := bout hb; clear hb)))
                  go_roundw
                  case rel => exact ⟨j + 1, us2.set z true, _, by omega, by go_num, by simp [hul2], by rw [List.map_set], hid (topped_set hI.out (fun _ => HT3.out (by trivial)))⟩
                  case measure => simp [intOf]; omega
        · obtain rfl : j = q := by omega
          go_wp2
          go_roundw
          case rel => exact ⟨i + 1, us2, _, by omega, by go_num, below_grow2 (by repeat (first | exact Below.refl _ _ | refine bN ?_ _ | refine bD ?_ | refine bG ?_ _ | refine bI ?_ _ _ | refine bA ?_ _)), hul2, hI⟩
          case measure => simp [intOf]; omega
    · obtain rfl : i = L := by omega
      go_wp2
      have hX : Below W.heap.size W (grow (W.alloc (.cells (us.map Value.bool).toArray 4)) g) := by repeat (first | exact Below.refl _ _ | refine bN ?_ _ | refine bD ?_ | refine bG ?_ _ | refine bI ?_ _ _ | refine bA ?_ _)
      have hT : (grow (W.alloc (.cells (us.map Value.bool).toArray 4)) g).heap[W.heap.size]? = some (.cells (us.map Value.bool).toArray 4 (0, 0)) := by
        rw [heap_grow _ _ _ (by simp)]; exact heap_alloc_new _ _
      have hJX := HJ.out _ hX
      have hBX := HB.out.trans (hX.mono HB.out.size)
      generalize grow (W.alloc (.cells (us.map Value.bool).toArray 4)) g = X at *
      have HUL := hid hul
      have HX0 : Hid (w0.heap.size ≤ W.heap.size) := hid HB.out.size
      have HSt : Hid (J [] X ∧ X.heap[W.heap.size]? = some (.cells (us.map Value.bool).toArray 4 (0, 0)) ∧ Below w0.heap.size w0 X) := hid ⟨hJX, hT, hBX⟩
      clear hX hT hJX hBX hul hlt hn
      have hdd : ∀ k : Nat, (Fence.wide.depth.isSome = true → 1 ≤ k) := fun k h => by cases h
      refine (wpIn_wide (n := n)).1 ?_
      gi_loopw [66] (fun iv wr => ∃ j : Nat, j ≤ i ∧ iv = .int .i64 (j : Int) ∧ Hid (J (pres us j) wr ∧ wr.heap[W.heap.size]? = some (.cells (us.map Value.bool).toArray 4 (0, 0)) ∧ Below w0.heap.size w0 wr)) (fun iv _ => i - (intOf iv).toNat)
      case atStart => exact ⟨0, Nat.zero_le _, rfl, HSt⟩
      case round =>
        obtain ⟨j, hj, rfl, hI⟩ := hrel
        by_cases hji : j < i
        · have j0 : (0 : Int) ≤ (j : Int) := by omega
          have j1 : (j : Int) < (i : Int) := by omega
          obtain ⟨bv, hbv⟩ : ∃ b, us.getD j false = b := ⟨_, rfl⟩
          have hcell : wr.cell? ⟨W.heap.size, j, none⟩ = some (.bool bv) := by
            have h1 : j < us.length := by have := HUL.out; omega
            rw [List.getD, List.getElem?_eq_getElem h1] at hbv
            simp only [Option.getD_some] at hbv
            simp [World.cell?, hI.out.2.1, h1, hbv]
          have hp := pres_succ us j
          rw [hbv] at hp
          have Hp := hid hp
          have hy0 := HY.out (pres us j) ((j : Int), bv) wr hI.out.1 (by rw [pres_len]; exact hji) (by rw [pres_len]) (fun h => hR.out j (hbv.trans h))
          rw [← hp] at hy0
          obtain ⟨fn, tmps, assign, body, hy, hR2⟩ := hy0
          dsimp only [enc3] at hy
          have HR2 := hid hR2
          clear hp hbv hR2
          gi_wp2_with ((try refine ⟨hdd _, ?_⟩); refine HR2.out.mono ?_; clear HR2; rintro e W2 (⟨rfl, hJ2, hk2⟩ | ⟨rfl, hx2⟩))
          · refine ⟨⟨j + 1, by omega, by go_num, hid ⟨hJ2, HKp.out _ _ _ _ HX0.out hk2 hI.out.2.1, hI.out.2.2.trans ((HKb.out _ _ hk2).mono (Nat.le_refl _))⟩⟩, by simp [intOf]; omega⟩
          · exact ⟨rfl, _, results_none rfl _ _ _, ⟨_, rfl⟩, .inr ⟨_, hx2⟩⟩
        · obtain rfl : j = i := by omega
          gi_wp2
          go_end0
          refine ⟨⟨_, rfl⟩, .inl ⟨pres us j, ⟨pres_len _ _, fun k hk => ?_⟩, hI.out.1⟩⟩
          rw [pres_get]
          exact ⟨rfl, fun h => hR.out k h⟩
end Go.Proofs.YtbgjanmheagilaaGreatDoor

/- erase's put, walked: a node is laid. Conditions: what lies in the box. -/
namespace Go.Proofs.YtbgjanmheagilaaGreatDoor
open Go Go.RowKit Go.Nodes Go.WideMaps Go.Maps Go.ChangeShapes
set_option linter.unusedVariables false
set_option linter.unusedSimpArgs false
theorem klaw : Keyed Tryz.prog 3 := int_keyed Tryz.underlying3
theorem Tryz.infoN : (Tryz.prog.info? 30).map (fun i => (i.zero, i.size, i.bytes)) = some (some (.agg #[.int .i64 0, .string ⟨#[]⟩, .slice none 0 0, .int .i64 0]), 4, 56) := by kernel_rfl
abbrev MapOwn (w : World) (b n : Nat) (D : DataW Unit) : Prop := w.ownsMap Tryz.prog 3 (plainElem Tryz.prog 3) b n D
/-- All cells but boxes of what is laid and rows of nodes stay, and all else but the map. -/
structure KeepT (Mb : Nat) (A B : World) : Prop where
  cells : ∀ (b : Nat) (cs : Array Value) (t : Nat), t ≠ 53 → t ≠ 30 → A.heap[b]? = some (.cells cs t (0, 0)) → B.heap[b]? = some (.cells cs t (0, 0))
  objs : ∀ (b : Nat) (o : Obj), b ≠ Mb → o.isCells = false → A.heap[b]? = some o → B.heap[b]? = some o
theorem KeepT.trans {Mb : Nat} {A B C : World} (h : KeepT Mb A B) (k : KeepT Mb B C) : KeepT Mb A C :=
  ⟨fun b cs t t1 t2 h1 => k.cells b cs t t1 t2 (h.cells b cs t t1 t2 h1), fun b o hb ho h1 => k.objs b o hb ho (h.objs b o hb ho h1)⟩
/-- What erase lays: the map, the nodes' row, the box of both. -/
structure Laid (B Pb Mb : Nat) (w : World) (xs : List Value) (m N : Nat) : Prop where
  box : ∃ v, w.heap[Pb]? = some (.cells #[.map (some Mb), v] 53 (0, 0)) ∧ w.ownsRow B 30 4 v m xs
  map : ∃ n D, n ≤ N ∧ MapOwn w Mb n D
  pb : B ≤ Pb
  mb : B ≤ Mb
theorem below_gb {w w' : World} (hb : Below w.heap.size w w') : w.grownBy w' none := ⟨hb.os, hb.tape, hb.output, hb.size, fun n h _ => hb.block n h⟩
theorem cells_set {w : World} {b : Nat} {cs : Array Value} {t : TypeId} (h : w.heap[b]? = some (.cells cs t (0, 0))) (i : Nat) (u : Value) : (w.setCell ⟨b, i, none⟩ u).heap[b]? = some (.cells (cs.setIfInBounds i u) t (0, 0)) := by
  have hlt := (Array.getElem?_eq_some_iff.1 h).1
  have h' : w.heap[b] = .cells cs t (0, 0) := by simpa [Array.getElem?_eq_getElem hlt] using h
  show (w.heap.modify b _)[b]? = _
  rw [Array.getElem?_eq_getElem (by simpa using hlt), Array.getElem_modify_self, h']
  rfl

theorem put_fin {B Pb Mb : Nat} {w w6 w7 : World} {xs : List Value} {m N cn : Nat} {D : DataW Unit} {po : Option Addr} {co gg cap : Nat} {cs : Array Value} {ys : List Value}
    (hP6 : w6.heap[Pb]? = some (.cells #[.map (some Mb), .slice po m co] 53 (0, 0))) (hM6 : MapOwn w6 Mb (cn + 1) D) (hcn : cn ≤ N) (hPB : B ≤ Pb) (hMB : B ≤ Mb)
    (hb6 : Below B w w6) (hkt6 : KeepT Mb w w6) (hO6 : w6.ownsRow B 30 4 (.slice po m co) m xs)
    (hgrow0 : (w6.alloc (.cells cs 30 (0, 0))).drew.grownBy w7 (Value.slice po m co).ownBlock)
    (hown7 : w7.ownsRow B 30 4 (.slice (some ⟨gg, 0, none⟩) (m + 1) cap) (m + 1) (xs ++ ys))
    (hat : (Value.slice po m co).ownBlock = some gg ∨ gg = w6.heap.size + 1) :
    Laid B Pb Mb (w7.setCell ⟨Pb, 1, none⟩ (.slice (some ⟨gg, 0, none⟩) (m + 1) cap)) (xs ++ ys) (m + 1) (N + 1) ∧ Below B w (w7.setCell ⟨Pb, 1, none⟩ (.slice (some ⟨gg, 0, none⟩) (m + 1) cap)) ∧ KeepT Mb w (w7.setCell ⟨Pb, 1, none⟩ (.slice (some ⟨gg, 0, none⟩) (m + 1) cap)) := by
  have hgrow : (w6.alloc (.cells cs 30 (0, 0))).grownBy w7 (Value.slice po m co).ownBlock := ⟨hgrow0.os, hgrow0.tape, hgrow0.output, hgrow0.size, hgrow0.block⟩
  have hPl : Pb < w6.heap.size := (Array.getElem?_eq_some_iff.1 hP6).1
  obtain ⟨es, clk, hMh, _⟩ := id hM6
  have hMl : Mb < w6.heap.size := (Array.getElem?_eq_some_iff.1 hMh).1
  have hB6 : B ≤ w6.heap.size := by omega
  have kind := Lib.ownsRow_kind hO6
  have hrowM : (Value.slice po m co).ownBlock ≠ some Mb := fun e => by
    obtain ⟨c, fz, hh⟩ := kind _ e
    rw [hMh] at hh; cases hh
  have hrowP : (Value.slice po m co).ownBlock ≠ some Pb := fun e => by
    obtain ⟨c, fz, hh⟩ := kind _ e
    rw [hP6] at hh; cases hh
  have hrowB : ∀ g, (Value.slice po m co).ownBlock = some g → B ≤ g := fun g hg => by
    rcases hO6.2 with ⟨e1, _⟩ | ⟨g', c', _, e1, hle, _⟩
    · rw [e1] at hg; cases hg
    · rw [e1] at hg; cases hg; exact hle
  have hb7 : Below B w w7 := Below.grown (hb6.alloc hB6 _) hgrow (by simp; omega) hrowB
  have hP7 : w7.heap[Pb]? = some (.cells #[.map (some Mb), .slice po m co] 53 (0, 0)) := by
    rw [hgrow.block Pb (by simp; omega) (fun e => hrowP e.symm), Below.heap_alloc _ _ _ hPl]; exact hP6
  have hgP : gg ≠ Pb := by
    rcases hat with h | h
    · intro e; subst e; exact hrowP h
    · omega
  refine ⟨⟨⟨_, cells_set hP7 1 _, ownsRow_setCell_other hown7 (by simp [Value.ownBlock]; exact hgP) _⟩, ⟨cn + 1, D, by omega, ?_⟩, hPB, hMB⟩, hb7.setCell (p := ⟨Pb, 1, none⟩) hPB _, ?_⟩
  · have h7 : MapOwn w7 Mb (cn + 1) D := (hM6.alloc _).kept hgrow (fun e => hrowM e.symm)
    exact h7.setCell (a := ⟨Pb, 1, none⟩) (fun e => by simp at e; subst e; rw [hP6] at hMh; cases hMh) _
  · refine ⟨fun b cs' t t1 t2 h => ?_, fun b o hbM ho h => ?_⟩
    rotate_left
    · have h6 := hkt6.objs b o hbM ho h
      have hl6 : b < w6.heap.size := (Array.getElem?_eq_some_iff.1 h6).1
      have hbP : b ≠ Pb := fun e => by subst e; rw [hP6] at h6; cases h6; cases ho
      rw [Below.heap_setCell _ _ _ _ hbP, hgrow.block b (by simp; omega) (fun e => by obtain ⟨c, fz, hh⟩ := kind _ e.symm; rw [h6] at hh; cases hh; cases ho), Below.heap_alloc _ _ _ hl6]
      exact h6
    have h6 := hkt6.cells b cs' t t1 t2 h
    have hl6 : b < w6.heap.size := (Array.getElem?_eq_some_iff.1 h6).1
    have hbP : b ≠ Pb := fun e => by subst e; rw [hP6] at h6; injection h6 with h6; injection h6 with _ h6; exact t1 h6.symm
    rw [Below.heap_setCell _ _ _ _ hbP, hgrow.block b (by simp; omega) (fun e => by obtain ⟨c, fz, hh⟩ := kind _ e.symm; rw [h6] at hh; injection hh with hh; injection hh with _ hh; exact t2 hh), Below.heap_alloc _ _ _ hl6]
    exact h6
set_option maxRecDepth 100000 in
set_option maxHeartbeats 4000000 in
theorem put_any (B Pb Mb : Nat) (xs : List Value) (m N : Nat) (hm : m ≤ 100000) (hN : N ≤ 100000) (kind : Int) (text : ByteArray) (kp : Option Addr) (kcap : Nat) (place : Int) (kids : List Int) (hki : ∀ k ∈ kids, i64 k) (hkl : kids.length ≤ 20000)
    (w : World) (ha : IntsAt w kp kids) (key : Int) (hky : i64 key) (hL : Laid B Pb Mb w xs m N) :
    Calls Tryz.prog 29 #[.pointer (some ⟨Pb, 0, none⟩), .int .i64 key, .agg #[.int .i64 kind, .string text, .slice kp kids.length kcap, .int .i64 place]] w fun e w' => e = .returned (.tuple #[]) ∧
      (∃ kp' q' c', Laid B Pb Mb w' (xs ++ [.int .i64 kind, .string text, .slice kp' q' c', .int .i64 place]) (m + 1) (N + 1)) ∧ Below B w w' ∧ KeepT Mb w w' := by
  obtain ⟨⟨ov, hP, hO⟩, ⟨cn, D, hcn, hM⟩, hPB, hMB⟩ := hL
  have hPl : Pb < w.heap.size := (Array.getElem?_eq_some_iff.1 hP).1
  have HP := hid hP
  have HO := hid hO
  have HM := hid hM
  have Ha := hid ha
  obtain ⟨q, hq⟩ : ∃ q, q = kids.length := ⟨_, rfl⟩
  rw [← hq] at hkl ⊢
  have hq1 : (q : Int) ≤ 20000 := by omega
  have Hq := hid hq
  have Hki := hid hki
  clear hP hO hM ha hq hki
  go_enter Tryz.func29, Tryz.ntmps29
  go_wp2
  go_loopw [6, 14] (fun kv iv wr => ∃ (j : Nat) (l : List Int), j ≤ q ∧ iv = .int .i64 j ∧ Hid (l.length ≤ j ∧ Ints (w.heap.size + 1) wr kv l ∧ Below w.heap.size w wr ∧ wr.heap[w.heap.size]? = some (.cells #[.int .i64 kind, .string text, .slice kp q kcap, .int .i64 place] 30 (0, 0)))) (fun _ iv _ => q - (intOf iv).toNat)
  case atStart => exact ⟨0, [], Nat.zero_le _, rfl, hid ⟨Nat.le_refl _, ⟨by simp, .inl ⟨rfl, by simp⟩⟩, bA (Below.refl _ _) _, heap_alloc_new _ _⟩⟩
  case round =>
    obtain ⟨j, l, hj, rfl, hI⟩ := hrel
    have hPw : wr.heap[Pb]? = some (.cells #[.map (some Mb), ov] 53 (0, 0)) := by rw [hI.out.2.2.1.block Pb hPl]; exact HP.out
    have cP0 : wr.cell? ⟨Pb, 0, none⟩ = some (.map (some Mb)) := by simp [World.cell?, hPw]
    have cP1 : wr.cell? ⟨Pb, 1, none⟩ = some ov := by simp [World.cell?, hPw]
    have hown : MapOwn wr Mb cn D := HM.out.kept (below_gb hI.out.2.2.1) (by simp)
    have hX := hI.out.2.2.2
    have hXl : w.heap.size < wr.heap.size := (Array.getElem?_eq_some_iff.1 hX).1
    by_cases hjq : j < q
    · have hjk : j < kids.length := by have := Hq.out; omega
      rcases Ha.out with ix | ⟨bk, ok, rfl, hbk, hc⟩
      · subst ix; simp at hjk
      have ck := cell_later hI.out.2.2.1 (hc j hjk)
      have hu := Hki.out kids[j] (List.getElem_mem hjk)
      generalize kids[j] = u at *
      have j0 : (0 : Int) ≤ (j : Int) := by omega
      have j1 : (j : Int) < (q : Int) := by omega
      have hkey := keyOf_int_mk (P := Tryz.prog) (k := 3) Tryz.underlying3 (show (Lit.int .i64 u).wf = true from WalkArith.wf_i64 hu)
      clear hc
      cases hh : Maps.has D (.int .i64 u) with
      | true =>
        go_wp2_with (first
          | (at_lookup; refine wpList_lookup_own_ok_int _ rfl _ _ 51 rfl 3 3 .i64 klaw Tryz.underlying51 Tryz.underlying3 (zero3 _) Mb cn D rfl hown _ _ rfl hkey ?_; intro c hat hwc; rw [hh])
          | (at_builtin; go_loud (refine wpList_append_int rfl _ _ rfl (w.heap.size + 1) u6 l c wr.heap.size 1 rfl ?aown rfl ?acell ?alen ?abase ?arest)))
        case aown => exact own_below hI.out.2.1 (bA (Below.refl _ _) _)
        case acell => simp [go_sem]
        case alen => have := hI.out.1; omega
        case abase => simp; omega
        case arest =>
          intro v' w4 h1 h2 h3
          have hrow : ∀ g, u6.ownBlock = some g → w.heap.size + 1 ≤ g := fun g hg => hI.out.2.1.2.elim (fun h => by rw [h.1] at hg; cases hg) fun ⟨g', _, _, e, hle, _⟩ => by rw [e] at hg; cases hg; exact hle
          have hb4 : Below w.heap.size w w4 := Below.grown (bA hI.out.2.2.1 _) h2 (by simp; omega) fun g hg => by have := hrow g hg; omega
          have hX4 : w4.heap[w.heap.size]? = some (.cells #[.int .i64 kind, .string text, .slice (some ⟨bk, ok, none⟩) q kcap, .int .i64 place] 30 (0, 0)) := by
            rw [h2.block w.heap.size (by simp; omega) (fun e => by have := hrow _ e.symm; omega), Below.heap_alloc _ _ _ hXl]; exact hX
          have HI4 := hid (show (l ++ [c]).length ≤ j + 1 ∧ Ints (w.heap.size + 1) w4 v' (l ++ [c]) ∧ Below w.heap.size w w4 ∧ w4.heap[w.heap.size]? = some (.cells #[.int .i64 kind, .string text, .slice (some ⟨bk, ok, none⟩) q kcap, .int .i64 place] 30 (0, 0)) from ⟨by have := hI.out.1; simp; omega, h1, hb4, hX4⟩)
          clear hrow hb4 hX4 h1 h2 h3 hPw cP0 cP1 hown hX hXl ck hkey hh hat hwc
          go_wp2
          go_roundw
          case rel => exact ⟨j + 1, l ++ [c], by omega, by go_num, HI4⟩
          case measure => simp [intOf]; omega
      | false =>
        go_wp2_with (at_lookup; refine wpList_lookup_own_ok_int _ rfl _ _ 51 rfl 3 3 .i64 klaw Tryz.underlying51 Tryz.underlying3 (zero3 _) Mb cn D rfl hown _ _ rfl hkey ?_; intro c hat hwc; rw [hh])
        go_roundw
        case rel => exact ⟨j + 1, l, by omega, by go_num, hid ⟨by have := hI.out.1; omega, hI.out.2⟩⟩
        case measure => simp [intOf]; omega
    · obtain rfl : j = q := by omega
      obtain ⟨pk, ck, hkv, _⟩ := hI.out.2.1.out
      obtain ⟨po, co, hov⟩ : ∃ po co, ov = .slice po m co := by
        rcases HO.out.2 with ⟨e1, e2⟩ | ⟨g, cap, cur, e1, _⟩
        · exact ⟨none, 0, by rw [e1, e2]⟩
        · exact ⟨_, _, e1⟩
      obtain ⟨lk, hlk⟩ : ∃ n, n = l.length := ⟨_, rfl⟩
      rw [← hlk] at hkv
      subst hkv hov
      have cX2 : wr.cell? ⟨w.heap.size, 2, none⟩ = some (.slice kp j kcap) := by simp [World.cell?, hX]
      have fX2 : wr.frozen? ⟨w.heap.size, 2, none⟩ = false := by simp [World.frozen?, hX]
      have hMl : Mb < w.heap.size := HM.out.lt
      clear cP0 cP1
      obtain ⟨w5, hw5⟩ : ∃ w5, wr.setCell ⟨w.heap.size, 2, none⟩ (.slice pk lk ck) = w5 := ⟨_, rfl⟩
      have hX5 : w5.heap[w.heap.size]? = some (.cells #[.int .i64 kind, .string text, .slice pk lk ck, .int .i64 place] 30 (0, 0)) := by
        rw [← hw5]; exact cells_set hX 2 _
      have hb5 : Below w.heap.size w w5 := by
        rw [← hw5]; exact hI.out.2.2.1.setCell (p := ⟨w.heap.size, 2, none⟩) (Nat.le_refl _) _
      have hP5 : w5.heap[Pb]? = some (.cells #[.map (some Mb), .slice po m co] 53 (0, 0)) := by rw [hb5.block Pb hPl]; exact HP.out
      have hM5 : MapOwn w5 Mb cn D := HM.out.kept (below_gb hb5) (by simp)
      have cP0 : w5.cell? ⟨Pb, 0, none⟩ = some (.map (some Mb)) := by simp [World.cell?, hP5]
      have cP1 : w5.cell? ⟨Pb, 1, none⟩ = some (.slice po m co) := by simp [World.cell?, hP5]
      have hkey := keyOf_int_mk (P := Tryz.prog) (k := 3) Tryz.underlying3 (show (Lit.int .i64 key).wf = true from WalkArith.wf_i64 hky)
      have hm0 : (Lit.int .i64 (m : Int)).wf = true := WalkArith.wf_i64 (by omega)
      go_wp2
      rw [show wr.setCell { block := w.heap.size, off := 2 } (Value.slice pk l.length ck) = w5 from by rw [← hlk]; exact hw5]
      go_still_tail 10, (by kernel_rfl)
      go_wp2_with (at_mapUpdate; refine wpList_mapUpdate_own _ rfl _ _ _ 51 rfl 3 3 klaw Tryz.underlying51 _ Mb cn D rfl hM5.drew (by unfold maxLen; omega) _ _ _ rfl rfl hkey _ [] (plainElem_int Tryz.underlying3 hm0) ?_)
      intro w6 hM6 hg6
      have hsz5 : w.heap.size ≤ w5.heap.size := hb5.size
      have hb6 : Below B w w6 := Below.grown (hb5.mono (by omega)).drew hg6 (by simp; omega) (fun k e => by cases e; exact hMB)
      obtain ⟨es, clk, hMh, _⟩ := HM.out
      have hPM : Pb ≠ Mb := fun e => by subst e; rw [HP.out] at hMh; cases hMh
      have hX5l : w.heap.size < w5.heap.size := (Array.getElem?_eq_some_iff.1 hX5).1
      have hP6 : w6.heap[Pb]? = some (.cells #[.map (some Mb), .slice po m co] 53 (0, 0)) := by rw [hg6.block Pb (by simp; omega) (by simpa using hPM)]; exact hP5
      have hX6 : w6.heap[w.heap.size]? = some (.cells #[.int .i64 kind, .string text, .slice pk l.length ck, .int .i64 place] 30 (0, 0)) := by
        rw [hg6.block w.heap.size (by simp; omega) (by simp; omega), ← hlk]; exact hX5
      have hrowlt : ∀ g, (Value.slice po m co).ownBlock = some g → g < w.heap.size := fun g hg => by
        obtain ⟨c, fz, hh⟩ := Lib.ownsRow_kind HO.out g hg
        exact (Array.getElem?_eq_some_iff.1 hh).1
      have hrowM : (Value.slice po m co).ownBlock ≠ some Mb := fun e => by
        obtain ⟨c, fz, hh⟩ := Lib.ownsRow_kind HO.out _ e
        rw [hMh] at hh; cases hh
      have hrowP : (Value.slice po m co).ownBlock ≠ some Pb := fun e => by
        obtain ⟨c, fz, hh⟩ := Lib.ownsRow_kind HO.out _ e
        rw [HP.out] at hh; cases hh
      have hO6 : w6.ownsRow B 30 4 (.slice po m co) m xs := (own_below HO.out hb5).drew.kept hg6 (.inr hrowM)
      have hkt6 : KeepT Mb w w6 := by
        refine ⟨fun b cs t t1 t2 h => ?_, fun b o hbM ho h => ?_⟩
        · have hlt := (Array.getElem?_eq_some_iff.1 h).1
          rw [hg6.block b (by simp; omega) (by intro e; simp at e; subst e; rw [h] at hMh; cases hMh)]
          show w5.heap[b]? = _
          rw [hb5.block b hlt]; exact h
        · have hlt := (Array.getElem?_eq_some_iff.1 h).1
          rw [hg6.block b (by simp; omega) (by simpa using hbM)]
          show w5.heap[b]? = _
          rw [hb5.block b hlt]; exact h
      have hs6 : w5.heap.size ≤ w6.heap.size := hg6.size
      have cP0 : w6.cell? ⟨Pb, 0, none⟩ = some (.map (some Mb)) := by simp [World.cell?, hP6]
      have cP1 : w6.cell? ⟨Pb, 1, none⟩ = some (.slice po m co) := by simp [World.cell?, hP6]
      have fP1 : w6.frozen? ⟨Pb, 1, none⟩ = false := by simp [World.frozen?, hP6]
      have hfz : ∀ cs t, (w6.alloc (.cells cs t (0, 0))).drew.frozen? ⟨Pb, 1, none⟩ = false := fun cs t => (Go.RowKit.frozen?_alloc_cells w6 cs t _).trans fP1
      have hP6l : Pb < w6.heap.size := (Array.getElem?_eq_some_iff.1 hP6).1
      have hfc : ∀ cs t, (w6.alloc (.cells cs t (0, 0))).drew.cell? ⟨Pb, 1, none⟩ = some (.slice po m co) := fun cs t => (World.cell?_of_block (Below.heap_alloc w6 _ _ hP6l)).trans cP1
      have cX0 : w6.cell? ⟨w.heap.size, 0, none⟩ = some (.int .i64 kind) := by simp [World.cell?, hX6]
      have cX1 : w6.cell? ⟨w.heap.size, 1, none⟩ = some (.string text) := by simp [World.cell?, hX6]
      have cX2 : w6.cell? ⟨w.heap.size, 2, none⟩ = some (.slice pk l.length ck) := by simp [World.cell?, hX6]
      have cX3 : w6.cell? ⟨w.heap.size, 3, none⟩ = some (.int .i64 place) := by simp [World.cell?, hX6]
      obtain ⟨i0, hi0, hz0, hz1, hz2⟩ := info_parts Tryz.infoN
      clear hw5 hP5 hM5 hI hX fX2 hPw hown
      go_wp2
      go_region_law
        ((refine step_append_lies _ (by rfl) _ _ _ (by rfl) B 30 i0 _ 4 56 Tryz.underlying22 hi0 hz0 hz1 hz2 rfl (by omega) (.slice po m co) m xs (by rfl) (by first | exact (hO6.alloc _).drew | exact hO6.drew.alloc _)
              ⟨w6.heap.size, 0, none⟩ 1 1 [.int .i64 kind, .string text, .slice pk l.length ck, .int .i64 place] (by rfl) (by rfl) (World.news_of_block (cs := #[.int .i64 kind, .string text, .slice pk l.length ck, .int .i64 place]) (t := 30) (fr := (0, 0)) (heap_alloc_new _ _)) (by simp [Value.oneCell'])
              (by omega) (by unfold maxLen; omega) (by omega) (by simp; omega) (w6.heap.size + 1) (by simp) ?_; intro gg cap w7 hown7 hgrow hat hlt; have c7 : w7.cell? ⟨Pb, 1, none⟩ = some (.slice po m co) := (hgrow.cell_far ⟨Pb, 1, none⟩ (by simp; omega) (by simpa using Ne.symm hrowP)).trans (hfc _ _); have f7 : w7.frozen? ⟨Pb, 1, none⟩ = false := (hgrow.frozen_far ⟨Pb, 1, none⟩ (by simp; omega) (by simpa using Ne.symm hrowP)).trans (hfz _ _)))
      all_goals (go_wp2; go_end0; obtain ⟨h1, h2, h3⟩ := put_fin hP6 hM6 hcn hPB hMB hb6 hkt6 hO6 hgrow hown7 hat; exact ⟨rfl, ⟨_, _, _, h1⟩, h2, h3⟩)
end Go.Proofs.YtbgjanmheagilaaGreatDoor
