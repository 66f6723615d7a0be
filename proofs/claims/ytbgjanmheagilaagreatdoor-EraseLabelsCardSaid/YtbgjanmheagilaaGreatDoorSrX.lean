/- few nodes, walked. Conditions: none. -/
import Derived.Test.YtbgjanmheagilaaGreatDoorNodes
import Derived.Test.YtbgjanmheagilaaGreatDoorBase
import Derived.Test.YtbgjanmheagilaaGreatDoorProg
import Derived.Outline
import Derived.Deep.QuietTactic
import Derived.BigQuiet
set_option linter.unusedVariables false
set_option linter.unusedSimpArgs false
namespace Go.Proofs.YtbgjanmheagilaaGreatDoor
open Go Go.RowKit Go.Nodes
set_option linter.unusedVariables false
set_option linter.unusedSimpArgs false
/-- What few counts. -/
def fewS : List Nd → Int → Bool
  | [], _ => true
  | x :: l, n => if 8000 < wrap64 (n + wrap64 (wrap64 (4 + (x.kids.length : Int)) + (x.text.size : Int))) then false else fewS l (wrap64 (n + wrap64 (wrap64 (4 + (x.kids.length : Int)) + (x.text.size : Int))))
theorem fewS_drop (ns : List Nd) (k : Nat) (hk : k < ns.length) (m : Int) : fewS (ns.drop k) m = if 8000 < wrap64 (m + wrap64 (wrap64 (4 + (ns[k].kids.length : Int)) + (ns[k].text.size : Int))) then false else fewS (ns.drop (k + 1)) (wrap64 (m + wrap64 (wrap64 (4 + (ns[k].kids.length : Int)) + (ns[k].text.size : Int)))) := by
  rw [List.drop_eq_getElem_cons hk]; rfl
set_option maxHeartbeats 800000 in
theorem few_any (p : Option Addr) (cap : Nat) (ns : List Nd) (w : World) (hw : NodesAt w p ns) :
    Calls Tryz.prog 9 #[.slice p ns.length cap] w fun e w' => e = .returned (.bool (fewS ns 0)) ∧ Below w.heap.size w w' := by
  have Hw := hid hw
  clear hw
  go_enter Tryz.func9, Tryz.ntmps9
  go_wp2
  go_loopw [3, 8] (fun nv iv wr => ∃ (k : Nat) (m : Int), k ≤ ns.length ∧ iv = .int .i64 k ∧ nv = .int .i64 m ∧ Below w.heap.size w wr ∧ Hid (fewS (ns.drop k) m = fewS ns 0)) (fun _ iv _ => ns.length - (intOf iv).toNat)
  case atStart => exact ⟨0, 0, by omega, rfl, rfl, Below.refl _ _, rfl⟩
  case round =>
    obtain ⟨k, m, hk, rfl, rfl, hB, hR⟩ := hrel
    by_cases hlt : k < ns.length
    · have h0 := Hw.out.2.2
      rcases h0 with h0 | ⟨b, o, hp, hb, hc⟩
      · subst h0; simp at hlt
      subst hp
      replace hc := hc k hlt
      have hf := Hw.out.2.1 ns[k] (List.getElem_mem hlt)
      have hln := Hw.out.1
      have hd := fewS_drop ns k hlt m
      generalize ns[k] = x at *
      obtain ⟨kind, text, kp, kcap, kids, place⟩ := x
      simp only at hc hd
      obtain ⟨_, _, hts, hks, _, _⟩ := hf
      simp only at hts hks
      have c0 := cell_later hB hc.1
      have c1 := cell_later hB hc.2.1
      have c2 := cell_later hB hc.2.2.1
      have c3 := cell_later hB hc.2.2.2
      have hk0 : (0 : Int) ≤ (k : Int) := by omega
      have hk1 : (k : Int) < (ns.length : Int) := by omega
      unfold maxLen at hts hks hln
      rw [hR.out] at hd
      have HB := hid hB
      clear hB hc hR
      generalize hz : wrap64 (m + wrap64 (wrap64 (4 + (kids.length : Int)) + (text.size : Int))) = z at *
      have Hz := hid hz
      have Hd := hid hd
      clear hz hd
      go_wp2
      · rename_i h
        rw [Hz.out] at h
        have hd := Hd.out
        rw [if_pos h] at hd
        go_ret
        exact ⟨by rw [hd]; rfl, bA HB.out _⟩
      · rename_i h
        rw [Hz.out] at h
        have hd := Hd.out
        rw [if_neg (by simpa using h)] at hd
        go_roundw
        case rel => exact ⟨k + 1, _, by omega, by go_num, by rw [Hz.out], bA HB.out _, hd.symm⟩
        case measure => simp [intOf]; omega
    · obtain rfl : k = ns.length := by omega
      have hd := hR.out
      rw [List.drop_length] at hd
      go_wp2
      go_ret
      exact ⟨by rw [← hd]; rfl, hB⟩
end Go.Proofs.YtbgjanmheagilaaGreatDoor

/- The reference's Same, walked. Conditions: none. -/
namespace Go.Proofs.YtbgjanmheagilaaGreatDoor
open Go Go.RowKit Go.Nodes Go.WideShapes
set_option linter.unusedVariables false
set_option linter.unusedSimpArgs false
/-- Nodes alike, but for places. -/
def alike (x y : Nd) : Prop := x.kind = y.kind ∧ x.text = y.text ∧ x.kids = y.kids
def SameS (a b : List Nd) : Prop := a.length = b.length ∧ ∀ (i : Nat) (x y : Nd), a[i]? = some x → b[i]? = some y → alike x y
noncomputable def sameB (a b : List Nd) : Bool := @decide (SameS a b) (Classical.propDecidable _)
theorem sameB_yes {a b : List Nd} (h : SameS a b) : Value.bool (sameB a b) = .bool true := by unfold sameB; congr 1; exact @decide_eq_true _ (Classical.propDecidable _) h
theorem sameB_no {a b : List Nd} (h : ¬ SameS a b) : Value.bool (sameB a b) = .bool false := by unfold sameB; congr 1; exact @decide_eq_false _ (Classical.propDecidable _) h
set_option maxHeartbeats 4000000 in
theorem rsame_any (p q : Option Addr) (c d : Nat) (xs ys : List Nd) (w : World) (ha : NodesAt w p xs) (hb : NodesAt w q ys) :
    Calls Tryz.prog 32 #[.slice p xs.length c, .slice q ys.length d] w fun e w' => e = .returned (.bool (sameB xs ys)) ∧ Below w.heap.size w w' := by
  by_cases hl : xs.length = ys.length
  · have Ha := hid ha
    have Hb := hid hb
    clear ha hb
    obtain ⟨n, hn⟩ : ∃ n, n = xs.length := ⟨_, rfl⟩
    have hn2 : ys.length = n := by omega
    rw [hn2, ← hn]
    have Hn := hid hn
    have Hn2 := hid hn2
    have hnm : (n : Int) ≤ 9223372036854775807 := by have := Ha.out.1; unfold maxLen at this; omega
    clear hn hn2 hl
    go_enter Tryz.func32, Tryz.ntmps32
    go_wp2
    go_loopw [14] (fun i wr => ∃ k : Nat, k ≤ n ∧ i = .int .i64 k ∧ Below w.heap.size w wr ∧ Hid (∀ (j : Nat) (x y : Nd), j < k → xs[j]? = some x → ys[j]? = some y → alike x y)) (fun i _ => n - (intOf i).toNat)
    case atStart => exact ⟨0, by omega, rfl, by repeat (first | exact Below.refl _ _ | refine bG ?_ _ | refine bI ?_ _ _ | refine bA ?_ _ | refine bN ?_ _), fun j x y h => by omega⟩
    case round =>
      obtain ⟨k, hk, rfl, hB, hR⟩ := hrel
      by_cases hlt : k < n
      · have hx := Ha.out.2.2
        have hy := Hb.out.2.2
        rcases hx with hx | ⟨b, o, hp, hb, hc⟩
        · subst hx; have := Hn.out; simp at this; omega
        rcases hy with hy | ⟨b', o', hp', hb', hc'⟩
        · subst hy; have := Hn2.out; simp at this; omega
        subst hp hp'
        have hkx : k < xs.length := by have := Hn.out; omega
        have hky : k < ys.length := by have := Hn2.out; omega
        replace hc := hc k hkx
        replace hc' := hc' k hky
        have gx : xs[k]? = some xs[k] := List.getElem?_eq_getElem hkx
        have gy : ys[k]? = some ys[k] := List.getElem?_eq_getElem hky
        have fx := Ha.out.2.1 xs[k] (List.getElem_mem hkx)
        have fy := Hb.out.2.1 ys[k] (List.getElem_mem hky)
        generalize xs[k] = x at *
        generalize ys[k] = y at *
        obtain ⟨kx, tx, px, cx, lx, ax⟩ := x
        obtain ⟨ky, ty, py, cy, ly, ay⟩ := y
        simp only at hc hc'
        have c0 := cell_later hB hc.1
        have c1 := cell_later hB hc.2.1
        have c2 := cell_later hB hc.2.2.1
        have c3 := cell_later hB hc.2.2.2
        have d0 := cell_later hB hc'.1
        have d1 := cell_later hB hc'.2.1
        have d2 := cell_later hB hc'.2.2.1
        have d3 := cell_later hB hc'.2.2.2
        have hk0 : (0 : Int) ≤ (k : Int) := by omega
        have hk1 : (k : Int) < (n : Int) := by omega
        have l1 : b < wr.heap.size := Nat.lt_of_lt_of_le hb hB.size
        have l2 : b' < wr.heap.size := Nat.lt_of_lt_of_le hb' hB.size
        have HB := hid hB
        have Gx := hid gx
        have Gy := hid gy
        have Fx := hid fx
        have Fy := hid fy
        clear hB hc hc' gx gy fx fy
        by_cases e1 : kx = ky
        rotate_left
        · have f1 : (kx != ky) = true := by rw [bne_iff_ne]; exact e1
          go_wp2
          go_quiet (fail)
          go_wp2
          go_ret
          exact ⟨by rw [sameB_no fun hS => absurd (hS.2 k _ _ Gx.out Gy.out).1 e1]; rfl, by repeat (first | exact Below.refl _ _ | exact HB.out | refine bG ?_ _ | refine bI ?_ _ _ | refine bA ?_ _ | refine bN ?_ _)⟩
        subst e1
        by_cases e2 : tx.toList = ty.toList
        rotate_left
        · have f2 : (tx.toList == ty.toList) = false := by simpa using e2
          have f2' : ¬ tx = ty := fun h => e2 (by rw [h])
          go_wp2
          go_quiet (fail)
          go_wp2
          go_ret
          exact ⟨by rw [sameB_no fun hS => absurd (hS.2 k _ _ Gx.out Gy.out).2.1 f2']; rfl, by repeat (first | exact Below.refl _ _ | exact HB.out | refine bG ?_ _ | refine bI ?_ _ _ | refine bA ?_ _ | refine bN ?_ _)⟩
        have f2 : (tx.toList == ty.toList) = true := by simpa using e2
        by_cases e3 : lx.length = ly.length
        rotate_left
        · have f3 : ((lx.length : Int) != (ly.length : Int)) = true := by rw [bne_iff_ne]; omega
          have f3' : ¬ lx = ly := fun h => e3 (by rw [h])
          go_wp2
          go_quiet (fail)
          go_wp2
          go_ret
          exact ⟨by rw [sameB_no fun hS => absurd (hS.2 k _ _ Gx.out Gy.out).2.2 f3']; rfl, by repeat (first | exact Below.refl _ _ | exact HB.out | refine bG ?_ _ | refine bI ?_ _ _ | refine bA ?_ _ | refine bN ?_ _)⟩
        go_wp2
        go_quiet (fail)
        go_wp2
        go_loopw [62] (fun i w2 => ∃ j m2 : Nat, j ≤ lx.length ∧ i = .int .i64 j ∧ w2 = wr.drewN m2 ∧ Hid (∀ m : Nat, m < j → lx[m]? = ly[m]?)) (fun i _ => lx.length - (intOf i).toNat)
        case atStart => exact ⟨0, _, by omega, rfl, rfl, fun m hm => by omega⟩
        case round =>
          obtain ⟨j, m2, hj, rfl, rfl, hJ⟩ := hrel
          by_cases hjl : j < lx.length
          · have hjy : j < ly.length := by omega
            have ix := Fx.out.2.2.2.2.2
            have iy := Fy.out.2.2.2.2.2
            rcases ix with ix | ⟨bx, ox, hpx, hbx, hcx⟩
            · simp only at ix; subst ix; simp at hjl
            rcases iy with iy | ⟨by', oy, hpy, hby, hcy⟩
            · simp only at iy; subst iy; simp at hjy
            simp only at hpx hpy hcx hcy
            subst hpx hpy
            have g0 := cell_later HB.out (hcx j hjl)
            have g1 := cell_later HB.out (hcy j hjy)
            have l3 : bx < wr.heap.size := Nat.lt_of_lt_of_le hbx HB.out.size
            have l4 : by' < wr.heap.size := Nat.lt_of_lt_of_le hby HB.out.size
            have q0 : (0 : Int) ≤ (j : Int) := by omega
            have q1 : (j : Int) < (lx.length : Int) := by omega
            have q2 : (j : Int) < (ly.length : Int) := by omega
            have qx : lx[j]? = some lx[j] := List.getElem?_eq_getElem hjl
            have qy : ly[j]? = some ly[j] := List.getElem?_eq_getElem hjy
            have HJ := hid hJ
            clear hJ hcx hcy
            generalize lx[j] = u at *
            generalize ly[j] = v at *
            have Qx := hid qx
            have Qy := hid qy
            clear qx qy
            by_cases e4 : u = v
            · subst e4
              have q3 : (lx.length : Int) ≤ 9223372036854775807 := by have := Fx.out.2.2.2.1; unfold maxLen at this; simp only at this; omega
              go_wp2
              go_quiet (fail)
              go_wp2
              go_roundw
              case rel =>
                refine ⟨j + 1, _, by omega, by go_num, rfl, fun m hm => ?_⟩
                rcases Nat.lt_or_ge m j with h | h
                · exact HJ.out m h
                · obtain rfl : m = j := by omega
                  rw [Qx.out, Qy.out]
              case measure => simp [intOf]; omega
            · have f4 : (u != v) = true := by rw [bne_iff_ne]; exact e4
              go_wp2
              go_quiet (fail)
              go_wp2
              go_ret
              have hne : ¬ SameS xs ys := fun hS => by
                have h := (hS.2 k _ _ Gx.out Gy.out).2.2
                simp only at h
                subst h
                exact e4 (Option.some.inj (Qx.out.symm.trans Qy.out))
              exact ⟨by rw [sameB_no hne]; rfl, by repeat (first | exact Below.refl _ _ | exact HB.out | refine bG ?_ _ | refine bI ?_ _ _ | refine bA ?_ _ | refine bN ?_ _)⟩
          · go_wp2
            have hkk : lx = ly := List.ext_getElem? fun m => by
              rcases Nat.lt_or_ge m lx.length with h | h
              · exact hJ.out m (by omega)
              · rw [List.getElem?_eq_none h, List.getElem?_eq_none (by omega)]
            go_roundw
            case rel =>
              refine ⟨k + 1, by omega, by go_num, by repeat (first | exact Below.refl _ _ | exact HB.out | refine bG ?_ _ | refine bI ?_ _ _ | refine bA ?_ _ | refine bN ?_ _), fun m x y hm hx hy => ?_⟩
              rcases Nat.lt_or_ge m k with h | h
              · exact hR.out m x y h hx hy
              · obtain rfl : m = k := by omega
                rw [Gx.out] at hx
                rw [Gy.out] at hy
                cases hx
                cases hy
                refine ⟨rfl, ?_, hkk⟩
                rw [ByteArray.toList_eq, ByteArray.toList_eq] at e2
                exact bytes_inj e2
            case measure => simp [intOf]; omega
      · obtain rfl : k = n := by omega
        go_wp2
        go_ret
        have hS : SameS xs ys := ⟨by have := Hn.out; have := Hn2.out; omega, fun i x y hx hy => hR.out i x y (by
          have := (List.getElem?_eq_some_iff.1 hx).1
          have := Hn.out; omega) hx hy⟩
        exact ⟨by rw [sameB_yes hS]; rfl, hB⟩
  · have hl2 : ((xs.length : Int) != (ys.length : Int)) = true := by rw [bne_iff_ne]; omega
    go_enter Tryz.func32, Tryz.ntmps32
    go_wp2
    go_ret
    exact ⟨by rw [sameB_no fun hS => absurd hS.1 hl]; rfl, Below.refl _ _⟩
end Go.Proofs.YtbgjanmheagilaaGreatDoor
