/- few nodes, walked. Conditions: none. -/
import Derived.Test.YtjchnliaglecoaaGreatDoorNodes
import Derived.Test.YtjchnliaglecoaaGreatDoorBaseBX
import Derived.Test.YtjchnliaglecoaaGreatDoorProg
set_option linter.unusedVariables false
set_option linter.unusedSimpArgs false
namespace Go.Proofs.YtjchnliaglecoaaGreatDoor
open Go Go.RowKit Go.Nodes
set_option linter.unusedVariables false
set_option linter.unusedSimpArgs false
/-- What few counts. -/
def fewS : List Nd → Int → Bool
  | [], _ => true
  | x :: l, n => if 8000 < wrap64 (n + wrap64 (wrap64 (4 + (x.kids.length : Int)) + (x.text.size : Int))) then false else fewS l (wrap64 (n + wrap64 (wrap64 (4 + (x.kids.length : Int)) + (x.text.size : Int))))
theorem fewS_drop (ns : List Nd) (k : Nat) (hk : k < ns.length) (m : Int) : fewS (ns.drop k) m = if 8000 < wrap64 (m + wrap64 (wrap64 (4 + (ns[k].kids.length : Int)) + (ns[k].text.size : Int))) then false else fewS (ns.drop (k + 1)) (wrap64 (m + wrap64 (wrap64 (4 + (ns[k].kids.length : Int)) + (ns[k].text.size : Int)))) := by
  rw [List.drop_eq_getElem_cons hk]; rfl
set_option maxHeartbeats 800000 in
theorem few_any (p : Option Addr) (cap : Nat) (ns : List Nd) (w : World) (hw : NodesAt w p ns) :
    Calls Tryz.prog 9 #[.slice p ns.length cap] w fun e w' => e = .returned (.bool (fewS ns 0)) ∧ Below w.heap.size w w' := by
  have Hw := hid hw
  clear hw
  go_enter Tryz.func9, Tryz.ntmps9
  go_wp2
  go_loopw [3, 8] (fun nv iv wr => ∃ (k : Nat) (m : Int), k ≤ ns.length ∧ iv = .int .i64 k ∧ nv = .int .i64 m ∧ Below w.heap.size w wr ∧ Hid (fewS (ns.drop k) m = fewS ns 0)) (fun _ iv _ => ns.length - (intOf iv).toNat)
  case atStart => exact ⟨0, 0, by omega, rfl, rfl, Below.refl _ _, rfl⟩
  case round =>
    obtain ⟨k, m, hk, rfl, rfl, hB, hR⟩ := hrel
    by_cases hlt : k < ns.length
    · have h0 := Hw.out.2.2
      rcases h0 with h0 | ⟨b, o, hp, hb, hc⟩
      · subst h0; simp at hlt
      subst hp
      replace hc := hc k hlt
      have hf := Hw.out.2.1 ns[k] (List.getElem_mem hlt)
      have hln := Hw.out.1
      have hd := fewS_drop ns k hlt m
      generalize ns[k] = x at *
      obtain ⟨kind, text, kp, kcap, kids, place⟩ := x
      simp only at hc hd
      obtain ⟨_, _, hts, hks, _, _⟩ := hf
      simp only at hts hks
      have c0 := cell_later hB hc.1
      have c1 := cell_later hB hc.2.1
      have c2 := cell_later hB hc.2.2.1
      have c3 := cell_later hB hc.2.2.2
      have hk0 : (0 : Int) ≤ (k : Int) := by omega
      have hk1 : (k : Int) < (ns.length : Int) := by omega
      unfold maxLen at hts hks hln
      rw [hR.out] at hd
      have HB := hid hB
      clear hB hc hR
      generalize hz : wrap64 (m + wrap64 (wrap64 (4 + (kids.length : Int)) + (text.size : Int))) = z at *
      have Hz := hid hz
      have Hd := hid hd
      clear hz hd
      go_wp2
      · rename_i h
        rw [Hz.out] at h
        have hd := Hd.out
        rw [if_pos h] at hd
        go_ret
        exact ⟨by rw [hd]; rfl, bA HB.out _⟩
      · rename_i h
        rw [Hz.out] at h
        have hd := Hd.out
        rw [if_neg (by simpa using h)] at hd
        go_roundw
        case rel => exact ⟨k + 1, _, by omega, by go_num, by rw [Hz.out], bA HB.out _, hd.symm⟩
        case measure => simp [intOf]; omega
    · obtain rfl : k = ns.length := by omega
      have hd := hR.out
      rw [List.drop_length] at hd
      go_wp2
      go_ret
      exact ⟨by rw [← hd]; rfl, hB⟩
end Go.Proofs.YtjchnliaglecoaaGreatDoor
